/- The document's Get and Two. -/
import Derived.Test.YtchflniekbhohaaPBitsS
import Derived.Test.YtchflniekbhohaaS0a0

/- The document's Get and Two. -/
namespace Go.Proofs.Ytchflniekbhohaa.Pure
open Go.RowKit Go.Proofs.Ytchflniekbhohaa.P Go.Proofs.YtchflniekbhohaaW.PrintWords Go.Proofs.YtchflniekbhohaaW.PrintLast Go.Proofs.YtchflniekbhohaaW.PrintMore
set_option linter.unusedVariables false
set_option linter.unusedSimpArgs false

theorem refGet_go {l : List Int} (B : Byt l) (p s : Nat) (hs : s ≤ 31) (hp : p + s ≤ l.length) (d : Nat) : ∀ (i : Nat) (a : Int), i + d = s → 0 ≤ a → a < 2 ^ i →
    Ev (fun k => reedpiperef01_Get.l0 k l (p : Int) (s : Int) a ((p + i : Nat) : Int)) (gvR (gv l d (p + i) a) ((p : Int) + s)) := by
  have hl := B.len
  induction d with
  | zero =>
    intro i a hi h0 h1
    refine Ev.step (f := fun _ => some (a, (p : Int) + s, 0)) (fun k => ?_) (Ev.now _)
    simp only [reedpiperef01_Get.l0]; rw [w64 (x := (p : Int) + s) (by omega) (by omega), if_neg (by omega)]
  | succ d ih =>
    intro i a hi h0 h1
    have hb := B.at ((p + i : Nat) : Int)
    have h2 : (2 : Int) ^ i ≤ 2 ^ 31 := pow_le (by omega)
    by_cases g : rd l ((p + i : Nat) : Int) > 1
    · refine Ev.step (f := fun _ => some (0, 0, 8)) (fun k => ?_) ?_
      · simp only [reedpiperef01_Get.l0]; rw [w64 (x := (p : Int) + s) (by omega) (by omega), if_pos (by omega), if_pos (by omega), if_pos (by omega), if_neg (by omega), if_neg (by omega)]
      · simp only [gv]; rw [if_pos g]; exact Ev.now _
    · have hp2 : (2 : Int) ^ (i + 1) = 2 ^ i * 2 := Int.pow_succ _ _
      have h := ih (i + 1) (2 * a + rd l ((p + i : Nat) : Int)) (by omega) (by omega) (by omega)
      refine Ev.step (f := fun k => reedpiperef01_Get.l0 k l (p : Int) (s : Int) (2 * a + rd l ((p + i : Nat) : Int)) ((p + (i + 1) : Nat) : Int)) (fun k => ?_) ?_
      · simp only [reedpiperef01_Get.l0]
        rw [w64 (x := (p : Int) + s) (by omega) (by omega), if_pos (by omega), if_pos (by omega), if_pos (by omega), w64 (x := 2 * a) (by omega) (by omega), w64 (x := rd l ((p + i : Nat) : Int)) (by omega) (by omega), w64 (x := 2 * a + rd l ((p + i : Nat) : Int)) (by omega) (by omega), w64 (x := ((p + i : Nat) : Int) + 1) (by omega) (by omega)]
        by_cases z : rd l ((p + i : Nat) : Int) = 0
        · rw [if_pos z]; rfl
        · rw [if_neg z, if_pos (by omega)]; rfl
      · simp only [gv]; rw [if_neg g]; exact h
theorem refBits_ev {l : List Int} (B : Byt l) (a s : Int) : Ev (fun k => reedpiperef01_Get.f k l a s) (getV l a s) := by
  have hl := B.len
  unfold getV
  have bad : Ev (fun k => reedpiperef01_Get.j0 k l a s true) (0, 0, 2) := Ev.step (f := fun _ => some (0, 0, 2)) (fun k => by simp only [reedpiperef01_Get.j0]; rw [if_pos trivial]) (Ev.now _)
  by_cases h1 : s < 0
  · rw [if_neg (by omega)]
    exact Ev.congr (fun k => by unfold reedpiperef01_Get.f; rw [if_pos h1]) bad
  by_cases h2 : s > 31
  · rw [if_neg (by omega)]
    exact Ev.congr (fun k => by unfold reedpiperef01_Get.f; rw [if_neg h1, if_pos h2]) bad
  by_cases h3 : a < 0
  · rw [if_neg (by omega)]
    exact Ev.congr (fun k => by unfold reedpiperef01_Get.f; rw [if_neg h1, if_neg h2, if_pos h3]) bad
  by_cases h4 : a > (l.length : Int)
  · rw [if_neg (by omega)]
    exact Ev.congr (fun k => by unfold reedpiperef01_Get.f; rw [if_neg h1, if_neg h2, if_neg h3, decide_eq_true h4]) bad
  rw [if_pos (by omega)]
  refine Ev.congr (f := fun k => reedpiperef01_Get.j0 k l a s false) (fun k => by unfold reedpiperef01_Get.f; rw [if_neg h1, if_neg h2, if_neg h3, decide_eq_false h4]) ?_
  by_cases h5 : (l.length : Int) - a < s
  · rw [if_pos h5]
    refine Ev.step (f := fun _ => some (0, 0, 5)) (fun k => ?_) (Ev.now _)
    simp only [reedpiperef01_Get.j0]; rw [if_neg (by decide), w64 (by omega) (by omega), if_pos (by omega)]
  · rw [if_neg h5]
    obtain ⟨p, rfl⟩ : ∃ p : Nat, a = (p : Int) := ⟨a.toNat, by omega⟩
    obtain ⟨n, rfl⟩ : ∃ n : Nat, s = (n : Int) := ⟨s.toNat, by omega⟩
    have := refGet_go B p n (by omega) (by omega) n 0 0 (by omega) (by decide) (by decide)
    refine Ev.step (fun k => ?_) this
    simp only [reedpiperef01_Get.j0]; rw [if_neg (by decide), w64 (by omega) (by omega), if_neg (by omega)]; rfl
theorem two_go (n : Nat) (hn : n ≤ 60) (d : Nat) : ∀ i : Nat, i + d = n → Ev (fun k => reedpiperef01_Two.l0 k (n : Int) (2 ^ i) (i : Int)) (2 ^ n) := by
  induction d with
  | zero =>
    intro i hi
    obtain rfl : i = n := by omega
    refine Ev.step (f := fun _ => some (2 ^ i)) (fun k => ?_) (Ev.now _)
    simp only [reedpiperef01_Two.l0]; rw [if_neg (by omega)]
  | succ d ih =>
    intro i hi
    have h1 : (2 : Int) ^ i ≤ 2 ^ 60 := pow_le (by omega)
    have h0 := pow_ge i
    have e : (2 : Int) ^ (i + 1) = 2 * 2 ^ i := by rw [Int.pow_succ]; omega
    refine Ev.step (fun k => ?_) (ih (i + 1) (by omega))
    simp only [reedpiperef01_Two.l0]; rw [if_pos (by omega), w64 (x := 2 * 2 ^ i) (by omega) (by omega), w64 (x := (i : Int) + 1) (by omega) (by omega), e]; rfl
theorem two_ev (n : Nat) (hn : n ≤ 60) : Ev (fun k => reedpiperef01_Two.f k (n : Int)) (2 ^ n) := two_go n hn n 0 (by omega)
end Go.Proofs.Ytchflniekbhohaa.Pure
