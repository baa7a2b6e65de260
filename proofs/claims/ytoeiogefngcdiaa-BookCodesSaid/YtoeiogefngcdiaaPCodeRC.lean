/- The document's codes, and what it reads: the same as the program's. -/
import Derived.Test.YtoeiogefngcdiaaPCodeC
import Derived.Test.YtoeiogefngcdiaaPBitsRC
import Derived.Test.YtoeiogefngcdiaaPRefBookC
import Derived.Test.YtoeiogefngcdiaaC0a1
import Derived.Test.YtoeiogefngcdiaaC0a2

/- The document's codes, and what it reads: the same as the program's. -/
namespace Go.Proofs.Ytoeiogefngcdiaa.Pure
open Go.RowKit Go.Proofs.Ytoeiogefngcdiaa.P Go.Proofs.YtoeiogefngcdiaaW.PrintWords Go.Proofs.YtoeiogefngcdiaaW.PrintLast Go.Proofs.YtoeiogefngcdiaaW.PrintMore
set_option linter.unusedVariables false
set_option linter.unusedSimpArgs false

theorem ints_odd (l m : List Int) (hl : l.length = m.length) (hm : m.length ≤ 140737488355328) (d : Nat) : ∀ (i : Nat), i + d = l.length → (∃ j : Nat, i ≤ j ∧ j < l.length ∧ rd l (j : Int) ≠ rd m (j : Int)) → Ev (fun k => reedpiperef06_Ints.l0 k l m (i : Int)) false := by
  induction d with
  | zero => rintro i hi ⟨j, a, b, _⟩; omega
  | succ d ih =>
    rintro i hi ⟨j, hj1, hj2, hj⟩
    by_cases g : rd l (i : Int) = rd m (i : Int)
    · have hij : i ≠ j := by rintro rfl; exact hj g
      refine Ev.step (fun k => ?_) (ih (i + 1) (by omega) ⟨j, by omega, hj2, hj⟩)
      simp only [reedpiperef06_Ints.l0]
      rw [if_pos (by omega), if_pos (by omega), if_pos (by omega), if_pos g, w64 (by omega) (by omega)]
      rfl
    · refine Ev.step (f := fun _ => some false) (fun k => ?_) (Ev.now _)
      simp only [reedpiperef06_Ints.l0]
      rw [if_pos (by omega), if_pos (by omega), if_pos (by omega), if_neg g]
theorem ints_ev (l m : List Int) (hl : l.length ≤ 140737488355328) (hm : m.length ≤ 140737488355328) : Ev (fun k => reedpiperef06_Ints.f k l m) (decide (l = m)) := by
  by_cases e : l = m
  · subst e; rw [decide_eq_true rfl]; exact ints_self l hl
  · rw [decide_eq_false e]
    by_cases g : l.length = m.length
    · refine Ev.congr (f := fun k => reedpiperef06_Ints.l0 k l m ((0 : Nat) : Int)) (fun k => ?_) (ints_odd l m g hm l.length 0 (by omega) ?_)
      · unfold reedpiperef06_Ints.f; rw [if_pos (by omega)]; rfl
      · refine Classical.byContradiction fun h => e (List.ext_getElem g fun i h1 h2 => ?_)
        rw [← rd_at l i h1, ← rd_at m i h2]
        exact Classical.byContradiction fun hne => h ⟨i, Nat.zero_le _, h1, hne⟩
    · refine Ev.congr (f := fun _ => some false) (fun k => ?_) (Ev.now _)
      unfold reedpiperef06_Ints.f; rw [if_neg (by omega)]
theorem may_ev (id plain : Int) (E R : List Int) (hE : E.length ≤ 140737488355328) (hR : R.length ≤ 140737488355328) : Ev (fun k => reedpiperef08_May.f k id plain E R) (decide (isB id plain E R)) := by
  by_cases h1 : 1 ≤ id
  rotate_left
  · refine Ev.congr (f := fun _ => some (decide (isB id plain E R))) (fun k => ?_) (Ev.now _)
    unfold reedpiperef08_May.f; rw [if_neg (by omega), decide_eq_false (by unfold isB; omega)]
  by_cases h2 : id ≤ 12
  rotate_left
  · refine Ev.congr (f := fun _ => some (decide (isB id plain E R))) (fun k => ?_) (Ev.now _)
    unfold reedpiperef08_May.f; rw [if_pos (by omega), if_neg h2, decide_eq_false (by unfold isB; omega)]
  have hb := len_tab h1 h2
  have hm := many_in h1 h2
  refine Ev.congr (f := fun k => (reedpiperef08_Book.f k id).bind fun bt170 => ((reedpiperef08_Same.f k id plain E R bt170.1 bt170.2.1 bt170.2.2.1 bt170.2.2.2).bind fun t178 => (some t178))) (fun k => by unfold reedpiperef08_May.f; rw [if_pos (by omega), if_pos h2]) (Ev.bind (refBook_ev h1 h2) ?_)
  refine Ev.bind (a := decide (isB id plain E R)) ?_ (Ev.now _)
  by_cases e : plain = (kindV id).2.2.2.1
  rotate_left
  · refine Ev.congr (f := fun _ => some (decide (isB id plain E R))) (fun k => ?_) (Ev.now _)
    unfold reedpiperef08_Same.f; rw [if_pos rfl, if_neg e, decide_eq_false (fun h => e h.2.1)]
  refine Ev.congr (f := fun k => (reedpiperef06_Ints.f k E (entL id)).bind fun t => if t = true then (reedpiperef06_Ints.f k R (rnkL id)).bind fun t => some t else some false) (fun k => by unfold reedpiperef08_Same.f; rw [if_pos rfl, if_pos e]) (Ev.bind (ints_ev E (entL id) hE (by omega)) ?_)
  by_cases e2 : E = entL id
  · refine Ev.congr (f := fun k => (reedpiperef06_Ints.f k R (rnkL id)).bind fun t => some t) (fun k => by rw [if_pos (decide_eq_true e2)]) (Ev.bind (ints_ev R (rnkL id) hR (by omega)) ?_)
    refine Ev.congr (f := fun _ => some (decide (R = rnkL id))) (fun k => rfl) ?_
    rw [show decide (isB id plain E R) = decide (R = rnkL id) by simp [isB, h1, h2, e, e2]]
    exact Ev.now _
  · rw [decide_eq_false (show ¬ isB id plain E R from fun h => e2 h.2.2.1)]
    exact Ev.congr (f := fun _ => some false) (fun k => by rw [decide_eq_false e2, if_neg (by decide)]) (Ev.now _)
theorem rank_ref {m : Nat} {h pl w : Int} (hm : m ≤ 9) (h0 : 0 ≤ h) (h1 : h < 2 ^ m) (p0 : 0 ≤ pl) (p2 : pl ≤ 2) (w0 : 0 ≤ w) (w1 : w < 2 ^ pl.toNat) :
    wrap64 ((wrap64 ((wrap64 ((wrap64 (2 ^ m + h)) - 1)) * 2 ^ pl.toNat)) + w) = rankV m h pl w := by
  obtain ⟨a, b, c, d, e, f, g⟩ := rank_in hm h0 h1 p0 p2 w0 w1
  rw [w64 (x := 2 ^ m + h) (by omega) (by omega), w64 (x := 2 ^ m + h - 1) (by omega) (by omega), w64 (x := (2 ^ m + h - 1) * 2 ^ pl.toNat) (by omega) (by omega), w64 (by omega) (by omega)]
  rfl
theorem refRead_go {id : Int} (h1 : 1 ≤ id) (h2 : id ≤ 12) {l : List Int} (B : Byt l) (d : Nat) : ∀ (m : Nat) (p : Int), m + d = 10 →
    Ev (fun k => reedpiperef08_Found.l0 k l p (m : Int) id (plV id) (entL id) (rnkL id)) (readL id l d m p) := by
  obtain ⟨p0, p2⟩ := plain_in h1 h2
  induction d with
  | zero =>
    intro m p hm
    refine Ev.step (f := fun _ => some (0, 0, 8)) (fun k => ?_) (Ev.now _)
    simp only [reedpiperef08_Found.l0]; rw [if_pos (by omega)]
  | succ d ih =>
    intro m p hm
    obtain ⟨K1, e1⟩ := refBits_ev B p 1
    obtain ⟨K2, e2⟩ := ih (m + 1) (getV l p 1).2.1 (by omega)
    obtain ⟨K3, e3⟩ := refBits_ev B (getV l p 1).2.1 (m : Int)
    obtain ⟨K4, e4⟩ := refBits_ev B (getV l (getV l p 1).2.1 (m : Int)).2.1 (plV id)
    obtain ⟨K5, e5⟩ := two_ev m (by omega)
    obtain ⟨K6, e6⟩ := two_ev (plV id).toNat (by omega)
    rw [Int.toNat_of_nonneg p0] at e6
    dsimp only at e1 e2 e3 e4 e5 e6
    refine ⟨K1 + K2 + K3 + K4 + K5 + K6 + 1, fun k hk => ?_⟩
    obtain ⟨k, rfl⟩ : ∃ k', k = k' + 1 := ⟨k - 1, by omega⟩
    simp only [reedpiperef08_Found.l0]
    rw [if_neg (by omega), e1 k (by omega)]
    simp only [Option.bind_some, readL]
    by_cases g : (getV l p 1).2.2 = 0
    · rw [if_pos g, if_pos g]
      rcases get_one B g with g0 | g0
      · rw [if_neg (by omega), if_pos g0, w64 (by omega) (by omega)]; exact e2 k (by omega)
      · rw [if_pos g0, if_neg (by omega), e3 k (by omega)]
        simp only [Option.bind_some]
        unfold tailV
        by_cases g1 : (getV l (getV l p 1).2.1 (m : Int)).2.2 = 0
        · rw [if_pos g1, if_pos g1, e4 k (by omega)]
          simp only [Option.bind_some]
          by_cases g2 : (getV l (getV l (getV l p 1).2.1 (m : Int)).2.1 (plV id)).2.2 = 0
          · have o1 := getV_ok B (getV_eta g1)
            have o2 := getV_ok B (getV_eta g2)
            rw [Int.toNat_natCast] at o1
            have gg := (rank_in (by omega : m ≤ 9) o1.2.2.2.2.2.2.1 o1.2.2.2.2.2.2.2 p0 p2 o2.2.2.2.2.2.2.1 o2.2.2.2.2.2.2.2).2.2.2.2.2.2
            rw [if_pos g2, if_pos g2, e5 k (by omega)]
            simp only [Option.bind_some]
            rw [e6 k (by omega)]
            simp only [Option.bind_some]
            rw [rank_ref (by omega : m ≤ 9) o1.2.2.2.2.2.2.1 o1.2.2.2.2.2.2.2 p0 p2 o2.2.2.2.2.2.2.1 o2.2.2.2.2.2.2.2]
            by_cases g3 : rankV m (getV l (getV l p 1).2.1 (m : Int)).1 (plV id) (getV l (getV l (getV l p 1).2.1 (m : Int)).2.1 (plV id)).1 ≥ ((entL id).length : Int)
            · rw [if_pos g3, if_pos g3]
            · rw [if_neg g3, if_neg g3, if_pos gg, if_pos (by omega)]
          · rw [if_neg g2, if_neg g2]
        · rw [if_neg g1, if_neg g1]
    · rw [if_neg g, if_neg g]
theorem refRead_ev (id plain : Int) (E R : List Int) (hE : E.length ≤ 140737488355328) (hR : R.length ≤ 140737488355328) {l : List Int} (B : Byt l) (p : Int) : Ev (fun k => reedpiperef08_Read.f k id plain E R l p) (readV id plain E R l p) := by
  obtain ⟨K1, e1⟩ := may_ev id plain E R hE hR
  unfold readV
  by_cases h : isB id plain E R
  · rw [if_pos h]
    rw [decide_eq_true h] at e1
    obtain ⟨⟨h1, h2⟩, rfl, rfl, rfl⟩ := h
    suffices H : Ev (fun k => reedpiperef08_Found.f k id (kindV id).2.2.2.1 (entL id) (rnkL id) l p) (readL id l 10 0 p) by
      obtain ⟨K2, e2⟩ := H
      dsimp only at e1 e2
      refine ⟨K1 + K2, fun k hk => ?_⟩
      unfold reedpiperef08_Read.f
      dsimp only
      rw [e1 k (by omega)]
      simp only [Option.bind_some]
      rw [if_pos trivial, e2 k (by omega)]
      rfl
    by_cases g : 0 ≤ p ∧ p ≤ (l.length : Int)
    · refine Ev.congr (f := fun k => reedpiperef08_Found.j0 k l p false id (kindV id).2.2.2.1 (entL id) (rnkL id)) (fun k => ?_) (Ev.step (fun k => ?_) (refRead_go h1 h2 B 10 0 p rfl))
      · unfold reedpiperef08_Found.f; rw [if_neg (by omega), decide_eq_false (by omega)]
      · simp only [reedpiperef08_Found.j0]; rw [if_neg (by decide)]; rfl
    · refine Ev.congr (f := fun k => reedpiperef08_Found.j0 k l p true id (kindV id).2.2.2.1 (entL id) (rnkL id)) (fun k => ?_) (Ev.step (f := fun _ => some (0, 0, 2)) (fun k => ?_) ?_)
      · unfold reedpiperef08_Found.f
        by_cases g2 : p < 0
        · rw [if_pos g2]
        · rw [if_neg g2, decide_eq_true (by omega)]
      · simp only [reedpiperef08_Found.j0]; rw [if_pos trivial]
      · have : getV l p 1 = (0, 0, 2) := by unfold getV; rw [if_neg (by omega)]
        simp only [readL, this]
        exact Ev.now _
  · rw [if_neg h]
    rw [decide_eq_false h] at e1
    dsimp only at e1
    refine ⟨K1, fun k hk => ?_⟩
    unfold reedpiperef08_Read.f
    dsimp only
    rw [e1 k hk]
    simp only [Option.bind_some]
    rw [if_neg (by decide)]
def refCodeOk (id : Int) : Bool := (List.range (manyV id).toNat).all fun e => decide (reedpiperef08_Bits.f 40 (rd (rnkL id) (e : Int)) (plV id) = some (codeL id e))
set_option maxHeartbeats 8000000 in
set_option maxRecDepth 100000 in
theorem refCodeOk_all {id : Int} (h1 : 1 ≤ id) (h2 : id ≤ 12) : refCodeOk id = true := by
  rcases kind_cases h1 h2 with rfl | rfl | rfl | rfl | rfl | rfl | rfl | rfl | rfl | rfl | rfl | rfl <;> decide +kernel
theorem refCode_at {id : Int} (h1 : 1 ≤ id) (h2 : id ≤ 12) (e : Nat) (he : (e : Int) < manyV id) : reedpiperef08_Bits.f 40 (rd (rnkL id) (e : Int)) (plV id) = some (codeL id e) :=
  of_decide_eq_true (List.all_eq_true.1 (refCodeOk_all h1 h2) e (List.mem_range.2 (by omega)))
theorem refCode_ev (id plain : Int) (E R : List Int) (hE : E.length ≤ 140737488355328) (hR : R.length ≤ 140737488355328) (e : Int) : Ev (fun k => reedpiperef08_Code.f k id plain E R e) (codeV id plain E R e) := by
  obtain ⟨K1, e1⟩ := may_ev id plain E R hE hR
  unfold codeV
  by_cases h : isB id plain E R
  · rw [if_pos h]
    rw [decide_eq_true h] at e1
    obtain ⟨⟨h1, h2⟩, rfl, rfl, rfl⟩ := h
    have hl := len_tab h1 h2
    dsimp only at e1
    by_cases g : 0 ≤ e ∧ e < manyV id
    · rw [if_pos g]
      obtain ⟨n, rfl⟩ : ∃ n : Nat, e = (n : Int) := ⟨e.toNat, by omega⟩
      obtain ⟨K2, e2⟩ := Ev.of (reedpiperef08_Bits.mono _ _) (refCode_at h1 h2 n g.2)
      dsimp only at e2
      refine ⟨K1 + K2, fun k hk => ?_⟩
      unfold reedpiperef08_Code.f
      dsimp only
      rw [e1 k (by omega)]
      simp only [Option.bind_some]
      rw [if_pos trivial, if_neg (by omega), if_neg (by omega), if_pos (by omega), if_pos (by omega)]
      rw [show reedpiperef08_Bits.f k (rd (rnkL id) (n : Int)) (kindV id).2.2.2.1 = some (codeL id n) from e2 k (by omega)]
      rfl
    · rw [if_neg g]
      refine ⟨K1, fun k hk => ?_⟩
      unfold reedpiperef08_Code.f
      dsimp only
      rw [e1 k hk]
      simp only [Option.bind_some]
      rw [if_pos trivial]
      by_cases g2 : e < 0
      · rw [if_pos g2]
      · rw [if_neg g2, if_pos (by omega)]
  · rw [if_neg h]
    rw [decide_eq_false h] at e1
    dsimp only at e1
    refine ⟨K1, fun k hk => ?_⟩
    unfold reedpiperef08_Code.f
    dsimp only
    rw [e1 k hk]
    simp only [Option.bind_some]
    rw [if_neg (by decide)]
end Go.Proofs.Ytoeiogefngcdiaa.Pure
