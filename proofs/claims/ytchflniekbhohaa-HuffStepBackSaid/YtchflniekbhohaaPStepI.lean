/- Steps by book 12: what the program puts and gets, as one law of lists. -/
import Derived.Test.YtchflniekbhohaaPReadI
import Derived.Test.YtchflniekbhohaaPValI
import Derived.Test.YtchflniekbhohaaI6a0
import Derived.Test.YtchflniekbhohaaI2abcd0
import Derived.Test.YtchflniekbhohaaPConcatI

/- Steps by book 12: what the program puts and gets, as one law of lists. -/
namespace Go.Proofs.Ytchflniekbhohaa.Pure
open Go.RowKit Go.Proofs.Ytchflniekbhohaa.P Go.Proofs.YtchflniekbhohaaW.PrintWords Go.Proofs.YtchflniekbhohaaW.PrintLast Go.Proofs.YtchflniekbhohaaW.PrintMore
set_option linter.unusedVariables false
set_option linter.unusedSimpArgs false

/-! ### Book 12 -/
theorem k12 : kindV 12 = (1, -60, 60, 0, 0) := by decide
theorem many12 : manyV 12 = 121 := by decide
theorem entry12 (d : Int) (h0 : -9223372036854775808 ≤ d) (h1 : d ≤ 9223372036854775807) : Ev (fun k => book_Entry.f k 12 [d]) (if -60 ≤ d ∧ d ≤ 60 then (d + 60, 0) else (0, 2)) := by
  refine Ev.congr (f := fun k => book_Entry.l0 k 0 [d] 1 0 1 (-60) 60 0) (fun k => ?_) ?_
  · unfold book_Entry.f
    rw [show book_of.f 12 = some (1, -60, 60, 0, 0) from congrArg some k12]
    rfl
  by_cases g : -60 ≤ d ∧ d ≤ 60
  · rw [if_pos g]
    refine Ev.step (f := fun k => book_Entry.l0 k (d + 60) [d] 1 1 1 (-60) 60 0) (fun k => ?_) (Ev.step (f := fun _ => some (d + 60, 0)) (fun k => ?_) (Ev.now _))
    · simp only [book_Entry.l0]
      rw [if_pos (by decide), if_pos (by decide), if_pos (by simp), show rd [d] 0 = d from rfl, if_neg (by omega), if_neg (by omega), show book_kind_wide.f 1 (-60) 60 0 = some 121 by decide +kernel]
      simp only [Option.bind_some]
      rw [w64 (x := 0 * 121) (by decide) (by decide), show (0 : Int) * 121 + d = d by omega, w64 (x := d) (by omega) (by omega), w64 (x := d - -60) (by omega) (by omega), show d - -60 = d + 60 by omega, w64 (x := 0 + 1) (by decide) (by decide)]
      rfl
    · simp only [book_Entry.l0]; rw [if_neg (by decide)]
  · rw [if_neg g]
    refine Ev.step (f := fun _ => some (0, 2)) (fun k => ?_) (Ev.now _)
    simp only [book_Entry.l0]
    rw [if_pos (by decide), if_pos (by decide), if_pos (by simp), show rd [d] 0 = d from rfl]
    by_cases g1 : d < -60
    · rw [if_pos g1]
    · rw [if_neg g1, if_pos (by omega)]
theorem isB_at {id : Int} (h1 : 1 ≤ id) (h2 : id ≤ 12) : isB id (kindV id).2.2.2.1 (entL id) (rnkL id) := ⟨⟨h1, h2⟩, rfl, rfl, rfl⟩
theorem get12 : book_Get.f 12 = some (12, (kindV 12).2.2.2.1, entL 12, rnkL 12, 0) := by
  show some (bookV 12) = _
  unfold bookV; rw [if_pos (by decide)]
/-- Bits with a step's behind them, or an error. -/
def stepV (l : List Int) (d : Int) : List Int × Int := if -60 ≤ d ∧ d ≤ 60 then (l ++ codeL 12 (d + 60).toNat, 0) else ([], 2)
theorem code12 {d : Int} (h : -60 ≤ d ∧ d ≤ 60) : codeV 12 (kindV 12).2.2.2.1 (entL 12) (rnkL 12) (d + 60) = (codeL 12 (d + 60).toNat, 0) := by
  unfold codeV; rw [if_pos (isB_at (by decide) (by decide)), if_pos ⟨by omega, by rw [many12]; omega⟩]
theorem codeL_pos (id : Int) (n : Nat) : 1 ≤ (codeL id n).length := by
  unfold codeL
  rw [List.length_append, List.length_append]
  have : 1 ≤ (bN (Nat.log2 ((rd (rnkL id) (n : Int)).toNat / 2 ^ (plV id).toNat + 1) + 1) ((rd (rnkL id) (n : Int)).toNat / 2 ^ (plV id).toNat + 1)).length := by rw [bN_length]; omega
  omega
theorem step_ev {l : List Int} (hl : l.length ≤ 1000000000) (d : Int) (h0 : -9223372036854775808 ≤ d) (h1 : d ≤ 9223372036854775807) : Ev (fun k => huff_Step.f k l d) (stepV l d) := by
  obtain ⟨K1, e1⟩ := entry12 d h0 h1
  obtain ⟨K2, e2⟩ := code_ev 12 (kindV 12).2.2.2.1 (entL 12) (rnkL 12) (d + 60)
  dsimp only at e1 e2
  unfold stepV
  by_cases g : -60 ≤ d ∧ d ≤ 60
  · rw [if_pos g] at e1
    rw [code12 g] at e2
    have c := code_at (id := 12) (by decide) (by decide) (d + 60).toNat (by rw [many12]; omega)
    have c1 := codeL_pos 12 (d + 60).toNat
    obtain ⟨K3, e3⟩ := concat_ev [l, codeL 12 (d + 60).toNat] (by simp) (by simp [allLen]; omega) (by simp [allLen]; omega)
    dsimp only at e3
    rw [if_pos g]
    refine ⟨K1 + K2 + K3, fun k hk => ?_⟩
    unfold huff_Step.f
    dsimp only
    rw [e1 k (by omega)]
    simp only [Option.bind_some]
    rw [if_pos trivial, get12]
    simp only [Option.bind_some]
    rw [e2 k (by omega)]
    simp only [Option.bind_some]
    rw [e3 k (by omega)]
    simp
  · rw [if_neg g] at e1 ⊢
    refine ⟨K1, fun k hk => ?_⟩
    unfold huff_Step.f
    dsimp only
    rw [e1 k (by omega)]
    simp only [Option.bind_some]
    rw [if_neg (by decide)]
/-- The step of some bits, and the place behind, or an error. -/
def steppedV (l : List Int) (p : Int) : Int × Int × Int := if (readL 12 l 10 0 p).2.2 = 0 then ((readL 12 l 10 0 p).1 - 60, (readL 12 l 10 0 p).2.1, 0) else (0, 0, (readL 12 l 10 0 p).2.2)
def val12Ok : Bool := (List.range 121).all fun e => decide (valL 12 e = [(e : Int) - 60])
theorem val12 (e : Nat) (h : e < 121) : valL 12 e = [(e : Int) - 60] := by
  have : val12Ok = true := by decide +kernel
  exact of_decide_eq_true (List.all_eq_true.1 this e (List.mem_range.2 h))
theorem stepped_ev {l : List Int} (B : Byt l) (p : Int) : Ev (fun k => huff_Stepped.f k l p) (steppedV l p) := by
  obtain ⟨K1, e1⟩ := read_ev 12 (kindV 12).2.2.2.1 (entL 12) (rnkL 12) B p
  have r1 : readV 12 (kindV 12).2.2.2.1 (entL 12) (rnkL 12) l p = readL 12 l 10 0 p := by unfold readV; rw [if_pos (isB_at (by decide) (by decide))]
  rw [r1] at e1
  dsimp only at e1
  unfold steppedV
  by_cases g : (readL 12 l 10 0 p).2.2 = 0
  · obtain ⟨a1, a2, a3, a4, a5, a6⟩ := read_code (id := 12) (by decide) (by decide) B (p := p) (x := (readL 12 l 10 0 p).1) (e := (readL 12 l 10 0 p).2.1) (by rw [← g])
    rw [many12] at a5
    obtain ⟨n, hn⟩ : ∃ n : Nat, (readL 12 l 10 0 p).1 = (n : Int) := ⟨_, (Int.toNat_of_nonneg a4).symm⟩
    obtain ⟨K2, e2⟩ := Ev.of (book_Values.mono 12 _) (val_two (id := 12) (by decide) (by decide) n (by rw [many12]; omega)).1
    dsimp only at e2
    rw [if_pos g]
    refine ⟨K1 + K2, fun k hk => ?_⟩
    unfold huff_Stepped.f
    dsimp only
    rw [get12]
    simp only [Option.bind_some]
    rw [e1 k (by omega)]
    simp only [Option.bind_some]
    rw [if_pos g, hn, e2 k (by omega)]
    simp only [Option.bind_some]
    rw [val12 n (by omega)]
    rfl
  · rw [if_neg g]
    refine ⟨K1, fun k hk => ?_⟩
    unfold huff_Stepped.f
    dsimp only
    rw [get12]
    simp only [Option.bind_some]
    rw [e1 k (by omega)]
    simp only [Option.bind_some]
    rw [if_neg g]
end Go.Proofs.Ytchflniekbhohaa.Pure
