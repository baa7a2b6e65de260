/- What the pure laws of books stand on: whole numbers, lists that are the same, the tables' lengths. -/
import Derived.Test.YtchflniekbhohaaHRightL
import Derived.Test.YtchflniekbhohaaHLitL
import Derived.Test.YtchflniekbhohaaL0a0

/- What the pure laws of books stand on: whole numbers, lists that are the same, the tables' lengths. -/
namespace Go.Proofs.Ytchflniekbhohaa.Pure
open Go.RowKit Go.Proofs.Ytchflniekbhohaa.P Go.Proofs.YtchflniekbhohaaW.PrintWords Go.Proofs.YtchflniekbhohaaW.PrintLast
set_option linter.unusedVariables false
set_option linter.unusedSimpArgs false

theorem w64 {x : Int} (h0 : -9223372036854775808 ≤ x) (h1 : x ≤ 9223372036854775807) : wrap64 x = x := by unfold wrap64; omega
/-! ### Lists that are the same -/
theorem ints_go (l : List Int) (hl : l.length ≤ 140737488355328) (d : Nat) : ∀ (i : Nat), i + d = l.length → Ev (fun k => reedpiperef06_Ints.l0 k l l (i : Int)) true := by
 induction d with
 | zero =>
  intro i hi
  refine Ev.step (f := fun _ => some true) (fun k => ?_) (Ev.now _)
  simp only [reedpiperef06_Ints.l0]
  rw [if_neg (by omega)]
 | succ d ih =>
  intro i hi
  refine Ev.step (fun k => ?_) (ih (i + 1) (by omega))
  simp only [reedpiperef06_Ints.l0]
  rw [if_pos (by omega), if_pos (by omega), if_pos (by omega), if_pos trivial, w64 (by omega) (by omega)]
  rfl
theorem ints_self (l : List Int) (hl : l.length ≤ 140737488355328) : Ev (fun k => reedpiperef06_Ints.f k l l) true := by
 refine Ev.congr (fun k => ?_) (ints_go l hl l.length 0 (by omega))
 unfold reedpiperef06_Ints.f
 rw [if_pos rfl]; rfl
theorem len_tab {id : Int} (h1 : 1 ≤ id) (h2 : id ≤ 12) : ((entL id).length : Int) = manyV id ∧ ((rnkL id).length : Int) = manyV id := by
 rcases kind_cases h1 h2 with rfl | rfl | rfl | rfl | rfl | rfl | rfl | rfl | rfl | rfl | rfl | rfl <;> decide +kernel
theorem many_in {id : Int} (h1 : 1 ≤ id) (h2 : id ≤ 12) : 0 < manyV id ∧ manyV id ≤ 289 := by
 rcases kind_cases h1 h2 with rfl | rfl | rfl | rfl | rfl | rfl | rfl | rfl | rfl | rfl | rfl | rfl <;> decide
end Go.Proofs.Ytchflniekbhohaa.Pure
