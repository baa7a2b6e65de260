/- An entry's values, and the entry of values: the program's side. -/
import Derived.Test.YtchflniekbhohaaL2a0
import Derived.Test.YtchflniekbhohaaHGetL
import Derived.Test.YtchflniekbhohaaPLitL

/- An entry's values, and the entry of values: the program's side. -/
namespace Go.Proofs.Ytchflniekbhohaa.Pure
open Go.RowKit Go.Proofs.Ytchflniekbhohaa.P Go.Proofs.YtchflniekbhohaaW.PrintWords Go.Proofs.YtchflniekbhohaaW.PrintLast
set_option linter.unusedVariables false
set_option linter.unusedSimpArgs false

/-- An entry's values. -/
def valL (id : Int) (e : Nat) : List Int := (List.range (kindV id).1.toNat).map fun i => ((e / ((kindV id).2.2.1 - (kindV id).2.1 + 1).toNat ^ ((kindV id).1.toNat - 1 - i) % ((kindV id).2.2.1 - (kindV id).2.1 + 1).toNat : Nat) : Int) + (kindV id).2.1
def valOk (id : Int) : Bool := (List.range (manyV id).toNat).all fun e =>
 decide (book_Values.f 12 id (e : Int) = some (valL id e, 0)) && decide (book_Entry.f 12 id (valL id e) = some ((e : Int), 0))
set_option maxRecDepth 100000 in
theorem valOk_all {id : Int} (h1 : 1 ≤ id) (h2 : id ≤ 12) : valOk id = true := by
 rcases kind_cases h1 h2 with rfl | rfl | rfl | rfl | rfl | rfl | rfl | rfl | rfl | rfl | rfl | rfl <;> decide +kernel
theorem val_two {id : Int} (h1 : 1 ≤ id) (h2 : id ≤ 12) (e : Nat) (he : (e : Int) < manyV id) : book_Values.f 12 id (e : Int) = some (valL id e, 0) ∧ book_Entry.f 12 id (valL id e) = some ((e : Int), 0) := by
 have := List.all_eq_true.1 (valOk_all h1 h2) e (List.mem_range.2 (by omega))
 simp only [Bool.and_eq_true, decide_eq_true_eq] at this
 exact this
/-- The values of an entry, or an error. -/
def valuesV (id e : Int) : List Int × Int := if 1 ≤ id ∧ id ≤ 12 ∧ 0 ≤ e ∧ e < manyV id then (valL id e.toNat, 0) else ([], 2)
end Go.Proofs.Ytchflniekbhohaa.Pure
