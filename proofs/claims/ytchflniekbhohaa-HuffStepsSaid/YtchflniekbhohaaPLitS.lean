/- What the pure laws of books stand on: whole numbers, lists that are the same, the tables' lengths. -/
import Derived.Test.YtchflniekbhohaaHRightS
import Derived.Test.YtchflniekbhohaaHLitS
import Derived.Test.YtchflniekbhohaaS0a1

/- What the pure laws of books stand on: whole numbers, lists that are the same, the tables' lengths. -/
namespace Go.Proofs.Ytchflniekbhohaa.Pure
open Go.RowKit Go.Proofs.Ytchflniekbhohaa.P Go.Proofs.YtchflniekbhohaaW.PrintWords Go.Proofs.YtchflniekbhohaaW.PrintLast
set_option linter.unusedVariables false
set_option linter.unusedSimpArgs false

theorem w64 {x : Int} (h0 : -9223372036854775808 ≤ x) (h1 : x ≤ 9223372036854775807) : wrap64 x = x := by unfold wrap64; omega
/-! ### Lists that are the same -/
theorem len_tab {id : Int} (h1 : 1 ≤ id) (h2 : id ≤ 12) : ((entL id).length : Int) = manyV id ∧ ((rnkL id).length : Int) = manyV id := by
  rcases kind_cases h1 h2 with rfl | rfl | rfl | rfl | rfl | rfl | rfl | rfl | rfl | rfl | rfl | rfl <;> decide +kernel
end Go.Proofs.Ytchflniekbhohaa.Pure
