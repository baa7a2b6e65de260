/- The document's books are the tables. -/
import Derived.Test.YtoeiogefngcdiaaPLitC
import Derived.Test.YtoeiogefngcdiaaC0a0

/- The document's books are the tables. -/
namespace Go.Proofs.Ytoeiogefngcdiaa.Pure
open Go.RowKit Go.Proofs.Ytoeiogefngcdiaa.P Go.Proofs.YtoeiogefngcdiaaW.PrintWords Go.Proofs.YtoeiogefngcdiaaW.PrintLast
set_option linter.unusedVariables false
set_option linter.unusedSimpArgs false

/-! ### The document's books -/
set_option maxHeartbeats 8000000 in
set_option maxRecDepth 1000000 in
theorem refBook_ok {id : Int} (h1 : 1 ≤ id) (h2 : id ≤ 12) : reedpiperef08_Book.f 12000 id = some (id, (kindV id).2.2.2.1, entL id, rnkL id) := by
  rcases kind_cases h1 h2 with rfl | rfl | rfl | rfl | rfl | rfl | rfl | rfl | rfl | rfl | rfl | rfl <;> decide +kernel
theorem refBook_ev {id : Int} (h1 : 1 ≤ id) (h2 : id ≤ 12) : Ev (fun k => reedpiperef08_Book.f k id) (id, (kindV id).2.2.2.1, entL id, rnkL id) := Ev.of (reedpiperef08_Book.mono id) (refBook_ok h1 h2)
end Go.Proofs.Ytoeiogefngcdiaa.Pure
