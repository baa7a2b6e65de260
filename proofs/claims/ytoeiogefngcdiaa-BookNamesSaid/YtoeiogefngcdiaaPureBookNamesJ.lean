/- reedpipelaw08.BookNames answers true: the errors' numbers, and the chapter's examples of books. -/
import Derived.Test.YtoeiogefngcdiaaPxreedpipelaw08BooknamesJ
import Derived.Test.YtoeiogefngcdiaaHGetJ

/- reedpipelaw08.BookNames answers true: the errors' numbers, and the chapter's examples of books. -/
namespace Go.Proofs.Ytoeiogefngcdiaa.Pure
open Go.RowKit Go.Proofs.Ytoeiogefngcdiaa.P Go.Proofs.YtoeiogefngcdiaaW.PrintWords Go.Proofs.YtoeiogefngcdiaaW.PrintLast
set_option linter.unusedVariables false
set_option linter.unusedSimpArgs false

set_option maxRecDepth 1000000 in
set_option maxHeartbeats 4000000 in
theorem names_ok : reedpipelaw08_BookNames.f 3000 = some true := by decide +kernel
theorem BookNames : reedpipelaw08_BookNames.Pure := ⟨3000, names_ok⟩
end Go.Proofs.Ytoeiogefngcdiaa.Pure
