/- reedpipelaw09.HuffNames answers true: the limit, and the chapter's examples. -/
import Derived.Test.YtchflniekbhohaaPxreedpipelaw09HuffnamesH

/- reedpipelaw09.HuffNames answers true: the limit, and the chapter's examples. -/
namespace Go.Proofs.Ytchflniekbhohaa.Pure
open Go.RowKit Go.Proofs.Ytchflniekbhohaa.P Go.Proofs.YtchflniekbhohaaW.PrintWords Go.Proofs.YtchflniekbhohaaW.PrintLast Go.Proofs.YtchflniekbhohaaW.PrintMore
set_option linter.unusedVariables false
set_option linter.unusedSimpArgs false

set_option maxRecDepth 1000000 in
theorem HuffNames : reedpipelaw09_HuffNames.Pure := ⟨3000, by decide +kernel⟩
end Go.Proofs.Ytchflniekbhohaa.Pure
