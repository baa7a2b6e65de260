/- Numbers that a law's arguments give (chapter 09), and its first examples. -/
import Derived.Test.YtchflniekbhohaaPArgsL
import Derived.Test.YtchflniekbhohaaL6a0

/- Numbers that a law's arguments give (chapter 09), and its first examples. -/
namespace Go.Proofs.Ytchflniekbhohaa.Pure
open Go.RowKit Go.Proofs.Ytchflniekbhohaa.P Go.Proofs.YtchflniekbhohaaW.PrintWords Go.Proofs.YtchflniekbhohaaW.PrintLast Go.Proofs.YtchflniekbhohaaW.PrintMore
set_option linter.unusedVariables false
set_option linter.unusedSimpArgs false
theorem alive9_ev : Ev (fun k => reedpipelaw09_alive.f k) true := Ev.of reedpipelaw09_alive.mono reedpipelaw09_alive.ok
theorem id_of11 {a : Int} (w : (Lit.int .u8 a).wf = true) : 1 ≤ wrap64 (Int.tmod (wrap64 a) 11 + 1) ∧ wrap64 (Int.tmod (wrap64 a) 11 + 1) ≤ 11 := by
 have := u8_in w
 rw [w64 (x := a) (by omega) (by omega), Int.tmod_eq_emod_of_nonneg this.1, w64 (by omega) (by omega)]
 omega
end Go.Proofs.Ytchflniekbhohaa.Pure
