/- Steps by book 12: what the document puts and gets: as the program. -/
import Derived.Test.YtchflniekbhohaaPStepS
import Derived.Test.YtchflniekbhohaaPCodeRAS
import Derived.Test.YtchflniekbhohaaS0a0
import Derived.Test.YtchflniekbhohaaS0a1

/- Steps by book 12: what the document puts and gets: as the program. -/
namespace Go.Proofs.Ytchflniekbhohaa.Pure
open Go.RowKit Go.Proofs.Ytchflniekbhohaa.P Go.Proofs.YtchflniekbhohaaW.PrintWords Go.Proofs.YtchflniekbhohaaW.PrintLast Go.Proofs.YtchflniekbhohaaW.PrintMore
set_option linter.unusedVariables false
set_option linter.unusedSimpArgs false

def stepBitsOk : Bool := (List.range 121).all fun e => decide (reedpiperef09_StepBits.f 41 ((e : Int) - 60) = some (codeL 12 e))
set_option maxRecDepth 100000 in
theorem stepBits_all : stepBitsOk = true := by decide +kernel
theorem stepBits_ev {d : Int} (h : -60 ≤ d ∧ d ≤ 60) : Ev (fun k => reedpiperef09_StepBits.f k d) (codeL 12 (d + 60).toNat) := by
  have := of_decide_eq_true (List.all_eq_true.1 stepBits_all (d + 60).toNat (List.mem_range.2 (by omega)))
  rw [show (((d + 60).toNat : Nat) : Int) - 60 = d by omega] at this
  exact Ev.of (reedpiperef09_StepBits.mono d) this
set_option maxRecDepth 100000 in
theorem refSteps_ok : reedpiperef09_Steps.f 100 = some (12, plV 12, entL 12, rnkL 12) := by decide +kernel
theorem refSteps_ev : Ev (fun k => reedpiperef09_Steps.f k) (12, plV 12, entL 12, rnkL 12) := Ev.of reedpiperef09_Steps.mono refSteps_ok
theorem refStepped_ev {l : List Int} (B : Byt l) (p : Int) : Ev (fun k => reedpiperef09_Stepped.f k l p) (steppedV l p) := by
  obtain ⟨K1, e1⟩ := refSteps_ev
  obtain ⟨K2, e2⟩ := found_ev (id := 12) (by decide) (by decide) B p
  dsimp only at e1 e2
  unfold steppedV
  refine ⟨K1 + K2, fun k hk => ?_⟩
  unfold reedpiperef09_Stepped.f
  dsimp only
  rw [e1 k (by omega)]
  simp only [Option.bind_some]
  rw [e2 k (by omega)]
  simp only [Option.bind_some]
  by_cases g : (readL 12 l 10 0 p).2.2 = 0
  · obtain ⟨a1, a2, a3, a4, a5, a6⟩ := read_code (id := 12) (by decide) (by decide) B (p := p) (x := (readL 12 l 10 0 p).1) (e := (readL 12 l 10 0 p).2.1) (by rw [← g])
    rw [many12] at a5
    rw [if_pos g, if_pos g, w64 (by omega) (by omega)]
  · rw [if_neg g, if_neg g]
end Go.Proofs.Ytchflniekbhohaa.Pure
