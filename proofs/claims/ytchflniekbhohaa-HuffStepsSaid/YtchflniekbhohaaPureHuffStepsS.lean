/- reedpipelaw09.HuffSteps answers true: bits with a step's behind them, its cost, and the step of some, or the errors, are the document's. -/
import Derived.Test.YtchflniekbhohaaPStepRS
import Derived.Test.YtchflniekbhohaaPArgsS
import Derived.Test.YtchflniekbhohaaPxreedpipelaw09HuffstepsS

/- reedpipelaw09.HuffSteps answers true: bits with a step's behind them, its cost, and the step of some, or the errors, are the document's. -/
namespace Go.Proofs.Ytchflniekbhohaa.Pure
open Go.RowKit Go.Proofs.Ytchflniekbhohaa.P Go.Proofs.YtchflniekbhohaaW.PrintWords Go.Proofs.YtchflniekbhohaaW.PrintLast Go.Proofs.YtchflniekbhohaaW.PrintMore
set_option linter.unusedVariables false
set_option linter.unusedSimpArgs false

theorem refStep_ev {l : List Int} (hl : l.length ≤ 1000000000) (d : Int) : Ev (fun k => reedpiperef09_Step.f k l d) (stepV l d) := by
  unfold stepV
  by_cases g : -60 ≤ d ∧ d ≤ 60
  · rw [if_pos g]
    obtain ⟨K1, e1⟩ := stepBits_ev g
    have c := code_at (id := 12) (by decide) (by decide) (d + 60).toNat (by rw [many12]; omega)
    dsimp only at e1
    refine ⟨K1, fun k hk => ?_⟩
    unfold reedpiperef09_Step.f
    dsimp only
    rw [if_neg (by omega), if_neg (by omega), if_pos (by simp only [List.length_nil]; omega)]
    simp only [Option.bind_some]
    rw [e1 k hk]
    simp only [Option.bind_some, List.nil_append]
    rw [if_pos (by omega)]
  · rw [if_neg g]
    refine Ev.congr (f := fun _ => some ([], 2)) (fun k => ?_) (Ev.now _)
    unfold reedpiperef09_Step.f
    by_cases g1 : d < -60
    · rw [if_pos g1]
    · rw [if_neg g1, if_pos (by omega)]
theorem HuffSteps : reedpipelaw09_HuffSteps.Pure := by
  intro l a d b1 b2 u1 w1 w2
  have hd : -9223372036854775808 ≤ d ∧ d ≤ 9223372036854775807 := by
    have e1 : IntKind.i64.min = -9223372036854775808 := rfl
    have e2 : IntKind.i64.max = 9223372036854775807 := rfl
    simp [Lit.wf] at w2; omega
  by_cases g : (l.length : Int) > 10000
  · exact ⟨0, by unfold reedpipelaw09_HuffSteps.f; rw [if_pos g]⟩
  have B : Byt l := ⟨by omega, u8s u1⟩
  obtain ⟨K1, e1⟩ := step_ev (l := l) (by omega) d hd.1 hd.2
  obtain ⟨K2, e2⟩ := refStep_ev (l := l) (by omega) d
  obtain ⟨K3, e3⟩ := stepped_ev B a
  obtain ⟨K4, e4⟩ := refStepped_ev B a
  obtain ⟨K5, e5⟩ := step_ev (l := []) (by simp) d hd.1 hd.2
  obtain ⟨K6, e6⟩ := refStep_ev (l := []) (by simp) d
  dsimp only at e1 e2 e3 e4 e5 e6
  refine ⟨K1 + K2 + K3 + K4 + K5 + K6, ?_⟩
  unfold reedpipelaw09_HuffSteps.f
  rw [if_neg g, e1 _ (by omega)]
  simp only [Option.bind_some]
  rw [e2 _ (by omega)]
  simp only [Option.bind_some]
  rw [e3 _ (by omega)]
  simp only [Option.bind_some]
  rw [e4 _ (by omega)]
  simp only [Option.bind_some]
  unfold huff_StepCost.f reedpiperef09_StepCost.f
  rw [e5 _ (by omega)]
  simp only [Option.bind_some]
  rw [e6 _ (by omega)]
  simp
end Go.Proofs.Ytchflniekbhohaa.Pure
