/- reedpipelaw09.HuffStepBack answers true: steps are got as they were put, whatever stands behind, and the other way round. -/
import Derived.Test.YtchflniekbhohaaPStepI
import Derived.Test.YtchflniekbhohaaPArgs9I
import Derived.Test.YtchflniekbhohaaPxreedpipelaw09HuffstepbackI

/- reedpipelaw09.HuffStepBack answers true: steps are got as they were put, whatever stands behind, and the other way round. -/
namespace Go.Proofs.Ytchflniekbhohaa.Pure
open Go.RowKit Go.Proofs.Ytchflniekbhohaa.P Go.Proofs.YtchflniekbhohaaW.PrintWords Go.Proofs.YtchflniekbhohaaW.PrintLast Go.Proofs.YtchflniekbhohaaW.PrintMore
set_option linter.unusedVariables false
set_option linter.unusedSimpArgs false

theorem back_j2 {l : List Int} (B : Byt l) (p : Int) : Ev (fun k => reedpipelaw09_HuffStepBack.j2 k l p) true := by
  obtain ⟨K1, e1⟩ := stepped_ev B p
  dsimp only at e1
  unfold steppedV at e1
  by_cases g : (readL 12 l 10 0 p).2.2 = 0
  · rw [if_pos g] at e1
    obtain ⟨a1, a2, a3, a4, a5, a6⟩ := read_code (id := 12) (by decide) (by decide) B (p := p) (x := (readL 12 l 10 0 p).1) (e := (readL 12 l 10 0 p).2.1) (by rw [← g])
    rw [many12] at a5
    obtain ⟨K2, e2⟩ := step_ev (l := []) (by simp) ((readL 12 l 10 0 p).1 - 60) (by omega) (by omega)
    dsimp only at e2
    have e3 : stepV [] ((readL 12 l 10 0 p).1 - 60) = ((l.take (readL 12 l 10 0 p).2.1.toNat).drop p.toNat, 0) := by
      unfold stepV; rw [if_pos (by omega), Int.sub_add_cancel, a6]; rfl
    rw [e3] at e2
    refine ⟨K1 + K2 + 1, fun k hk => ?_⟩
    obtain ⟨k, rfl⟩ : ∃ k', k = k' + 1 := ⟨k - 1, by omega⟩
    simp only [reedpipelaw09_HuffStepBack.j2]
    rw [e1 _ (by omega)]
    simp only [Option.bind_some]
    rw [if_pos trivial, e2 _ (by omega)]
    simp only [Option.bind_some]
    rw [if_pos trivial, if_pos a1, if_pos a2, if_pos a3]
    simp
  · rw [if_neg g] at e1
    refine ⟨K1 + 1, fun k hk => ?_⟩
    obtain ⟨k, rfl⟩ : ∃ k', k = k' + 1 := ⟨k - 1, by omega⟩
    simp only [reedpipelaw09_HuffStepBack.j2]
    rw [e1 _ (by omega)]
    simp only [Option.bind_some]
    rw [if_neg g, if_pos trivial]
    rfl
theorem HuffStepBack : reedpipelaw09_HuffStepBack.Pure := by
  intro d l1 l2 p w0 b1 _ u1 b2 _ u2 w3
  have hd := i64_in w0
  obtain ⟨K0, e0⟩ := alive9_ev
  have done : ∀ k, reedpipelaw09_HuffStepBack.j0 (k + 1) d l1 l2 p true true = some true := fun k => by
    simp only [reedpipelaw09_HuffStepBack.j0]; rw [if_pos trivial]
  dsimp only at e0
  by_cases g1 : (l1.length : Int) > 10000
  · refine ⟨K0 + 1, ?_⟩
    unfold reedpipelaw09_HuffStepBack.f
    rw [e0 _ (by omega)]
    simp only [Option.bind_some]
    rw [if_pos g1]; exact done _
  by_cases g2 : (l2.length : Int) > 10000
  · refine ⟨K0 + 1, ?_⟩
    unfold reedpipelaw09_HuffStepBack.f
    rw [e0 _ (by omega)]
    simp only [Option.bind_some]
    rw [if_neg g1, if_pos g2]; exact done _
  have B2 : Byt l2 := ⟨by omega, u8s u2⟩
  obtain ⟨K1, e1⟩ := step_ev (l := []) (by simp) d hd.1 hd.2
  obtain ⟨K3, e3⟩ := back_j2 B2 p
  dsimp only at e1 e3
  by_cases g : -60 ≤ d ∧ d ≤ 60
  · have e4 : stepV [] d = (codeL 12 (d + 60).toNat, 0) := by unfold stepV; rw [if_pos g]; rfl
    rw [e4] at e1
    have ca := code_at (id := 12) (by decide) (by decide) (d + 60).toNat (by rw [many12]; omega)
    have Bc : Byt (codeL 12 (d + 60).toNat) := ⟨by omega, fun x hx => by have := ca.2.2.2 x hx; omega⟩
    have Bb : Byt (codeL 12 (d + 60).toNat ++ l1) := ⟨by rw [List.length_append]; omega, fun x hx => by
      rcases List.mem_append.1 hx with hx | hx
      · exact Bc.pos x hx
      · exact u8s u1 x hx⟩
    obtain ⟨K2, e2⟩ := stepped_ev Bb 0
    have e5 : steppedV (codeL 12 (d + 60).toNat ++ l1) 0 = (d, ((codeL 12 (d + 60).toNat).length : Int), 0) := by
      unfold steppedV
      rw [readL_app 12 Bc 10 0 0 ca.2.2.1, if_pos rfl]
      simp only [Prod.mk.injEq, and_true]
      omega
    rw [e5] at e2
    dsimp only at e2
    refine ⟨K0 + K1 + K2 + K3 + 2, ?_⟩
    unfold reedpipelaw09_HuffStepBack.f
    rw [e0 _ (by omega)]
    simp only [Option.bind_some]
    rw [if_neg g1, if_neg g2]
    simp only [reedpipelaw09_HuffStepBack.j0]
    rw [if_neg (by decide), e1 _ (by omega)]
    simp only [Option.bind_some]
    rw [if_pos (by omega), show ((0 : Int) == 0) = true from rfl, decide_eq_true g.2]
    simp only [reedpipelaw09_HuffStepBack.j1]
    rw [if_neg (by decide), if_pos trivial]
    simp only [Option.bind_some, List.length_nil, List.nil_append]
    rw [if_pos (by omega), if_pos (by omega), e2 _ (by omega)]
    simp only [Option.bind_some]
    rw [if_pos trivial, if_pos trivial, if_pos trivial]
    exact e3 _ (by omega)
  · have e4 : stepV [] d = ([], 2) := by unfold stepV; rw [if_neg g]
    rw [e4] at e1
    refine ⟨K0 + K1 + K3 + 2, ?_⟩
    unfold reedpipelaw09_HuffStepBack.f
    rw [e0 _ (by omega)]
    simp only [Option.bind_some]
    rw [if_neg g1, if_neg g2]
    simp only [reedpipelaw09_HuffStepBack.j0]
    rw [if_neg (by decide), e1 _ (by omega)]
    simp only [Option.bind_some]
    have fin : reedpipelaw09_HuffStepBack.j1 (K0 + K1 + K3 + 1) d l1 l2 p [] 2 false = some true := by
      simp only [reedpipelaw09_HuffStepBack.j1]
      rw [if_neg (by decide), if_neg (by decide)]
      exact e3 _ (by omega)
    by_cases h : d ≥ -60
    · rw [if_pos h, decide_eq_false (by omega)]
      exact fin
    · rw [if_neg h]
      exact fin
end Go.Proofs.Ytchflniekbhohaa.Pure
