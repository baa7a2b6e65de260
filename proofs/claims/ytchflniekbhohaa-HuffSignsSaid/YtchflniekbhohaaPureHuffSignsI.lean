/- reedpipelaw09.HuffSigns answers true: values and those with all signs turned cost the same, by books whose entries have no signs, and fit the same books. -/
import Derived.Test.YtchflniekbhohaaPPut2I
import Derived.Test.YtchflniekbhohaaPArgs9I
import Derived.Test.YtchflniekbhohaaPxreedpipelaw09HuffsignsI

/- reedpipelaw09.HuffSigns answers true: values and those with all signs turned cost the same, by books whose entries have no signs, and fit the same books. -/
namespace Go.Proofs.Ytchflniekbhohaa.Pure
open Go.RowKit Go.Proofs.Ytchflniekbhohaa.P Go.Proofs.YtchflniekbhohaaW.PrintWords Go.Proofs.YtchflniekbhohaaW.PrintLast Go.Proofs.YtchflniekbhohaaW.PrintMore
set_option linter.unusedVariables false
set_option linter.unusedSimpArgs false

def turnL (vs : List Int) : List Int := vs.map fun v => wrap64 (-v)
theorem turn_out {m v : Int} (h0 : 0 ≤ m) (h1 : m ≤ 8191) (w : -9223372036854775808 ≤ v ∧ v ≤ 9223372036854775807) : outB m (wrap64 (-v)) = outB m v := by
  unfold outB
  by_cases g : v = -9223372036854775808
  · subst g
    rw [show wrap64 (- -9223372036854775808) = -9223372036854775808 by decide +kernel]
  · rw [w64 (by omega) (by omega), Bool.eq_iff_iff]
    simp only [Bool.or_eq_true, decide_eq_true_eq]
    omega
theorem turn_fits (id : Int) (vs : List Int) (w : ∀ v ∈ vs, -9223372036854775808 ≤ v ∧ v ≤ 9223372036854775807) : fitsV id (turnL vs) = fitsV id vs := by
  have hm := mostV_bd id
  have e : (turnL vs).any (outB (mostV id)) = vs.any (outB (mostV id)) := by
    unfold turnL
    rw [List.any_map]
    induction vs with
    | nil => rfl
    | cons v r ih =>
      rw [List.any_cons, List.any_cons, ih (fun x hx => w x (List.mem_cons_of_mem _ hx))]
      congr 1
      exact turn_out hm.1 hm.2 (w v List.mem_cons_self)
  have el : (turnL vs).length = vs.length := by unfold turnL; rw [List.length_map]
  unfold fitsV
  rw [e, el]
theorem turn_len {id : Int} {vs : List Int} (h : ∀ v ∈ vs, -8191 ≤ v ∧ v ≤ 8191) (hs : signB id = false) : (bitsP id (turnL vs)).length = (bitsP id vs).length := by
  have e1 : turnL vs = vs.map fun v => -v := List.map_congr_left fun v hv => by have := h v hv; rw [w64 (by omega) (by omega)]
  have e2 : (turnL vs).map (toldV id) = vs.map (toldV id) := by
    rw [e1, List.map_map]
    refine List.map_congr_left fun v _ => ?_
    simp only [Function.comp]
    unfold toldV
    rw [Int.natAbs_neg]
  have e3 : (turnL vs).flatMap (escV id) = vs.flatMap (escV id) := by
    rw [e1]
    clear e1 e2 h
    induction vs with
    | nil => rfl
    | cons v r ih =>
      rw [List.map_cons, List.flatMap_cons, List.flatMap_cons, ih]
      congr 1
      unfold escV
      rw [Int.natAbs_neg]
  have e4 : ((turnL vs).flatMap sgB).length = (vs.flatMap sgB).length := by
    rw [e1]
    clear e1 e2 e3 h
    induction vs with
    | nil => rfl
    | cons v r ih =>
      rw [List.map_cons, List.flatMap_cons, List.flatMap_cons, List.length_append, List.length_append, ih]
      congr 1
      unfold sgB
      by_cases g : v = 0
      · subst g; rfl
      · rw [if_neg g, if_neg (by omega)]; rfl
  unfold bitsP
  rw [hs, if_neg (by decide), if_neg (by decide), e2, e3, List.length_append, List.length_append, List.length_append, List.length_append, e4]
theorem turn_go (vs : List Int) (id e : Int) (pl : Int) (E R : List Int) (hl : vs.length ≤ 10) {r : Bool} (fin : Ev (fun k => reedpipelaw09_HuffSigns.l0 k vs id e (turnL vs) (vs.length : Int) id pl E R) r) (d : Nat) : ∀ i : Nat, i + d = vs.length →
    Ev (fun k => reedpipelaw09_HuffSigns.l0 k vs id e (turnL (vs.take i)) (i : Int) id pl E R) r := by
  induction d with
  | zero =>
    intro i hi
    obtain rfl : i = vs.length := by omega
    rw [List.take_length]; exact fin
  | succ d ih =>
    intro i hi
    have hlt : i < vs.length := by omega
    have ih' := ih (i + 1) (by omega)
    have ta : (turnL (vs.take i)).length = i := by unfold turnL; rw [List.length_map, List.length_take]; omega
    have ec : turnL (vs.take (i + 1)) = turnL (vs.take i) ++ [wrap64 (-(rd vs (i : Int)))] := by
      unfold turnL; rw [take_snoc vs i hlt, List.map_append]; rfl
    rw [ec] at ih'
    refine Ev.step (fun k => ?_) ih'
    simp only [reedpipelaw09_HuffSigns.l0]
    rw [if_pos (by omega), if_pos (by omega), if_pos (by omega), w64 (x := (i : Int) + 1) (by omega) (by omega)]
    rfl
theorem bne_self (b : Bool) : (b != b) = false := by cases b <;> rfl
theorem HuffSigns : reedpipelaw09_HuffSigns.Pure := by
  intro a0 l1 w0 b1 _ u1
  obtain ⟨h1, h2⟩ := id_of11 w0
  obtain ⟨K0, e0⟩ := alive9_ev
  dsimp only at e0
  have done : ∀ k, reedpipelaw09_HuffSigns.j0 (k + 1) a0 l1 true true = some true := fun k => by
    simp only [reedpipelaw09_HuffSigns.j0]; rw [if_pos trivial]
  by_cases g1 : (l1.length : Int) > 10
  · refine ⟨K0 + 1, ?_⟩
    unfold reedpipelaw09_HuffSigns.f
    rw [e0 _ (by omega)]
    simp only [Option.bind_some]
    rw [if_pos g1]; exact done _
  have hw : ∀ v ∈ l1, -9223372036854775808 ≤ v ∧ v ≤ 9223372036854775807 := fun v hv => i64_in (u1 v hv)
  generalize hid : wrap64 (Int.tmod (wrap64 a0) 11 + 1) = id at h1 h2
  have hb : isB id (kindV id).2.2.2.1 (entL id) (rnkL id) := ⟨⟨h1, by omega⟩, rfl, rfl, rfl⟩
  obtain ⟨K2, e2⟩ := cost_ev id (kindV id).2.2.2.1 (entL id) (rnkL id) l1
  obtain ⟨K3, e3⟩ := cost_ev id (kindV id).2.2.2.1 (entL id) (rnkL id) (turnL l1)
  dsimp only at e2 e3
  have ef := turn_fits id l1 hw
  have efb : fitB id (turnL l1) = fitB id l1 := by unfold fitB; rw [ef]
  have eE : (hputV [] id (kindV id).2.2.2.1 (entL id) (rnkL id) (turnL l1)).2 = (hputV [] id (kindV id).2.2.2.1 (entL id) (rnkL id) l1).2 := by
    unfold hputV
    rw [efb, ef]
    by_cases g : fitB id l1 = true
    · rw [if_pos g, if_pos g, if_pos hb, if_pos hb]
    · rw [if_neg g, if_neg g]
  have eL : signB id = false → (hputV [] id (kindV id).2.2.2.1 (entL id) (rnkL id) (turnL l1)).1.length = (hputV [] id (kindV id).2.2.2.1 (entL id) (rnkL id) l1).1.length := by
    intro hs
    unfold hputV
    rw [efb]
    by_cases g : fitB id l1 = true
    · have hm := most_le id
      rw [if_pos g, if_pos g, if_pos hb, if_pos hb]
      simp only [List.nil_append]
      exact turn_len (fun v hv => by have := (fit_of g).2.2.2 v hv; omega) hs
    · rw [if_neg g, if_neg g]
  have fin : Ev (fun k => reedpipelaw09_HuffSigns.l0 k l1 id 0 (turnL l1) (l1.length : Int) id (kindV id).2.2.2.1 (entL id) (rnkL id)) true := by
    refine ⟨K2 + K3 + 1, fun k hk => ?_⟩
    obtain ⟨k, rfl⟩ : ∃ k', k = k' + 1 := ⟨k - 1, by omega⟩
    simp only [reedpipelaw09_HuffSigns.l0]
    rw [if_neg (by omega), fits_two, fits_two, ef]
    simp only [Option.bind_some]
    rw [e2 k (by omega)]
    simp only [Option.bind_some]
    rw [e3 k (by omega)]
    simp only [Option.bind_some]
    rw [if_pos trivial, if_pos trivial, if_pos eE.symm, bne_self, if_neg (by decide)]
    by_cases c1 : id < 3
    · rw [if_pos c1]
    rw [if_neg c1]
    by_cases c2 : id = 5
    · rw [if_pos c2]
    rw [if_neg c2]
    by_cases c3 : id = 6
    · rw [if_pos c3]
    rw [if_neg c3]
    have hs : signB id = false := by unfold signB; simp [c1, c2, c3]
    rw [eL hs]
    simp
  obtain ⟨K4, e4⟩ := turn_go l1 id 0 (kindV id).2.2.2.1 (entL id) (rnkL id) (by omega) fin l1.length 0 (by omega)
  dsimp only at e4
  refine ⟨K0 + K4 + 1, ?_⟩
  unfold reedpipelaw09_HuffSigns.f
  rw [e0 _ (by omega)]
  simp only [Option.bind_some]
  rw [if_neg g1]
  simp only [reedpipelaw09_HuffSigns.j0, hid]
  rw [show (!true) = false from rfl, if_neg (by decide), bookV_at h1 (by omega)]
  simp only [Option.bind_some]
  exact e4 _ (by omega)
end Go.Proofs.Ytchflniekbhohaa.Pure
