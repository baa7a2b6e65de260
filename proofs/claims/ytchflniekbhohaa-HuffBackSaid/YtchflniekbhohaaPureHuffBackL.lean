/- reedpipelaw09.HuffBack answers true: values that fit a book are got as they were put, whatever stands behind; what is got fits, and is put as just these bits. -/
import Derived.Test.YtchflniekbhohaaPBackL
import Derived.Test.YtchflniekbhohaaPArgs9L
import Derived.Test.YtchflniekbhohaaPxreedpipelaw09HuffbackL

/- reedpipelaw09.HuffBack answers true: values that fit a book are got as they were put, whatever stands behind; what is got fits, and is put as just these bits. -/
namespace Go.Proofs.Ytchflniekbhohaa.Pure
open Go.RowKit Go.Proofs.Ytchflniekbhohaa.P Go.Proofs.YtchflniekbhohaaW.PrintWords Go.Proofs.YtchflniekbhohaaW.PrintLast Go.Proofs.YtchflniekbhohaaW.PrintMore
set_option linter.unusedVariables false
set_option linter.unusedSimpArgs false

theorem hget_some {l : List Int} (B : Byt l) (p id pl : Int) (E R : List Int) : huff_Get.f l p id pl E R = some (hgetV l p id pl E R) := by
  unfold huff_Get.f; rw [if_pos (byt_bytB B)]
theorem reader_bad (l : List Int) (id : Int) (vs : List Int) (p : Int) (h : (readerV l id vs p).2.2 ≠ 0) : (readerV l id vs p).1 = [] ∧ (readerV l id vs p).2.1 = 0 := by
  unfold readerV at h ⊢
  split
  · exact ⟨rfl, rfl⟩
  · rename_i g
    rw [if_neg g] at h
    exact absurd rfl h
theorem hget_bad0 (l : List Int) (p id pl : Int) (E R : List Int) (h : (hgetV l p id pl E R).2.2 ≠ 0) : (hgetV l p id pl E R).1 = [] ∧ (hgetV l p id pl E R).2.1 = 0 := by
  unfold hgetV at h ⊢
  by_cases h1 : 11 < id
  · rw [if_pos h1]; exact ⟨rfl, rfl⟩
  rw [if_neg h1] at h ⊢
  by_cases h2 : (readV id pl E R l p).2.2 ≠ 0
  · rw [if_pos h2]; exact ⟨rfl, rfl⟩
  rw [if_neg h2] at h ⊢
  by_cases h3 : signB id = true
  · rw [if_pos h3] at h; exact absurd rfl h
  · rw [if_neg h3] at h ⊢
    exact reader_bad _ _ _ _ h
theorem bitsP_byt {id : Int} {vs : List Int} (hf : fitB id vs = true) : (bitsP id vs).length ≤ 1000 ∧ ∀ x ∈ bitsP id vs, 0 ≤ x ∧ x ≤ 255 := by
  obtain ⟨h1, h2, h3, h4⟩ := fit_of hf
  have hm := most_le id
  have hd4 : vs.length ≤ 4 := by have : dimV id ≤ 4 := by unfold dimV; split <;> omega
                                 omega
  unfold bitsP
  by_cases hs : signB id = true
  · rw [if_pos hs]
    obtain ⟨e1, e2⟩ := ent_ok h1 h2 vs (range_signed hf hs)
    have ca := code_at h1 (by omega) (entE id vs) e1
    exact ⟨by omega, (code_byt h1 (by omega) _ e1).pos⟩
  · have hsf : signB id = false := by simpa using hs
    rw [if_neg hs]
    obtain ⟨e1, e2⟩ := ent_ok h1 h2 _ (range_told hf hsf)
    have ca := code_at h1 (by omega) (entE id (vs.map (toldV id))) e1
    have gl := sgB_len vs
    have xl := escV_len (id := id) vs (fun v hv => by have := h4 v hv; omega)
    refine ⟨by rw [List.length_append, List.length_append]; omega, fun x hx => ?_⟩
    have bn : ∀ d n, ∀ x ∈ bN d n, 0 ≤ x ∧ x ≤ 255 := by
      intro d
      induction d with
      | zero => intro n x hx; cases hx
      | succ d ih =>
        intro n x hx
        rw [bN_cons] at hx
        have := Nat.mod_lt (n / 2 ^ d) (show 0 < 2 by decide)
        rcases List.mem_cons.1 hx with rfl | hx
        · omega
        · exact ih n x hx
    rcases List.mem_append.1 hx with hx | hx
    · exact (code_byt h1 (by omega) _ e1).pos x hx
    rcases List.mem_append.1 hx with hx | hx
    · obtain ⟨v, _, hv⟩ := List.mem_flatMap.1 hx
      unfold sgB at hv
      by_cases g : v = 0
      · rw [if_pos g] at hv; cases hv
      · rw [if_neg g, List.mem_singleton] at hv
        subst hv; split <;> omega
    · obtain ⟨v, _, hv⟩ := List.mem_flatMap.1 hx
      unfold escV at hv
      by_cases g : id = 11 ∧ 16 ≤ v.natAbs
      · rw [if_pos g] at hv
        unfold escB at hv
        rcases List.mem_append.1 hv with hv | hv
        · rw [List.mem_replicate] at hv; omega
        · rcases List.mem_cons.1 hv with rfl | hv
          · omega
          · exact bn _ _ x hv
      · rw [if_neg g] at hv; cases hv
theorem back9_j2 {l : List Int} (B : Byt l) (p : Int) {id : Int} (h1 : 1 ≤ id) (h2 : id ≤ 11) : Ev (fun k => reedpipelaw09_HuffBack.j2 k l p id (kindV id).2.2.2.1 (entL id) (rnkL id)) true := by
  have hb : isB id (kindV id).2.2.2.1 (entL id) (rnkL id) := ⟨⟨h1, by omega⟩, rfl, rfl, rfl⟩
  have hg := hget_some B p id (kindV id).2.2.2.1 (entL id) (rnkL id)
  have hbad := hget_bad0 l p id (kindV id).2.2.2.1 (entL id) (rnkL id)
  generalize hv : hgetV l p id (kindV id).2.2.2.1 (entL id) (rnkL id) = v at hg hbad
  obtain ⟨vs, q, f⟩ := v
  dsimp only at hbad
  by_cases hf : f = 0
  · subst hf
    obtain ⟨-, b2, b3, b4, b5, b6⟩ := put_get B hv
    obtain ⟨K, e⟩ := put_ev (l := []) (by simp) id (kindV id).2.2.2.1 (entL id) (rnkL id) vs
    dsimp only at e
    have ep : hputV [] id (kindV id).2.2.2.1 (entL id) (rnkL id) vs = (bitsP id vs, 0) := by unfold hputV; rw [if_pos b2, if_pos hb, List.nil_append]
    rw [ep] at e
    refine ⟨K + 1, fun k hk => ?_⟩
    obtain ⟨k, rfl⟩ : ∃ k', k = k' + 1 := ⟨k - 1, by omega⟩
    simp only [reedpipelaw09_HuffBack.j2]
    rw [hg]
    simp only [Option.bind_some]
    rw [if_pos trivial, e k (by omega)]
    simp only [Option.bind_some]
    rw [if_pos trivial, if_pos b3, if_pos b4, if_pos b5, b6]
    simp
  · obtain ⟨c1, c2⟩ := hbad hf
    refine Ev.step (f := fun _ => some true) (fun k => ?_) (Ev.now _)
    simp only [reedpipelaw09_HuffBack.j2]
    rw [hg]
    simp only [Option.bind_some]
    rw [if_neg hf, c1, c2]
    rfl
theorem HuffBack : reedpipelaw09_HuffBack.Pure := by
  intro a0 l1 l2 l3 a4 w0 b1 _ u1 b2 _ u2 b3 _ u3 _
  obtain ⟨h1, h2⟩ := id_of11 w0
  obtain ⟨K0, e0⟩ := alive9_ev
  dsimp only at e0
  have done : ∀ k, reedpipelaw09_HuffBack.j0 (k + 1) a0 l1 l2 l3 a4 true true = some true := fun k => by
    simp only [reedpipelaw09_HuffBack.j0]; rw [if_pos trivial]
  by_cases g1 : (l1.length : Int) > 10
  · refine ⟨K0 + 1, ?_⟩
    unfold reedpipelaw09_HuffBack.f
    rw [e0 _ (by omega)]
    simp only [Option.bind_some]
    rw [if_pos g1]; exact done _
  by_cases g2 : (l2.length : Int) > 10000
  · refine ⟨K0 + 1, ?_⟩
    unfold reedpipelaw09_HuffBack.f
    rw [e0 _ (by omega)]
    simp only [Option.bind_some]
    rw [if_neg g1, if_pos g2]; exact done _
  by_cases g3 : (l3.length : Int) > 10000
  · refine ⟨K0 + 1, ?_⟩
    unfold reedpipelaw09_HuffBack.f
    rw [e0 _ (by omega)]
    simp only [Option.bind_some]
    rw [if_neg g1, if_neg g2, if_pos g3]; exact done _
  have B3 : Byt l3 := ⟨by omega, u8s u3⟩
  generalize hid : wrap64 (Int.tmod (wrap64 a0) 11 + 1) = id at h1 h2
  have hb : isB id (kindV id).2.2.2.1 (entL id) (rnkL id) := ⟨⟨h1, by omega⟩, rfl, rfl, rfl⟩
  obtain ⟨K1, e1⟩ := put_ev (l := []) (by simp) id (kindV id).2.2.2.1 (entL id) (rnkL id) l1
  obtain ⟨K2, e2⟩ := cost_ev id (kindV id).2.2.2.1 (entL id) (rnkL id) l1
  obtain ⟨K3, e3⟩ := back9_j2 B3 a4 h1 h2
  obtain ⟨K4, e4⟩ := ints_self l1 (by omega)
  dsimp only at e1 e2 e3 e4
  have head : ∀ k, K0 + K1 ≤ k → reedpipelaw09_HuffBack.f (k + 1) a0 l1 l2 l3 a4 = reedpipelaw09_HuffBack.j1 k l1 l2 l3 a4 (hputV [] id (kindV id).2.2.2.1 (entL id) (rnkL id) l1).1 (hputV [] id (kindV id).2.2.2.1 (entL id) (rnkL id) l1).2 (((hputV [] id (kindV id).2.2.2.1 (entL id) (rnkL id) l1).2 == 0) != fitB id l1) id (kindV id).2.2.2.1 (entL id) (rnkL id) := by
    intro k hk
    unfold reedpipelaw09_HuffBack.f
    rw [e0 _ (by omega)]
    simp only [Option.bind_some]
    rw [if_neg g1, if_neg g2, if_neg g3, show (!true) = false from rfl]
    simp only [reedpipelaw09_HuffBack.j0, hid]
    rw [if_neg (by decide), bookV_at h1 (by omega)]
    simp only [Option.bind_some]
    rw [if_pos trivial, e1 k (by omega)]
    simp only [Option.bind_some]
    rw [fits_two]
    simp only [Option.bind_some]
    unfold fitB
    by_cases g : (fitsV id l1).2 = 0
    · rw [if_pos g, decide_eq_true g, Bool.and_true]
    · rw [if_neg g, decide_eq_false g, Bool.and_false]
  by_cases hf : fitB id l1 = true
  · have ep : hputV [] id (kindV id).2.2.2.1 (entL id) (rnkL id) l1 = (bitsP id l1, 0) := by unfold hputV; rw [if_pos hf, if_pos hb, List.nil_append]
    obtain ⟨bl, bb⟩ := bitsP_byt hf
    have Bb : Byt (bitsP id l1 ++ l2) := ⟨by rw [List.length_append]; omega, fun x hx => by
      rcases List.mem_append.1 hx with hx | hx
      · exact bb x hx
      · exact u8s u2 x hx⟩
    have hg := hget_some Bb 0 id (kindV id).2.2.2.1 (entL id) (rnkL id)
    rw [get_put hb hf] at hg
    rw [ep] at e2
    refine ⟨K0 + K1 + K2 + K3 + K4 + 3, ?_⟩
    rw [head _ (by omega), ep, hf, show (((0 : Int) == 0) != true) = false from rfl]
    simp only [reedpipelaw09_HuffBack.j1]
    rw [if_neg (by decide), if_pos trivial]
    simp only [Option.bind_some, List.length_nil, List.nil_append]
    rw [if_pos (by omega), if_pos (by omega), hg]
    simp only [Option.bind_some]
    rw [e2 _ (by omega)]
    simp only [Option.bind_some]
    rw [if_pos trivial, e4 _ (by omega)]
    simp only [Option.bind_some]
    rw [if_pos trivial, if_pos trivial, if_pos trivial, if_pos trivial]
    exact e3 _ (by omega)
  · have hff : fitB id l1 = false := by simpa using hf
    have hne : (hputV [] id (kindV id).2.2.2.1 (entL id) (rnkL id) l1).2 ≠ 0 := by
      unfold hputV
      rw [if_neg hf]
      show errP id (kindV id).2.2.2.1 (entL id) (rnkL id) (fitsV id l1).2 ≠ 0
      unfold errP
      rw [if_pos hb, if_neg (by omega)]
      unfold mx
      split <;> omega
    have hbe : ((hputV [] id (kindV id).2.2.2.1 (entL id) (rnkL id) l1).2 == 0) = false := by simpa using hne
    refine ⟨K0 + K1 + K2 + K3 + K4 + 3, ?_⟩
    rw [head _ (by omega), hbe, hff, show (false != false) = false from rfl]
    simp only [reedpipelaw09_HuffBack.j1]
    rw [if_neg (by decide), if_neg hne]
    exact e3 _ (by omega)
end Go.Proofs.Ytchflniekbhohaa.Pure
