/- huff.Put, for every list, book and values. -/
import Derived.Test.YtchflniekbhohaaPPutL
import Derived.Test.YtchflniekbhohaaPSignL
import Derived.Test.YtchflniekbhohaaL3a1

/- huff.Put, for every list, book and values. -/
namespace Go.Proofs.Ytchflniekbhohaa.Pure
open Go.RowKit Go.Proofs.Ytchflniekbhohaa.P Go.Proofs.YtchflniekbhohaaW.PrintWords Go.Proofs.YtchflniekbhohaaW.PrintLast Go.Proofs.YtchflniekbhohaaW.PrintMore
set_option linter.unusedVariables false
set_option linter.unusedSimpArgs false

/-- What the entry says of a value; its sign's bit; its escape's bits. -/
def toldV (id v : Int) : Int := if id = 11 ∧ 16 ≤ v.natAbs then 16 else (v.natAbs : Int)
def sgB (v : Int) : List Int := if v = 0 then [] else [if v < 0 then 1 else 0]
def escV (id v : Int) : List Int := if id = 11 ∧ 16 ≤ v.natAbs then escB v.natAbs else []
/-- The bits of values that fit. -/
def bitsP (id : Int) (vs : List Int) : List Int :=
  if signB id = true then codeL id (entE id vs) else codeL id (entE id (vs.map (toldV id))) ++ (vs.flatMap sgB ++ vs.flatMap (escV id))
def errP (id pl : Int) (E R : List Int) (odd : Int) : Int := if isB id pl E R then (if 11 < id then 2 else mx odd 2) else 8
def fitB (id : Int) (vs : List Int) : Bool := (fitsV id vs).1 && decide ((fitsV id vs).2 = 0)
def hputV (l : List Int) (id pl : Int) (E R vs : List Int) : List Int × Int :=
  if fitB id vs = true then (if isB id pl E R then (l ++ bitsP id vs, 0) else ([], 8)) else ([], errP id pl E R (fitsV id vs).2)
/-! ### Values that fit -/
theorem fit_of {id : Int} {vs : List Int} (h : fitB id vs = true) : 1 ≤ id ∧ id ≤ 11 ∧ (vs.length : Int) = dimV id ∧ ∀ v ∈ vs, -mostV id ≤ v ∧ v ≤ mostV id := by
  unfold fitB fitsV at h
  by_cases h1 : id < 1
  · rw [if_pos h1] at h; simp at h
  rw [if_neg h1] at h
  by_cases h2 : 11 < id
  · rw [if_pos h2] at h; simp at h
  rw [if_neg h2] at h
  by_cases h3 : (vs.length : Int) ≠ dimV id
  · rw [if_pos h3] at h; simp at h
  rw [if_neg h3] at h
  refine ⟨by omega, by omega, Classical.not_not.1 h3, fun v hv => ?_⟩
  simp only [Bool.and_eq_true, Bool.not_eq_true', decide_eq_true_eq, and_true, List.any_eq_false] at h
  have := h v hv
  unfold outB at this
  simp only [Bool.or_eq_true, decide_eq_true_eq, not_or] at this
  omega
theorem fit_mk {id : Int} {vs : List Int} (h1 : 1 ≤ id) (h2 : id ≤ 11) (h3 : (vs.length : Int) = dimV id) (h : ∀ v ∈ vs, -mostV id ≤ v ∧ v ≤ mostV id) : fitB id vs = true := by
  unfold fitB fitsV
  rw [if_neg (by omega), if_neg (by omega), if_neg (by omega)]
  simp only [Bool.and_eq_true, Bool.not_eq_true', decide_eq_true_eq, and_true, List.any_eq_false]
  intro v hv
  have := h v hv
  unfold outB
  simp only [Bool.or_eq_true, decide_eq_true_eq, not_or]
  omega
theorem dim_kind {id : Int} (h1 : 1 ≤ id) (h2 : id ≤ 11) : dimV id = (kindV id).1 := by
  have : id = 1 ∨ id = 2 ∨ id = 3 ∨ id = 4 ∨ id = 5 ∨ id = 6 ∨ id = 7 ∨ id = 8 ∨ id = 9 ∨ id = 10 ∨ id = 11 := by omega
  rcases this with rfl | rfl | rfl | rfl | rfl | rfl | rfl | rfl | rfl | rfl | rfl <;> decide
theorem range_signed {id : Int} {vs : List Int} (h : fitB id vs = true) (hs : signB id = true) : rangeOk id vs := by
  obtain ⟨h1, h2, h3, h4⟩ := fit_of h
  refine ⟨by rw [h3]; exact dim_kind h1 h2, fun v hv => ?_⟩
  have := h4 v hv
  have hc : id = 1 ∨ id = 2 ∨ id = 5 ∨ id = 6 := by
    unfold signB at hs
    simp only [Bool.or_eq_true, decide_eq_true_eq] at hs
    omega
  rcases hc with rfl | rfl | rfl | rfl
  · rw [show mostV 1 = 1 by decide] at this; rw [show (kindV 1).2.1 = -1 by decide, show (kindV 1).2.2.1 = 1 by decide]; exact this
  · rw [show mostV 2 = 1 by decide] at this; rw [show (kindV 2).2.1 = -1 by decide, show (kindV 2).2.2.1 = 1 by decide]; exact this
  · rw [show mostV 5 = 4 by decide] at this; rw [show (kindV 5).2.1 = -4 by decide, show (kindV 5).2.2.1 = 4 by decide]; exact this
  · rw [show mostV 6 = 4 by decide] at this; rw [show (kindV 6).2.1 = -4 by decide, show (kindV 6).2.2.1 = 4 by decide]; exact this
theorem told_in {id : Int} (h1 : 1 ≤ id) (h2 : id ≤ 11) (hs : signB id = false) {v : Int} (h : -mostV id ≤ v ∧ v ≤ mostV id) : (kindV id).2.1 ≤ toldV id v ∧ toldV id v ≤ (kindV id).2.2.1 := by
  have hc : id = 3 ∨ id = 4 ∨ id = 7 ∨ id = 8 ∨ id = 9 ∨ id = 10 ∨ id = 11 := by
    unfold signB at hs
    simp only [Bool.or_eq_false_iff, decide_eq_false_iff_not] at hs
    omega
  unfold toldV
  rcases hc with rfl | rfl | rfl | rfl | rfl | rfl | rfl
  · rw [show mostV 3 = 2 by decide] at h; rw [show (kindV 3).2.1 = 0 by decide, show (kindV 3).2.2.1 = 2 by decide, if_neg (by omega)]; omega
  · rw [show mostV 4 = 2 by decide] at h; rw [show (kindV 4).2.1 = 0 by decide, show (kindV 4).2.2.1 = 2 by decide, if_neg (by omega)]; omega
  · rw [show mostV 7 = 7 by decide] at h; rw [show (kindV 7).2.1 = 0 by decide, show (kindV 7).2.2.1 = 7 by decide, if_neg (by omega)]; omega
  · rw [show mostV 8 = 7 by decide] at h; rw [show (kindV 8).2.1 = 0 by decide, show (kindV 8).2.2.1 = 7 by decide, if_neg (by omega)]; omega
  · rw [show mostV 9 = 12 by decide] at h; rw [show (kindV 9).2.1 = 0 by decide, show (kindV 9).2.2.1 = 12 by decide, if_neg (by omega)]; omega
  · rw [show mostV 10 = 12 by decide] at h; rw [show (kindV 10).2.1 = 0 by decide, show (kindV 10).2.2.1 = 12 by decide, if_neg (by omega)]; omega
  · rw [show (kindV 11).2.1 = 0 by decide, show (kindV 11).2.2.1 = 16 by decide]
    by_cases g : 16 ≤ v.natAbs
    · rw [if_pos ⟨rfl, g⟩]; omega
    · rw [if_neg (fun h => g h.2)]; omega
theorem range_told {id : Int} {vs : List Int} (h : fitB id vs = true) (hs : signB id = false) : rangeOk id (vs.map (toldV id)) := by
  obtain ⟨h1, h2, h3, h4⟩ := fit_of h
  refine ⟨by rw [List.length_map, h3]; exact dim_kind h1 h2, fun v hv => ?_⟩
  obtain ⟨x, hx, rfl⟩ := List.mem_map.1 hv
  exact told_in h1 h2 hs (h4 x hx)
theorem most_le (id : Int) : mostV id ≤ 8191 := (mostV_bd id).2
theorem sgB_len (vs : List Int) : (vs.flatMap sgB).length ≤ vs.length := by
  induction vs with
  | nil => simp
  | cons v r ih =>
    have : (sgB v).length ≤ 1 := by unfold sgB; split <;> simp
    rw [List.flatMap_cons, List.length_append, List.length_cons]; omega
theorem escB_len {n : Nat} (h0 : 16 ≤ n) (h1 : n ≤ 8191) : (escB n).length ≤ 30 := by
  obtain ⟨-, -, -, -, -, -, g, h, -⟩ := esc_at h0 h1
  unfold escB; rw [List.length_append, List.length_replicate, List.length_cons, bN_length]; omega
theorem escV_len {id : Int} (vs : List Int) (h : ∀ v ∈ vs, v.natAbs ≤ 8191) : (vs.flatMap (escV id)).length ≤ 30 * vs.length := by
  induction vs with
  | nil => simp
  | cons v r ih =>
    have h2 := ih (fun x hx => h x (List.mem_cons_of_mem _ hx))
    have hv := h v (List.mem_cons_self)
    have : (escV id v).length ≤ 30 := by
      unfold escV
      by_cases g : id = 11 ∧ 16 ≤ v.natAbs
      · rw [if_pos g]; exact escB_len g.2 hv
      · rw [if_neg g]; simp
    rw [List.flatMap_cons, List.length_append, List.length_cons]; omega
/-! ### The program -/
theorem checked_ev (id pl : Int) (E R : List Int) : Ev (fun k => huff_checked.f k id pl E R) (if isB id pl E R then (if 11 < id then 2 else 0) else 8) := by
  obtain ⟨K, e⟩ := code_ev id pl E R 0
  dsimp only at e
  refine ⟨K, fun k hk => ?_⟩
  unfold huff_checked.f
  dsimp only
  rw [e k hk]
  simp only [Option.bind_some]
  unfold codeV
  by_cases g : isB id pl E R
  · have hm := many_in g.1.1 g.1.2
    rw [if_pos g, if_pos (c := 0 ≤ (0 : Int) ∧ 0 < manyV id) ⟨Int.le_refl _, hm.1⟩, if_pos rfl, if_pos g]
    by_cases h : 11 < id
    · rw [if_pos h, if_pos h]
    · rw [if_neg h, if_neg h]
  · rw [if_neg g, if_neg (by decide), if_neg g]
theorem put_bad_ev (l : List Int) (id pl : Int) (E R vs : List Int) (odd : Int) : Ev (fun k => huff_Put.j0 k l vs odd true id pl E R) ([], errP id pl E R odd) := by
  obtain ⟨K, e⟩ := checked_ev id pl E R
  dsimp only at e
  refine ⟨K + 1, fun k hk => ?_⟩
  obtain ⟨k, rfl⟩ : ∃ k', k = k' + 1 := ⟨k - 1, by omega⟩
  simp only [huff_Put.j0]
  rw [if_pos trivial, e k (by omega)]
  simp only [Option.bind_some]
  unfold errP
  by_cases g : isB id pl E R
  · rw [if_pos g, if_pos g]
    by_cases h : 11 < id
    · rw [if_pos h, if_pos h, if_neg (by decide)]
    · rw [if_neg h, if_neg h, if_pos rfl]
  · rw [if_neg g, if_neg g, if_neg (by decide)]
def tailP (l : List Int) (id pl : Int) (E R S G X : List Int) : List Int × Int := if isB id pl E R then (l ++ (codeL id (entE id S) ++ (G ++ X)), 0) else ([], 8)
theorem put_tail {l : List Int} (hl : l.length ≤ 100000000) {id : Int} (h1 : 1 ≤ id) (h2 : id ≤ 11) (pl : Int) (E R S G X vs : List Int) (n : Nat) (hS : rangeOk id S) (hG : G.length ≤ 1000) (hX : X.length ≤ 1000) :
    Ev (fun k => huff_Put.l0 k l S G X vs (n : Int) (n : Int) id pl E R) (tailP l id pl E R S G X) := by
  obtain ⟨K1, e1⟩ := Ev.of (book_Entry.mono _ _) (entry_of h1 h2 S hS)
  obtain ⟨K2, e2⟩ := code_ev id pl E R (entE id S : Int)
  dsimp only at e1 e2
  have hb := (ent_ok h1 h2 S hS).1
  unfold tailP
  by_cases g : isB id pl E R
  · have ev : codeV id pl E R (entE id S : Int) = (codeL id (entE id S), 0) := by unfold codeV; rw [if_pos g, if_pos ⟨by omega, hb⟩, Int.toNat_natCast]
    rw [ev] at e2
    have ca := code_at h1 (by omega) (entE id S) hb
    have cp : 1 ≤ (codeL id (entE id S)).length := by
      unfold codeL; rw [List.length_append, List.length_append, bN_length]; omega
    obtain ⟨K3, e3⟩ := concat_ev [l, codeL id (entE id S), G, X] (by simp) (by simp [allLen]; omega) (by simp [allLen]; omega)
    dsimp only at e3
    rw [if_pos g]
    refine ⟨K1 + K2 + K3 + 1, fun k hk => ?_⟩
    obtain ⟨k, rfl⟩ : ∃ k', k = k' + 1 := ⟨k - 1, by omega⟩
    simp only [huff_Put.l0]
    rw [if_neg (by omega), e1 k (by omega)]
    simp only [Option.bind_some]
    rw [e2 k (by omega)]
    simp only [Option.bind_some]
    rw [if_pos trivial, e3 k (by omega)]
    simp
  · have ev : codeV id pl E R (entE id S : Int) = ([], 8) := by unfold codeV; rw [if_neg g]
    rw [ev] at e2
    rw [if_neg g]
    refine ⟨K1 + K2 + 1, fun k hk => ?_⟩
    obtain ⟨k, rfl⟩ : ∃ k', k = k' + 1 := ⟨k - 1, by omega⟩
    simp only [huff_Put.l0]
    rw [if_neg (by omega), e1 k (by omega)]
    simp only [Option.bind_some]
    rw [e2 k (by omega)]
    simp only [Option.bind_some]
    rw [if_neg (by decide)]
theorem sign_bit {v : Int} (h0 : v ≠ 0) (h1 : -8191 ≤ v) (h2 : v ≤ 8191) : (IntKind.u64.wrap v / 9223372036854775808) % 256 = if v < 0 then 1 else 0 := by
  unfold IntKind.wrap
  simp [IntKind.signed, IntKind.bits]
  by_cases h : v < 0
  · rw [if_pos h]; omega
  · rw [if_neg h]; omega
theorem size_at {v : Int} (h1 : -8191 ≤ v) (h2 : v ≤ 8191) : huff_size.f v = some (v.natAbs : Int) := by
  unfold huff_size.f
  rw [w64 (by omega) (by omega)]
  unfold mx
  congr 1
  omega
theorem take_snoc (vs : List Int) (i : Nat) (h : i < vs.length) : vs.take (i + 1) = vs.take i ++ [rd vs (i : Int)] := by
  rw [List.take_add_one, List.getElem?_eq_getElem h, rd_at vs i h]; rfl
theorem put_go {l : List Int} (hl : l.length ≤ 100000000) {id : Int} (pl : Int) (E R vs : List Int) (hf : fitB id vs = true) (hs : signB id = false) (d : Nat) : ∀ i : Nat, i + d = vs.length →
    Ev (fun k => huff_Put.l0 k l ((vs.take i).map (toldV id)) ((vs.take i).flatMap sgB) ((vs.take i).flatMap (escV id)) vs (vs.length : Int) (i : Int) id pl E R) (tailP l id pl E R (vs.map (toldV id)) (vs.flatMap sgB) (vs.flatMap (escV id))) := by
  obtain ⟨h1, h2, h3, h4⟩ := fit_of hf
  have hm := most_le id
  have hd4 : vs.length ≤ 4 := by have : dimV id ≤ 4 := by unfold dimV; split <;> omega
                                 omega
  have hab : ∀ v ∈ vs, v.natAbs ≤ 8191 := fun v hv => by have := h4 v hv; omega
  have gl := sgB_len vs
  have xl := escV_len (id := id) vs hab
  induction d with
  | zero =>
    intro i hi
    obtain rfl : i = vs.length := by omega
    rw [List.take_length]
    exact put_tail hl h1 h2 pl E R _ _ _ vs vs.length (range_told hf hs) (by omega) (by omega)
  | succ d ih =>
    intro i hi
    have hlt : i < vs.length := by omega
    have hv := h4 (rd vs (i : Int)) (by rw [rd_at vs i hlt]; exact List.getElem_mem hlt)
    have ih' := ih (i + 1) (by omega)
    rw [take_snoc vs i hlt, List.map_append, List.flatMap_append, List.flatMap_append] at ih'
    have ga := sgB_len (vs.take i)
    have xa := escV_len (id := id) (vs.take i) (fun v hv => hab v (List.mem_of_mem_take hv))
    have sa : ((vs.take i).map (toldV id)).length = i := by rw [List.length_map, List.length_take]; omega
    have ta : (vs.take i).length = i := by rw [List.length_take]; omega
    rw [ta] at ga xa
    generalize (vs.take i).map (toldV id) = S at ih' sa ⊢
    generalize (vs.take i).flatMap sgB = G at ih' ga ⊢
    generalize (vs.take i).flatMap (escV id) = X at ih' xa ⊢
    generalize hrv : rd vs (i : Int) = v at hv ih'
    have hRV := Aside0.mk hrv
    clear hrv
    simp only [List.map_cons, List.map_nil, List.flatMap_cons, List.flatMap_nil, List.append_nil] at ih'
    have hwi := Aside0.mk (show wrap64 ((i : Int) + 1) = ((i + 1 : Nat) : Int) by rw [w64 (by omega) (by omega)]; omega)
    have hS17 : S.length < 17592186044416 := by omega
    have hv16 : ¬ (id = 11 ∧ 16 ≤ v.natAbs) → id = 11 → ¬ ((v.natAbs : Int) ≥ 16) := fun g hid h => g ⟨hid, by omega⟩
    -- behind the sign
    have rest : Ev (fun k => huff_Put.j2 k l S (G ++ sgB v) X (v.natAbs : Int) vs (vs.length : Int) (i : Int) id pl E R) (tailP l id pl E R (vs.map (toldV id)) (vs.flatMap sgB) (vs.flatMap (escV id))) := by
      by_cases g : id = 11 ∧ 16 ≤ v.natAbs
      · obtain ⟨rfl, g⟩ := g
        have e1 : toldV 11 v = 16 := by unfold toldV; rw [if_pos ⟨rfl, g⟩]
        have e2 : escV 11 v = escB v.natAbs := by unfold escV; rw [if_pos ⟨rfl, g⟩]
        rw [e1, e2] at ih'
        refine Ev.step (f := fun k => huff_Put.j3 k l S (G ++ sgB v) X (v.natAbs : Int) vs (vs.length : Int) (i : Int) true 11 pl E R) (fun k => ?_) ?_
        · simp only [huff_Put.j2]; rw [if_pos trivial, decide_eq_true (by omega)]
        obtain ⟨a1, a2, a3, a4, a5, a6, a7, a8, a9⟩ := esc_at g (by omega : v.natAbs ≤ 8191)
        obtain ⟨K1, b1⟩ := Ev.of (bits_Len.mono _) a1
        have a10 := put_esc g (by omega : v.natAbs ≤ 8191) X (by omega)
        obtain ⟨K2, b2⟩ := ih'
        dsimp only at b1 b2
        refine ⟨K1 + K2 + 1, fun k hk => ?_⟩
        obtain ⟨k, rfl⟩ : ∃ k', k = k' + 1 := ⟨k - 1, by omega⟩
        simp only [huff_Put.j3]
        rw [if_pos trivial, b1 k (by omega)]
        simp only [Option.bind_some]
        rw [a2]
        simp only [Option.bind_some]
        rw [if_pos (by rw [List.length_replicate]; omega), if_pos (by rw [List.length_append, List.length_replicate]; omega), a3, if_pos (by omega), a4, a10]
        simp only [Option.bind_some]
        rw [if_pos hS17, hwi.out]
        exact b2 k (by omega)
      · have e1 : toldV id v = (v.natAbs : Int) := by unfold toldV; rw [if_neg g]
        have e2 : escV id v = [] := by unfold escV; rw [if_neg g]
        rw [e1, e2, List.append_nil] at ih'
        refine Ev.step (f := fun k => huff_Put.j3 k l S (G ++ sgB v) X (v.natAbs : Int) vs (vs.length : Int) (i : Int) false id pl E R) (fun k => ?_) (Ev.step (fun k => ?_) ih')
        · simp only [huff_Put.j2]
          by_cases hid : id = 11
          · rw [if_pos hid, decide_eq_false (hv16 g hid)]
          · rw [if_neg hid]
        · simp only [huff_Put.j3]; rw [if_neg (by decide), if_pos hS17, hwi.out]
    have hi1 : (i : Int) < (vs.length : Int) := by omega
    have hi0 : (0 : Int) ≤ (i : Int) := by omega
    have hG : G.length < 140737488355328 := by omega
    have hsz := size_at (v := v) (by omega) (by omega)
    by_cases hz : v = 0
    · have eg : G ++ sgB v = G := by unfold sgB; rw [if_pos hz, List.append_nil]
      rw [eg] at rest
      refine Ev.step (fun k => ?_) rest
      simp only [huff_Put.l0]
      rw [if_pos hi1, if_pos hi0, if_pos hi1, hRV.out, hsz]
      simp only [Option.bind_some]
      rw [if_pos hz]
    · have eg : G ++ sgB v = G ++ [(IntKind.u64.wrap v / 9223372036854775808) % 256] := by unfold sgB; rw [if_neg hz, sign_bit hz (by omega) (by omega)]
      rw [eg] at rest
      refine Ev.step (fun k => ?_) rest
      simp only [huff_Put.l0]
      rw [if_pos hi1, if_pos hi0, if_pos hi1, hRV.out, hsz]
      simp only [Option.bind_some]
      rw [if_neg hz, if_pos hG]
theorem fits_two (id : Int) (vs : List Int) : huff_Fits.f id vs = some ((fitsV id vs).1, (fitsV id vs).2) := rfl
theorem put_ev {l : List Int} (hl : l.length ≤ 100000000) (id pl : Int) (E R vs : List Int) : Ev (fun k => huff_Put.f k l id pl E R vs) (hputV l id pl E R vs) := by
  unfold hputV
  by_cases hf : fitB id vs = true
  · rw [if_pos hf]
    have hf2 := hf
    unfold fitB at hf2
    simp only [Bool.and_eq_true, decide_eq_true_eq] at hf2
    refine Ev.congr (f := fun k => huff_Put.j0 k l vs (fitsV id vs).2 false id pl E R) (fun k => ?_) ?_
    · unfold huff_Put.f
      rw [fits_two]
      simp only [Option.bind_some]
      rw [if_pos hf2.2, hf2.1]
      rfl
    obtain ⟨h1, h2, h3, h4⟩ := fit_of hf
    by_cases hs : signB id = true
    · have hr := range_signed hf hs
      have hb := (ent_ok h1 h2 vs hr).1
      obtain ⟨K1, e1⟩ := Ev.of (book_Entry.mono _ _) (entry_of h1 h2 vs hr)
      obtain ⟨K2, e2⟩ := code_ev id pl E R (entE id vs : Int)
      dsimp only at e1 e2
      by_cases g : isB id pl E R
      · have ev : codeV id pl E R (entE id vs : Int) = (codeL id (entE id vs), 0) := by unfold codeV; rw [if_pos g, if_pos ⟨by omega, hb⟩, Int.toNat_natCast]
        rw [ev] at e2
        have ca := code_at h1 (by omega) (entE id vs) hb
        have cp : 1 ≤ (codeL id (entE id vs)).length := by
          unfold codeL; rw [List.length_append, List.length_append, bN_length]; omega
        obtain ⟨K3, e3⟩ := concat_ev [l, codeL id (entE id vs)] (by simp) (by simp [allLen]; omega) (by simp [allLen]; omega)
        dsimp only at e3
        rw [if_pos g]
        refine ⟨K1 + K2 + K3 + 1, fun k hk => ?_⟩
        obtain ⟨k, rfl⟩ : ∃ k', k = k' + 1 := ⟨k - 1, by omega⟩
        simp only [huff_Put.j0]
        rw [if_neg (by decide), signed_f, hs]
        simp only [Option.bind_some]
        rw [if_pos trivial, e1 k (by omega)]
        simp only [Option.bind_some]
        rw [e2 k (by omega)]
        simp only [Option.bind_some]
        rw [if_pos trivial, e3 k (by omega)]
        unfold bitsP
        rw [if_pos hs]
        simp
      · have ev : codeV id pl E R (entE id vs : Int) = ([], 8) := by unfold codeV; rw [if_neg g]
        rw [ev] at e2
        rw [if_neg g]
        refine ⟨K1 + K2 + 1, fun k hk => ?_⟩
        obtain ⟨k, rfl⟩ : ∃ k', k = k' + 1 := ⟨k - 1, by omega⟩
        simp only [huff_Put.j0]
        rw [if_neg (by decide), signed_f, hs]
        simp only [Option.bind_some]
        rw [if_pos trivial, e1 k (by omega)]
        simp only [Option.bind_some]
        rw [e2 k (by omega)]
        simp only [Option.bind_some]
        rw [if_neg (by decide)]
    · have hsf : signB id = false := by simpa using hs
      have hg := put_go hl pl E R vs hf hsf vs.length 0 (by omega)
      have et : tailP l id pl E R (vs.map (toldV id)) (vs.flatMap sgB) (vs.flatMap (escV id)) = if isB id pl E R then (l ++ bitsP id vs, 0) else ([], 8) := by
        unfold tailP bitsP
        rw [if_neg hs]
      rw [et] at hg
      refine Ev.step (fun k => ?_) hg
      simp only [huff_Put.j0]
      rw [if_neg (by decide), signed_f, hsf]
      simp only [Option.bind_some]
      rw [if_neg (by decide)]
      rfl
  · rw [if_neg hf]
    refine Ev.congr (f := fun k => huff_Put.j0 k l vs (fitsV id vs).2 true id pl E R) (fun k => ?_) (put_bad_ev l id pl E R vs (fitsV id vs).2)
    unfold huff_Put.f
    rw [fits_two]
    simp only [Option.bind_some]
    by_cases g : (fitsV id vs).2 = 0
    · rw [if_pos g]
      have : (fitsV id vs).1 = false := by
        unfold fitB at hf
        simp only [Bool.and_eq_true, decide_eq_true_eq, not_and] at hf
        cases e : (fitsV id vs).1 with
        | false => rfl
        | true => exact absurd g (hf e)
      rw [this]; rfl
    · rw [if_neg g]
theorem cost_ev (id pl : Int) (E R vs : List Int) : Ev (fun k => huff_Cost.f k id pl E R vs) (((hputV [] id pl E R vs).1.length : Int), (hputV [] id pl E R vs).2) := by
  obtain ⟨K, e⟩ := put_ev (l := []) (by simp) id pl E R vs
  dsimp only at e
  refine ⟨K, fun k hk => ?_⟩
  unfold huff_Cost.f
  dsimp only
  rw [e k hk]
  rfl
end Go.Proofs.Ytchflniekbhohaa.Pure
