/- What huff.Put answers, as a function of lists: the entry's code, the signs, the escapes. -/
import Derived.Test.YtchflniekbhohaaPCodeL
import Derived.Test.YtchflniekbhohaaPValL
import Derived.Test.YtchflniekbhohaaPConcatL
import Derived.Test.YtchflniekbhohaaL3a1

/- What huff.Put answers, as a function of lists: the entry's code, the signs, the escapes. -/
namespace Go.Proofs.Ytchflniekbhohaa.Pure
open Go.RowKit Go.Proofs.Ytchflniekbhohaa.P Go.Proofs.YtchflniekbhohaaW.PrintWords Go.Proofs.YtchflniekbhohaaW.PrintLast Go.Proofs.YtchflniekbhohaaW.PrintMore
set_option linter.unusedVariables false
set_option linter.unusedSimpArgs false

/-! ### Entries of values -/
/-- An entry of values, by book. -/
def entE (id : Int) (vs : List Int) : Nat := vs.foldl (fun n v => n * ((kindV id).2.2.1 - (kindV id).2.1 + 1).toNat + (v - (kindV id).2.1).toNat) 0
def rangeOk (id : Int) (vs : List Int) : Prop := (vs.length : Int) = (kindV id).1 ∧ ∀ v ∈ vs, (kindV id).2.1 ≤ v ∧ v ≤ (kindV id).2.2.1
theorem four_of {vs : List Int} (h : vs.length = 4) : ∃ a b c d, vs = [a, b, c, d] := by
 match vs, h with
 | [a, b, c, d], _ => exact ⟨a, b, c, d, rfl⟩
theorem two_of {vs : List Int} (h : vs.length = 2) : ∃ a b, vs = [a, b] := by
 match vs, h with
 | [a, b], _ => exact ⟨a, b, rfl⟩
theorem valL4 (id : Int) (e : Nat) (w : Nat) (lo : Int) (h1 : (kindV id).1.toNat = 4) (h2 : ((kindV id).2.2.1 - (kindV id).2.1 + 1).toNat = w) (h3 : (kindV id).2.1 = lo) :
  valL id e = [((e / w ^ 3 % w : Nat) : Int) + lo, ((e / w ^ 2 % w : Nat) : Int) + lo, ((e / w ^ 1 % w : Nat) : Int) + lo, ((e / w ^ 0 % w : Nat) : Int) + lo] := by
 unfold valL; rw [h1, h2, h3]; rfl
theorem valL2 (id : Int) (e : Nat) (w : Nat) (lo : Int) (h1 : (kindV id).1.toNat = 2) (h2 : ((kindV id).2.2.1 - (kindV id).2.1 + 1).toNat = w) (h3 : (kindV id).2.1 = lo) :
  valL id e = [((e / w ^ 1 % w : Nat) : Int) + lo, ((e / w ^ 0 % w : Nat) : Int) + lo] := by
 unfold valL; rw [h1, h2, h3]; rfl
theorem ent4 (id : Int) (w : Nat) (lo hi : Int) (h1 : (kindV id).1 = 4) (h2 : (kindV id).2.1 = lo) (h3 : (kindV id).2.2.1 = hi) (hw : w = 3) (hw2 : (hi - lo + 1).toNat = 3) (hh : hi = lo + 2) (hm : manyV id = 81) (vs : List Int) (h : rangeOk id vs) : (entE id vs : Int) < manyV id ∧ valL id (entE id vs) = vs := by
 obtain ⟨hl, hr⟩ := h
 rw [h1] at hl
 obtain ⟨a, b, c, d, rfl⟩ := four_of (vs := vs) (by omega)
 rw [h2, h3] at hr
 have ra := hr a (by simp); have rb := hr b (by simp); have rc := hr c (by simp); have rd' := hr d (by simp)
 have e1 : entE id [a, b, c, d] = (((0 * 3 + (a - lo).toNat) * 3 + (b - lo).toNat) * 3 + (c - lo).toNat) * 3 + (d - lo).toNat := by
  unfold entE; rw [h2, h3, hw2]; rfl
 rw [valL4 id _ 3 lo (by rw [h1]; rfl) (by rw [h2, h3]; exact hw2) h2, e1, hm]
 obtain ⟨x, hx⟩ : ∃ x : Nat, a - lo = (x : Int) := ⟨(a - lo).toNat, by omega⟩
 obtain ⟨y, hy⟩ : ∃ x : Nat, b - lo = (x : Int) := ⟨(b - lo).toNat, by omega⟩
 obtain ⟨z, hz⟩ : ∃ x : Nat, c - lo = (x : Int) := ⟨(c - lo).toNat, by omega⟩
 obtain ⟨u, hu⟩ : ∃ x : Nat, d - lo = (x : Int) := ⟨(d - lo).toNat, by omega⟩
 rw [hx, hy, hz, hu]
 simp only [Int.toNat_natCast]
 have e27 : (3 : Nat) ^ 3 = 27 := rfl
 have e9 : (3 : Nat) ^ 2 = 9 := rfl
 have e3 : (3 : Nat) ^ 1 = 3 := rfl
 have e0 : (3 : Nat) ^ 0 = 1 := rfl
 rw [e27, e9, e3, e0]
 refine ⟨by omega, ?_⟩
 have a1 : ((((0 * 3 + x) * 3 + y) * 3 + z) * 3 + u) / 27 % 3 = x := by omega
 have a2 : ((((0 * 3 + x) * 3 + y) * 3 + z) * 3 + u) / 9 % 3 = y := by omega
 have a3 : ((((0 * 3 + x) * 3 + y) * 3 + z) * 3 + u) / 3 % 3 = z := by omega
 have a4 : ((((0 * 3 + x) * 3 + y) * 3 + z) * 3 + u) / 1 % 3 = u := by omega
 rw [a1, a2, a3, a4]
 simp only [List.cons.injEq, and_true]
 omega
theorem ent2 (id : Int) (w : Nat) (lo hi : Int) (h1 : (kindV id).1 = 2) (h2 : (kindV id).2.1 = lo) (h3 : (kindV id).2.2.1 = hi) (hw2 : (hi - lo + 1).toNat = w) (hh : hi - lo + 1 = (w : Int)) (hm : manyV id = ((w * w : Nat) : Int))
  (hd : ∀ x y : Nat, x < w → y < w → ((0 * w + x) * w + y) / w ^ 1 % w = x ∧ ((0 * w + x) * w + y) / w ^ 0 % w = y ∧ (0 * w + x) * w + y < w * w) (vs : List Int) (h : rangeOk id vs) : (entE id vs : Int) < manyV id ∧ valL id (entE id vs) = vs := by
 obtain ⟨hl, hr⟩ := h
 rw [h1] at hl
 obtain ⟨a, b, rfl⟩ := two_of (vs := vs) (by omega)
 rw [h2, h3] at hr
 have ra := hr a (by simp); have rb := hr b (by simp)
 have e1 : entE id [a, b] = (0 * w + (a - lo).toNat) * w + (b - lo).toNat := by
  unfold entE; rw [h2, h3, hw2]; rfl
 rw [valL2 id _ w lo (by rw [h1]; rfl) (by rw [h2, h3]; exact hw2) h2, e1, hm]
 obtain ⟨x, hx⟩ : ∃ x : Nat, a - lo = (x : Int) := ⟨(a - lo).toNat, by omega⟩
 obtain ⟨y, hy⟩ : ∃ x : Nat, b - lo = (x : Int) := ⟨(b - lo).toNat, by omega⟩
 rw [hx, hy]
 simp only [Int.toNat_natCast]
 obtain ⟨d1, d2, d3⟩ := hd x y (by omega) (by omega)
 rw [d1, d2]
 refine ⟨by exact_mod_cast d3, ?_⟩
 simp only [List.cons.injEq, and_true]
 omega
theorem ent_ok {id : Int} (h1 : 1 ≤ id) (h2 : id ≤ 11) (vs : List Int) (h : rangeOk id vs) : (entE id vs : Int) < manyV id ∧ valL id (entE id vs) = vs := by
 have : id = 1 ∨ id = 2 ∨ id = 3 ∨ id = 4 ∨ id = 5 ∨ id = 6 ∨ id = 7 ∨ id = 8 ∨ id = 9 ∨ id = 10 ∨ id = 11 := by omega
 rcases this with rfl | rfl | rfl | rfl | rfl | rfl | rfl | rfl | rfl | rfl | rfl
 ·exact ent4 1 3 (-1) 1 (by decide) (by decide) (by decide) rfl (by decide) (by decide) (by decide) vs h
 ·exact ent4 2 3 (-1) 1 (by decide) (by decide) (by decide) rfl (by decide) (by decide) (by decide) vs h
 ·exact ent4 3 3 0 2 (by decide) (by decide) (by decide) rfl (by decide) (by decide) (by decide) vs h
 ·exact ent4 4 3 0 2 (by decide) (by decide) (by decide) rfl (by decide) (by decide) (by decide) vs h
 ·exact ent2 5 9 (-4) 4 (by decide) (by decide) (by decide) (by decide) (by decide) (by decide) (fun x y hx hy => by simp only [Nat.pow_one, Nat.pow_zero]; omega) vs h
 ·exact ent2 6 9 (-4) 4 (by decide) (by decide) (by decide) (by decide) (by decide) (by decide) (fun x y hx hy => by simp only [Nat.pow_one, Nat.pow_zero]; omega) vs h
 ·exact ent2 7 8 0 7 (by decide) (by decide) (by decide) (by decide) (by decide) (by decide) (fun x y hx hy => by simp only [Nat.pow_one, Nat.pow_zero]; omega) vs h
 ·exact ent2 8 8 0 7 (by decide) (by decide) (by decide) (by decide) (by decide) (by decide) (fun x y hx hy => by simp only [Nat.pow_one, Nat.pow_zero]; omega) vs h
 ·exact ent2 9 13 0 12 (by decide) (by decide) (by decide) (by decide) (by decide) (by decide) (fun x y hx hy => by simp only [Nat.pow_one, Nat.pow_zero]; omega) vs h
 ·exact ent2 10 13 0 12 (by decide) (by decide) (by decide) (by decide) (by decide) (by decide) (fun x y hx hy => by simp only [Nat.pow_one, Nat.pow_zero]; omega) vs h
 ·exact ent2 11 17 0 16 (by decide) (by decide) (by decide) (by decide) (by decide) (by decide) (fun x y hx hy => by simp only [Nat.pow_one, Nat.pow_zero]; omega) vs h
theorem entry_of {id : Int} (h1 : 1 ≤ id) (h2 : id ≤ 11) (vs : List Int) (h : rangeOk id vs) : book_Entry.f 12 id vs = some ((entE id vs : Int), 0) := by
 obtain ⟨a, b⟩ := ent_ok h1 h2 vs h
 have := (val_two h1 (by omega) (entE id vs) a).2
 rwa [b] at this
/-! ### Escapes -/
/-- An escape's bits. -/
def escB (n : Nat) : List Int := List.replicate (Nat.log2 n - 4) 1 ++ (0 :: bN (Nat.log2 n) (n - 2 ^ Nat.log2 n))
theorem shl_two' {m : Nat} (h : m ≤ 60) : shl .i64 1 (m : Int) = 2 ^ m := by
 have h1 : (2 : Int) ^ m ≤ 2 ^ 60 := pow_le h
 have h0 := pow_ge m
 unfold shl
 rw [Int.toNat_natCast, show min m IntKind.i64.bits = m from Nat.min_eq_left (Nat.le_trans h (by decide)), IntKind.wrap_i64]
 omega
theorem len_lo : ((List.range 255).all fun i => decide (bits_Len64.j0 1 ((i + 1 : Nat) : Int) 0 = some ((Nat.log2 (i + 1) : Int) + 1)) && decide (bits_Len64.j0 1 ((256 * (i + 1) : Nat) : Int) 0 = some ((Nat.log2 (256 * (i + 1)) : Int) + 1))) = true := by decide +kernel
set_option maxRecDepth 100000 in
theorem len_hi (k a r : Nat) (ha : 1 ≤ a) (ha2 : a < 256) (hr : r < 256) : bits_Len64.j0 (k + 1) ((256 * a + r : Nat) : Int) 0 = bits_Len64.j0 (k + 1) ((256 * a : Nat) : Int) 0 := by
 have e1 : ((256 * a + r : Nat) : Int) / 256 = (a : Int) := by omega
 have e2 : ((256 * a : Nat) : Int) / 256 = (a : Int) := by omega
 simp only [bits_Len64.j0]
 rw [if_neg (by omega), if_pos (by omega), e1, if_neg (c := ((256 * a : Nat) : Int) ≥ 65536) (by omega), if_pos (c := ((256 * a : Nat) : Int) ≥ 256) (by omega), e2]
theorem log_hi (a r : Nat) (ha : 1 ≤ a) (hr : r < 256) : Nat.log2 (256 * a + r) = Nat.log2 (256 * a) := by
 have h0 : 256 * a ≠ 0 := by omega
 have l1 := (Nat.log2_eq_iff (n := 256 * a) (k := Nat.log2 (256 * a)) h0).1 rfl
 have l8 : 8 ≤ Nat.log2 (256 * a) := (Nat.le_log2 h0).2 (by show 256 ≤ 256 * a; omega)
 refine (Nat.log2_eq_iff (by omega)).2 ⟨by omega, ?_⟩
 obtain ⟨m, hm⟩ : ∃ m, Nat.log2 (256 * a) + 1 = m + 8 := ⟨Nat.log2 (256 * a) - 7, by omega⟩
 rw [hm] at l1 ⊢
 have : (2 : Nat) ^ (m + 8) = 2 ^ m * 256 := by rw [Nat.pow_add]
 rw [this] at l1 ⊢
 omega
theorem len_at {n : Nat} (h0 : 1 ≤ n) (h1 : n < 65536) : bits_Len.f 1 (n : Int) = some ((Nat.log2 n : Int) + 1) := by
 have hj : bits_Len64.j0 1 (n : Int) 0 = some ((Nat.log2 n : Int) + 1) := by
  by_cases h : n < 256
  ·have := List.all_eq_true.1 len_lo (n - 1) (List.mem_range.2 (by omega))
   rw [show n - 1 + 1 = n by omega] at this
   simp only [Bool.and_eq_true, decide_eq_true_eq] at this
   exact this.1
  ·have := List.all_eq_true.1 len_lo (n / 256 - 1) (List.mem_range.2 (by omega))
   rw [show n / 256 - 1 + 1 = n / 256 by omega] at this
   simp only [Bool.and_eq_true, decide_eq_true_eq] at this
   have e : n = 256 * (n / 256) + n % 256 := by omega
   rw [e, len_hi 0 (n / 256) (n % 256) (by omega) (by omega) (by omega), log_hi (n / 256) (n % 256) (by omega) (by omega)]
   exact this.2
 unfold bits_Len.f bits_Len64.f
 rw [if_neg (by omega), hj]
 rfl
theorem bitsV_bN (x s : Nat) : bitsV (x : Int) s = bN s x := by
 unfold bitsV
 induction s with
 | zero => rfl
 | succ s ih =>
  rw [bN_cons, ← ih]
  unfold bitL
  rw [List.range_succ_eq_map, List.map_cons, List.map_cons, List.map_map, List.map_map, List.map_map]
  congr 1
  ·have e : ((x : Int) / 2 ^ s % 2) = ((x / 2 ^ s % 2 : Nat) : Int) := by push_cast; rfl
   simp only [Nat.add_sub_cancel, Nat.sub_zero]
   unfold b2i bitB
   rw [e]
   have := Nat.mod_lt (x / 2 ^ s) (show 0 < 2 by decide)
   by_cases g : ((x / 2 ^ s % 2 : Nat) : Int) = 1
   ·rw [decide_eq_true g, g]; rfl
   ·rw [decide_eq_false g, if_neg (by decide)]; omega
  ·refine List.map_congr_left fun j hj => ?_
   simp only [Function.comp]
   rw [show s + 1 - 1 - Nat.succ j = s - 1 - j by omega]
theorem esc_at {n : Nat} (h0 : 16 ≤ n) (h1 : n ≤ 8191) :
  bits_Len.f 1 (IntKind.u64.wrap (n : Int)) = some ((Nat.log2 n : Int) + 1) ∧ slices_Repeat_byte_byte.f [1] (wrap64 ((Nat.log2 n : Int) + 1 - 5)) = some (List.replicate (Nat.log2 n - 4) 1) ∧
  wrap64 ((wrap64 ((Nat.log2 n : Int) + 1 - 5)) + 4) = (Nat.log2 n : Int) ∧ Go.bits .and .i64 (n : Int) (wrap64 ((shl .i64 1 (Nat.log2 n : Int)) - 1)) = ((n - 2 ^ Nat.log2 n : Nat) : Int) ∧
  bitsV ((n - 2 ^ Nat.log2 n : Nat) : Int) (Nat.log2 n) = bN (Nat.log2 n) (n - 2 ^ Nat.log2 n) ∧ ((n - 2 ^ Nat.log2 n : Nat) : Int) / 2 ^ (Nat.log2 n) = 0 ∧ 4 ≤ Nat.log2 n ∧ Nat.log2 n ≤ 12 ∧ 2 ^ Nat.log2 n ≤ n := by
 have hn : n ≠ 0 := by omega
 have q4 : 4 ≤ Nat.log2 n := (Nat.le_log2 hn).2 (by show 16 ≤ n; omega)
 have q12 : Nat.log2 n < 13 := (Nat.log2_lt hn).2 (by show n < 8192; omega)
 have l1 := (Nat.log2_eq_iff (n := n) (k := Nat.log2 n) hn).1 rfl
 have hlen := len_at (n := n) (by omega) (by omega)
 generalize Nat.log2 n = q at *
 have hp : (2 : Nat) ^ (q + 1) = 2 * 2 ^ q := by rw [Nat.pow_succ]; omega
 have hp12 : (2 : Nat) ^ q ≤ 2 ^ 12 := Nat.pow_le_pow_right (by decide) (by omega)
 rw [hp] at l1
 have ew : wrap64 ((q : Int) + 1 - 5) = (q : Int) - 4 := by rw [w64 (by omega) (by omega)]; omega
 have hsub : n - 2 ^ q < 2 ^ q := by omega
 have e2 : ((2 ^ q : Nat) : Int) = (2 : Int) ^ q := by push_cast; rfl
 refine ⟨?_, ?_, by rw [ew, w64 (by omega) (by omega)]; omega, ?_, bitsV_bN _ _, ?_, q4, by omega, l1.1⟩
 ·rw [show IntKind.u64.wrap (n : Int) = (n : Int) by unfold IntKind.wrap; simp [IntKind.signed, IntKind.bits]; omega]; exact hlen
 ·rw [ew]
  unfold slices_Repeat_byte_byte.f repV
  rw [if_pos ⟨rfl, by omega, by omega⟩, show ((q : Int) - 4).toNat = q - 4 by omega]
  rfl
 ·rw [shl_two' (by omega : q ≤ 60), w64 (by omega) (by omega), bits_mask .i64 63 (by decide) (fun n a b => by rw [IntKind.wrap_i64]; omega) q (by omega) (n : Int) (by omega) (by omega)]
  rw [← e2]
  have : n % 2 ^ q = n - 2 ^ q := by rw [Nat.mod_eq_sub_mod l1.1, Nat.mod_eq_of_lt hsub]
  omega
 ·rw [← e2]
  have : (n - 2 ^ q) / 2 ^ q = 0 := Nat.div_eq_of_lt hsub
  omega
theorem put_esc {n : Nat} (h0 : 16 ≤ n) (h1 : n ≤ 8191) (l : List Int) (hl : l.length ≤ 1000000) :
  bits_Put.f (l ++ List.replicate (Nat.log2 n - 4) 1 ++ [0]) ((n - 2 ^ Nat.log2 n : Nat) : Int) (Nat.log2 n : Int) = some (l ++ escB n, 0) := by
 obtain ⟨-, -, -, -, e, f, g, h, -⟩ := esc_at h0 h1
 unfold bits_Put.f putV
 rw [if_neg (by omega), if_neg (by omega), if_neg (by omega), Int.toNat_natCast, if_neg (by rw [f]; simp), if_pos (by simp; omega), e]
 unfold escB
 simp
end Go.Proofs.Ytchflniekbhohaa.Pure
