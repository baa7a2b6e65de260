/- huff.Get answers the values of some bits by a book, and the place behind, or an error: for every list of bytes, place and book. -/
import Derived.Test.YtchflniekbhohaaL3a0
import Derived.Test.YtchflniekbhohaaL0a0
import Derived.Test.YtchflniekbhohaaL3a2
import Derived.Test.YtchflniekbhohaaL2a0
import Derived.Test.YtchflniekbhohaaL6a0
import Derived.Test.YtchflniekbhohaaPEscL
import Derived.Deep.QuietTactic
import Derived.BigQuiet
import Derived.Outline

/- huff.Get answers the values of some bits by a book, and the place behind, or an error: for every list of bytes, place and book. -/
namespace Go.Proofs.Ytchflniekbhohaa.P
open Go.RowKit Go.Proofs.Ytchflniekbhohaa.Eng Go.Proofs.Ytchflniekbhohaa.Pure Go.Proofs.YtchflniekbhohaaW.PrintWords Go.Proofs.YtchflniekbhohaaW.PrintLast Go.Proofs.YtchflniekbhohaaW.PrintMore
set_option linter.unusedVariables false
set_option linter.unusedSimpArgs false

def huff_Get.f (l0 : List Int) (a1 : Int) (a2_0 : Int) (a2_1 : Int) (l2_2 : List Int) (l2_3 : List Int) : Option (List Int × Int × Int) := if bytB l0 = true then some (hgetV l0 a1 a2_0 a2_1 l2_2 l2_3) else none

theorem checked_over (id pl : Int) (E R : List Int) (h : 11 < id) : ∃ K, huff_checked.f K id pl E R = some (if isB id pl E R then 2 else 8) := by
 obtain ⟨K, e⟩ := code_ev id pl E R 0
 refine ⟨K, ?_⟩
 have e1 := e K (Nat.le_refl _)
 dsimp only at e1
 unfold huff_checked.f
 rw [e1]
 simp only [Option.bind_some]
 unfold codeV
 by_cases g : isB id pl E R
 ·have hm := many_in g.1.1 g.1.2
  rw [if_pos g, if_pos (c := 0 ≤ (0 : Int) ∧ 0 < manyV id) ⟨Int.le_refl _, hm.1⟩]
  simp only [if_true]
  rw [if_pos (by omega), if_pos g]
 ·rw [if_neg g, if_neg (by decide), if_neg g]
section
variable (A0 : Option Addr) (c0 : Nat) (l : List Int) (p id pl : Int) (A2 : Option Addr) (c2 : Nat) (E : List Int) (A3 : Option Addr) (c3 : Nat) (R : List Int) (w : World)
 (hr0 : Kd.C (Kd.int .u8) w A0 l.length l) (hc0 : l.length ≤ c0) (hr2 : Kd.C (Kd.int .i64) w A2 E.length E) (hc2 : E.length ≤ c2) (hr3 : Kd.C (Kd.int .i64) w A3 R.length R) (hc3 : R.length ≤ c3)

abbrev hgA (id pl : Int) (A2 : Option Addr) (n2 c2 : Nat) (A3 : Option Addr) (n3 c3 : Nat) : Array Value := #[.int .i64 id, .int .i64 pl, .slice A2 n2 c2, .slice A3 n3 c3]
include hr2 hr3 hc2 hc3 in
set_option maxHeartbeats 1000000 in
theorem hget_over (r : Int) (K : Nat) (hk : huff_checked.f K id pl E R = some r) (h11 : 11 < id) :
  Calls Try.prog 12 #[.slice A0 l.length c0, .int .i64 p, .agg #[.int .i64 id, .int .i64 pl, .slice A2 E.length c2, .slice A3 R.length c3]] w fun e w' => e = .returned (.tuple #[.slice none 0 0, .int .i64 0, .int .i64 r]) ∧ Below w.heap.size w w' := by
 have HE := Aside0.mk hr2
 have HR := Aside0.mk hr3
 have HK := Aside0.mk hk
 have HC2 := Aside0.mk hc2
 have HC3 := Aside0.mk hc3
 clear hr2 hr3 hk hc2 hc3
 go_enter Try.func12, Try.ntmps12
 go_wp2_with (go_at_call 27; refine (huff_checked.calls K id pl A2 c2 E A3 c3 R r _ (Kd.C_alloc HE.out _) HC2.out (Kd.C_alloc HR.out _) HC3.out HK.out).mono ?_; rintro e w1 ⟨rfl, hb1⟩; have HB := Aside0.mk (below_then ((Below.refl _ w).alloc (Nat.le_refl _) _) (by simp) hb1); clear hb1)
 go_ret3
 exact ⟨rfl, HB.out⟩

include hr0 hc0 hr2 hr3 hc2 hc3 in
set_option maxHeartbeats 1000000 in
theorem hget_bad (r1 r2 r3 : Int) (K : Nat) (hk : book_Read.f K id pl E R l p = some (r1, r2, r3)) (h11 : id ≤ 11) (h3 : r3 ≠ 0) :
  Calls Try.prog 12 #[.slice A0 l.length c0, .int .i64 p, .agg #[.int .i64 id, .int .i64 pl, .slice A2 E.length c2, .slice A3 R.length c3]] w fun e w' => e = .returned (.tuple #[.slice none 0 0, .int .i64 0, .int .i64 r3]) ∧ Below w.heap.size w w' := by
 have HE := Aside0.mk hr2
 have HR := Aside0.mk hr3
 have HL := Aside0.mk hr0
 have HK := Aside0.mk hk
 have HC0 := Aside0.mk hc0
 have HC2 := Aside0.mk hc2
 have HC3 := Aside0.mk hc3
 have h11' : ¬ 11 < id := by omega
 have h3b : (r3 != 0) = true := bne_iff_ne.mpr h3
 clear hr0 hc0 hr2 hr3 hk hc2 hc3 h3
 go_enter Try.func12, Try.ntmps12
 go_wp2_with (go_at_call 40; refine (book_Read.calls K id pl A2 c2 E A3 c3 R A0 c0 l p r1 r2 r3 _ (Kd.C_alloc HE.out _) HC2.out (Kd.C_alloc HR.out _) HC3.out (Kd.C_alloc HL.out _) HC0.out HK.out).mono ?_; rintro e w1 ⟨rfl, hb1⟩; have HB := Aside0.mk (below_then ((Below.refl _ w).alloc (Nat.le_refl _) _) (by simp) hb1); clear hb1)
 go_ret3
 exact ⟨rfl, HB.out⟩

include hr0 hc0 hr2 hr3 hc2 hc3 in
set_option maxHeartbeats 1000000 in
theorem hget_signed (r1 r2 : Int) (vs : List Int) (K K2 : Nat) (hk : book_Read.f K id pl E R l p = some (r1, r2, 0)) (h11 : id ≤ 11) (hv : book_Values.f K2 id r1 = some (vs, 0)) (hs : huff_signed.f id = some true) :
  Calls Try.prog 12 #[.slice A0 l.length c0, .int .i64 p, .agg #[.int .i64 id, .int .i64 pl, .slice A2 E.length c2, .slice A3 R.length c3]] w fun e w' => ∃ v, e = .returned (.tuple #[v, .int .i64 r2, .int .i64 0]) ∧ Kd.R (Kd.int .i64) 3 w' w.heap.size (fun _ => True) v vs ∧ Below w.heap.size w w' := by
 have HE := Aside0.mk hr2
 have HR := Aside0.mk hr3
 have HL := Aside0.mk hr0
 have HK := Aside0.mk hk
 have HC0 := Aside0.mk hc0
 have HC2 := Aside0.mk hc2
 have HC3 := Aside0.mk hc3
 have HV := Aside0.mk hv
 have HS := Aside0.mk hs
 have HO := Aside0.mk (ORow.new w 25 #[.int .i64 id, .int .i64 pl, .slice A2 E.length c2, .slice A3 R.length c3])
 have h11' : ¬ 11 < id := by omega
 clear hr0 hc0 hr2 hr3 hk hc2 hc3 hv hs
 go_enter Try.func12, Try.ntmps12
 go_wp2_with (first
  | (go_at_call 40; refine (book_Read.calls K id pl A2 c2 E A3 c3 R A0 c0 l p r1 r2 0 _ (Kd.C_alloc HE.out _) HC2.out (Kd.C_alloc HR.out _) HC3.out (Kd.C_alloc HL.out _) HC0.out HK.out).mono ?_; rintro e w1 ⟨rfl, hb1⟩; have HB1 := Aside0.mk (below_then ((Below.refl _ w).alloc (Nat.le_refl _) _) (by simp) hb1); have HO1 := Aside0.mk (HO.out.below hb1 HO.out.lt); have c10 := HO1.out.cell 0 _ rfl; clear hb1)
  | (go_at_call 41; refine (book_Values.calls K2 id r1 vs 0 _ HV.out).mono ?_; rintro e w2 ⟨v2, rfl, hR2, hb2⟩; have HB2 := Aside0.mk (below_then HB1.out HB1.out.size hb2); have HV2 := Aside0.mk (Kd.R_lower hR2 HB1.out.size); have c20 := (HO1.out.below hb2 HO1.out.lt).cell 0 _ rfl; clear hb2 hR2 c10)
  | (go_at_call 28; refine (huff_signed.calls id true _ HS.out).mono ?_; rintro e w3 ⟨rfl, hd3⟩; obtain ⟨nd, rfl⟩ := hd3))
 go_ret3
 exact ⟨_, rfl, Kd.R_drewN HV2.out _, below_drewN' HB2.out _⟩
end

/-! ### The reader's way -/
/-- What the loops keep: the book's block, the reader's, the values' row, the signs' row, the caller's. -/
structure HJ (w : World) (CB : Array Value) (gV gS T : Nat) (tV : List Value) (l : List Int) (V S : List Int) (p e : Int) (W : World) : Prop where
 bk : ORow W w.heap.size 25 CB
 st : IsS79 w W T l p e
 vr : XRow W gV 3 V tV
 sr : XRow W gS 3 S []
 bel : Below w.heap.size w W
/-- The blocks, one behind the other. -/
structure HD (w : World) (gV gS T : Nat) : Prop where
 a : w.heap.size < gV
 b : gV < T
 c : T < gS
section
variable {w W W' : World} {CB : Array Value} {gV gS T : Nat} {tV : List Value} {l V S : List Int} {p e p' e' : Int}
theorem HJ.drewN (h : HJ w CB gV gS T tV l V S p e W) (n : Nat) : HJ w CB gV gS T tV l V S p e (W.drewN n) := ⟨h.bk.drewN n, h.st.drewN n, h.vr, h.sr, below_drewN' h.bel n⟩
theorem HJ.get (h : HJ w CB gV gS T tV l V S p e W) (d : HD w gV gS T) (hI : IsS79 w W' T l p' e') (hB : Below w.heap.size w W') (hk : KeepBut W W' T none) : HJ w CB gV gS T tV l V S p' e' W' :=
 ⟨(hk.2 _ h.bk.lt (by have := d.a; have := d.b; omega) (by simp)).trans h.bk, hI, (hk.2 _ h.vr.lt (by have := d.b; omega) (by simp)).trans h.vr, (hk.2 _ h.sr.lt (by have := d.c; omega) (by simp)).trans h.sr, hB⟩
theorem HJ.setS (h : HJ w CB gV gS T tV l V S p e W) (d : HD w gV gS T) (i : Nat) (hi : i < S.length) (x : Int) : HJ w CB gV gS T tV l V (S.set i x) p e (W.setCell ⟨gS, i, none⟩ (.int .i64 x)) :=
 ⟨h.bk.other (by have := d.a; have := d.b; have := d.c; omega) _, h.st.far (p := ⟨gS, i, none⟩) (by have := d.c; show T ≠ gS; omega) _, h.vr.other (by have := d.b; have := d.c; omega) _, h.sr.set i hi x, bsetAt h.bel (by have := d.a; have := d.b; have := d.c; omega) _⟩
theorem HJ.setV (h : HJ w CB gV gS T tV l V S p e W) (d : HD w gV gS T) (i : Nat) (hi : i < V.length) (x : Int) : HJ w CB gV gS T tV l (V.set i x) S p e (W.setCell ⟨gV, i, none⟩ (.int .i64 x)) :=
 ⟨h.bk.other (by have := d.a; omega) _, h.st.far (p := ⟨gV, i, none⟩) (by have := d.b; show T ≠ gV; omega) _, h.vr.set i hi x, h.sr.other (by have := d.b; have := d.c; omega) _, bsetAt h.bel (by have := d.a; omega) _⟩
theorem HJ.tcell (h : HJ w CB gV gS T tV l V S p e W) : W.cell? ⟨T, 1, none⟩ = some (.int .i64 p) ∧ W.cell? ⟨T, 2, none⟩ = some (.int .i64 e) := by
 obtain ⟨A, c, hb, _⟩ := h.st
 have hR : ORow W T 79 #[.slice A l.length c, .int .i64 p, .int .i64 e] := hb
 exact ⟨hR.cell 1 _ rfl, hR.cell 2 _ rfl⟩
end
theorem set_at (D r : List Int) (v x : Int) : (D ++ v :: r).set D.length x = D ++ x :: r := by simp
theorem rd_mid (D r : List Int) (v : Int) : rd (D ++ v :: r) (D.length : Int) = v := by unfold rd; simp
theorem drop_cons (vs : List Int) (k : Nat) (h : k < vs.length) : vs.drop k = rd vs (k : Int) :: vs.drop (k + 1) := by
 rw [List.drop_eq_getElem_cons h]; congr 1
 unfold rd; simp [List.getElem?_eq_getElem h]
theorem int_infoH : (Try.prog.info? 3).map (fun i => (i.zero, i.size, i.bytes)) = some (some (.int .i64 0), 1, 8) := by kernel_rfl
theorem made_nums (n : Nat) : (madeCells #[Value.int .i64 0] n).toList = nums .i64 (List.replicate n 0) := by rw [toList_madeCells_one]; simp [nums]
theorem sg_step (l vs : List Int) (k : Nat) (h : k < vs.length) (p e : Int) :
  sgV l (vs.drop k) p e = if rd vs (k : Int) ≠ 0 then ((rgetV l p e 1).1 :: (sgV l (vs.drop (k + 1)) (rgetV l p e 1).2.1 (rgetV l p e 1).2.2).1, (sgV l (vs.drop (k + 1)) (rgetV l p e 1).2.1 (rgetV l p e 1).2.2).2) else (0 :: (sgV l (vs.drop (k + 1)) p e).1, (sgV l (vs.drop (k + 1)) p e).2) := by
 rw [drop_cons vs k h]; rfl

/-! ### What the two loops keep -/
def SGI (w : World) (CB : Array Value) (gV gS T : Nat) (tV : List Value) (l vs : List Int) (p0 : Int) (k : Nat) (W : World) : Prop :=
 ∃ D p e, D.length = k ∧ sgV l vs p0 0 = (D ++ (sgV l (vs.drop k) p e).1, (sgV l (vs.drop k) p e).2) ∧ HJ w CB gV gS T tV l vs (D ++ List.replicate (vs.length - k) 0) p e W
theorem repl_cons (n k : Nat) (h : k < n) : List.replicate (n - k) (0 : Int) = 0 :: List.replicate (n - (k + 1)) 0 := by
 rw [show n - k = (n - (k + 1)) + 1 by omega, List.replicate_succ]
section
variable {w W : World} {CB : Array Value} {gV gS T : Nat} {tV : List Value} {l vs S : List Int} {p0 p e p1 e1 id : Int} {D : List Int} {k : Nat}
theorem sgi_zero (hD : D.length = k) (hs : sgV l vs p0 0 = (D ++ (sgV l (vs.drop k) p e).1, (sgV l (vs.drop k) p e).2)) (hlt : k < vs.length) (hv : rd vs (k : Int) = 0) (hj : HJ w CB gV gS T tV l vs (D ++ List.replicate (vs.length - k) 0) p e W) :
  SGI w CB gV gS T tV l vs p0 (k + 1) W :=
 ⟨D ++ [0], p, e, by simp [hD], by rw [hs, sg_step l vs k hlt, if_neg (by simp [hv])]; simp, by rw [repl_cons _ _ hlt] at hj; simpa using hj⟩
theorem sgi_get (d : HD w gV gS T) (hD : D.length = k) (hs : sgV l vs p0 0 = (D ++ (sgV l (vs.drop k) p e).1, (sgV l (vs.drop k) p e).2)) (hlt : k < vs.length) (hv : rd vs (k : Int) ≠ 0)
  (hj : HJ w CB gV gS T tV l vs (D ++ List.replicate (vs.length - k) 0) (rgetV l p e 1).2.1 (rgetV l p e 1).2.2 W) :
  SGI w CB gV gS T tV l vs p0 (k + 1) (W.setCell ⟨gS, k, none⟩ (.int .i64 (rgetV l p e 1).1)) := by
 refine ⟨D ++ [(rgetV l p e 1).1], (rgetV l p e 1).2.1, (rgetV l p e 1).2.2, by simp [hD], by rw [hs, sg_step l vs k hlt, if_pos hv]; simp, ?_⟩
 have h2 := hj.setS d k (by simp; omega) (rgetV l p e 1).1
 rw [repl_cons _ _ hlt, ← hD, set_at, hD] at h2
 simpa using h2
theorem sgi_end (hD : D.length = vs.length) (hs : sgV l vs p0 0 = (D ++ (sgV l (vs.drop vs.length) p e).1, (sgV l (vs.drop vs.length) p e).2)) : sgV l vs p0 0 = (D, p, e) := by
 rw [hs, List.drop_length]; simp [sgV]
def VLI (w : World) (CB : Array Value) (gV gS T : Nat) (tV : List Value) (l vs S : List Int) (id p1 e1 : Int) (k : Nat) (W : World) : Prop :=
 ∃ D p e, D.length = k ∧ vlV l id vs S p1 e1 = (D ++ (vlV l id (vs.drop k) (S.drop k) p e).1, (vlV l id (vs.drop k) (S.drop k) p e).2) ∧ HJ w CB gV gS T tV l (D ++ vs.drop k) S p e W
theorem vli_step (hD : D.length = k) (hs : vlV l id vs S p1 e1 = (D ++ (vlV l id (vs.drop k) (S.drop k) p e).1, (vlV l id (vs.drop k) (S.drop k) p e).2)) (hlt : k < vs.length) (hls : k < S.length)
  (x : Int × Int × Int) (hx : escOne l id (rd vs (k : Int)) p e = x) (y : Int) (hy : (if rd S (k : Int) = 1 then -x.1 else x.1) = y)
  (hj : HJ w CB gV gS T tV l (D ++ y :: vs.drop (k + 1)) S x.2.1 x.2.2 W) : VLI w CB gV gS T tV l vs S id p1 e1 (k + 1) W := by
 refine ⟨D ++ [y], x.2.1, x.2.2, by simp [hD], ?_, by simpa using hj⟩
 rw [hs, drop_cons vs k hlt, drop_cons S k hls]
 simp only [vlV, hx, hy]
 simp
theorem vli_end (hD : D.length = vs.length) (hs : vlV l id vs S p1 e1 = (D ++ (vlV l id (vs.drop vs.length) (S.drop vs.length) p e).1, (vlV l id (vs.drop vs.length) (S.drop vs.length) p e).2)) : vlV l id vs S p1 e1 = (D, p, e) := by
 rw [hs, List.drop_length]; simp [vlV]
end
theorem hget_row {W : World} {base : Nat} {ok : Nat → Prop} {v : Value} {vs : List Int} (h : Kd.R (Kd.int .i64) 3 W base ok v vs) (h0 : 0 < vs.length) :
  ∃ gV tV cV, v = .slice (some ⟨gV, 0, none⟩) vs.length cV ∧ base ≤ gV ∧ XRow W gV 3 vs tV ∧ vs.length ≤ cV ∧ vs.length + tV.length = cV ∧ cV ≤ maxLen := by
 obtain ⟨A, c, rfl⟩ := Kd.R_slice h
 have ho : W.ownsRow base 3 1 (.slice A vs.length c) vs.length (nums .i64 vs) := Kd.own_of_R h
 obtain ⟨b, tl, rfl, hb, hx, hc, _, h2, h3⟩ := own_xrow ho h0
 exact ⟨b, tl, c, rfl, hb, hx, hc, h2, h3⟩
theorem own_xrow' {W : World} {base e n c g : Nat} {xs : List Int} (h : W.ownsRow base e 1 (.slice (some ⟨g, 0, none⟩) n c) n (nums .i64 xs)) :
  ∃ b tl, (⟨g, 0, none⟩ : Addr) = ⟨b, 0, none⟩ ∧ base ≤ b ∧ XRow W b e xs tl ∧ n ≤ c ∧ xs.length = n ∧ xs.length + tl.length = c ∧ c ≤ maxLen := by
 obtain ⟨h1, h2⟩ := h
 have hx : xs.length = n := by simpa [nums] using h1
 rcases h2 with ⟨h2, _⟩ | ⟨g', cap, cur, hv, hb, hg, hl, hm, hs, ht⟩
 ·cases h2
 ·cases hv
  refine ⟨_, cur.toList.drop n, rfl, hb, ?_, hl, hx, by simp [hs]; omega, hm⟩
  unfold XRow
  rw [← ht, Nat.mul_one, List.take_append_drop]; simpa using hg
theorem HJ.start {w w2 w4 : World} {nd gV n : Nat} {tV : List Value} {A0 : Option Addr} {c0 : Nat} {l vs : List Int} {p : Int} {CB : Array Value} (hO : ORow w2 w.heap.size 25 CB) (hX : XRow w2 gV 3 vs tV) (hB : Below w.heap.size w w2) (hL : Kd.C (Kd.int .u8) w A0 l.length l)
  (hn : n ≤ 100) (ho : w4.ownsRow w.heap.size 3 1 (.slice (some ⟨w2.heap.size + 1, 0, none⟩) n n) n (madeCells #[Value.int .i64 0] (n * 1)).toList)
  (hg : ((w2.drewN nd).alloc (.cells #[.slice A0 l.length c0, .int .i64 p, .int .i64 0] 79)).grownBy w4 none) :
  HJ w CB gV (w2.heap.size + 1) w2.heap.size tV l vs (List.replicate n 0) p 0 w4 := by
 have hB3 : Below w.heap.size w (w2.drewN nd) := below_drewN' hB nd
 refine ⟨((hO.drewN nd).alloc _).grown hg (by simp), IsS79.grown (IsS79.new w (w2.drewN nd) A0 c0 l p 0 hB3 hL) hg (by simp), (XRow.alloc (W := w2.drewN nd) hX _).grown hg (by simp), ?_, (hB3.alloc hB3.size _).grown hg (by have := hB3.size; simp at this ⊢; omega) (fun _ e => by cases e)⟩
 have h := ho
 rw [Nat.mul_one, made_nums] at h
 obtain ⟨b, tl, e1, _, hx, _, h1, h2, _⟩ := own_xrow' h
 cases e1
 have : tl = [] := by
  have h3 := h2
  rw [List.length_replicate] at h3
  exact List.eq_nil_of_length_eq_zero (by omega)
 rw [this] at hx
 exact hx
theorem rget_eq {l : List Int} (B : Byt l) (p e m : Int) : huff_reader_get.f l p e m = some ((rgetV l p e m).1, (rgetV l p e m).2.1, (rgetV l p e m).2.2) := by rw [rget_some B]
set_option maxRecDepth 1000000 in
set_option maxHeartbeats 4000000 in
theorem hget_reader (A0 : Option Addr) (c0 : Nat) (l : List Int) (p id pl : Int) (A2 : Option Addr) (c2 : Nat) (E : List Int) (A3 : Option Addr) (c3 : Nat) (R : List Int) (w : World)
  (hr0 : Kd.C (Kd.int .u8) w A0 l.length l) (hc0 : l.length ≤ c0) (hr2 : Kd.C (Kd.int .i64) w A2 E.length E) (hc2 : E.length ≤ c2) (hr3 : Kd.C (Kd.int .i64) w A3 R.length R) (hc3 : R.length ≤ c3)
  (B : Byt l) (r1 r2 : Int) (vs : List Int) (K K2 : Nat) (hk : book_Read.f K id pl E R l p = some (r1, r2, 0)) (h11 : id ≤ 11) (hv : book_Values.f K2 id r1 = some (vs, 0)) (hs : huff_signed.f id = some false)
  (hv0 : 0 < vs.length) (hv4 : vs.length ≤ 4) (hvb : ∀ i : Int, 0 ≤ rd vs i ∧ rd vs i ≤ 16) :
  Calls Try.prog 12 #[.slice A0 l.length c0, .int .i64 p, .agg #[.int .i64 id, .int .i64 pl, .slice A2 E.length c2, .slice A3 R.length c3]] w fun e w' => ∃ v, e = .returned (.tuple #[v, .int .i64 (readerV l id vs r2).2.1, .int .i64 (readerV l id vs r2).2.2]) ∧ Kd.R (Kd.int .i64) 3 w' w.heap.size (fun _ => True) v (readerV l id vs r2).1 ∧ Below w.heap.size w w' := by
 have HE := Aside0.mk hr2
 have HR := Aside0.mk hr3
 have HL := Aside0.mk hr0
 have HK := Aside0.mk hk
 have HC0 := Aside0.mk hc0
 have HC2 := Aside0.mk hc2
 have HC3 := Aside0.mk hc3
 have HV := Aside0.mk hv
 have HS := Aside0.mk hs
 have HVB := Aside0.mk hvb
 have HBY := Aside0.mk B
 have HO := Aside0.mk (ORow.new w 25 #[.int .i64 id, .int .i64 pl, .slice A2 E.length c2, .slice A3 R.length c3])
 obtain ⟨i0, hi, hz0, hz1, hz2⟩ := info_parts int_infoH
 have h11' : ¬ 11 < id := by omega
 have hvi : (vs.length : Int) ≤ 4 := by omega
 clear hr0 hc0 hr2 hr3 hk hc2 hc3 hv hs hvb B
 go_enter Try.func12, Try.ntmps12
 go_wp2_with (first
  | (go_at_call 40; refine (book_Read.calls K id pl A2 c2 E A3 c3 R A0 c0 l p r1 r2 0 _ (Kd.C_alloc HE.out _) HC2.out (Kd.C_alloc HR.out _) HC3.out (Kd.C_alloc HL.out _) HC0.out HK.out).mono ?_; rintro e w1 ⟨rfl, hb1⟩; have HB1 := Aside0.mk (below_then ((Below.refl _ w).alloc (Nat.le_refl _) _) (by simp) hb1); have HO1 := Aside0.mk (HO.out.below hb1 HO.out.lt); have c10 := HO1.out.cell 0 _ rfl; clear hb1)
  | (go_at_call 41; refine (book_Values.calls K2 id r1 vs 0 _ HV.out).mono ?_; rintro e w2 ⟨v2, rfl, hR2, hb2⟩; have HB2 := Aside0.mk (below_then HB1.out HB1.out.size hb2); obtain ⟨gV, tV, cV, rfl, hgV, hX, hcV1, hcV2, hcV3⟩ := hget_row hR2 hv0; have HX := Aside0.mk hX; have HGV := Aside0.mk (show w.heap.size < gV ∧ vs.length + tV.length = cV ∧ cV ≤ maxLen from ⟨Nat.lt_of_lt_of_le HO1.out.lt hgV, hcV2, hcV3⟩); have HO2 := Aside0.mk (HO1.out.below hb2 HO1.out.lt); have c20 := HO2.out.cell 0 _ rfl; clear hb2 hR2 c10 hgV hX hcV1 hcV2 hcV3)
  | (go_at_call 28; refine (huff_signed.calls id false _ HS.out).mono ?_; rintro e w3 ⟨rfl, hd3⟩; obtain ⟨nd, rfl⟩ := hd3; have HT := Aside0.mk (show gV < (w2.drewN nd).heap.size from HX.out.lt))
  | (at_make; refine wpList_make_full _ rfl (.tmp 49) (.tmp 49) 23 rfl w.heap.size 3 i0 (.int .i64 0) 1 Try.underlying23 hi hz0 hz1 .i64 .i64 (vs.length : Int) (vs.length : Int) vs.length rfl rfl rfl rfl (by rw [hz2]; omega) (Nat.le_trans hv4 (by decide)) (by have := HB2.out.size; simp; omega) ?_; intro w4 ho4 hg4; have HJ0 := Aside0.mk (HJ.start (nd := nd) HO2.out HX.out HB2.out HL.out (Nat.le_trans hv4 (by decide)) (by have h := ho4; simp only [World.size_alloc] at h; exact h) hg4); clear ho4 hg4))
 have HDA : Aside0 (HD w gV (w2.heap.size + 1) w2.heap.size) := ⟨⟨HGV.out.1, HT.out, Nat.lt_succ_self _⟩⟩
 have HCV : Aside0 (vs.length + tV.length = cV ∧ cV ≤ maxLen) := ⟨HGV.out.2⟩
 clear HX HO HO1 HO2 HB1 HB2 HT c20 HGV HE HR HK HC0 HC2 HC3 HV HS
 generalize w2.heap.size + 1 = gS at HJ0 HDA ⊢
 generalize w2.heap.size = T at HJ0 HDA ⊢
 go_loopw [53] (fun i W => ∃ k : Nat, k ≤ vs.length ∧ i = .int .i64 k ∧ Aside0 (SGI w #[.int .i64 id, .int .i64 pl, .slice A2 E.length c2, .slice A3 R.length c3] gV gS T tV l vs r2 k W)) (fun i _ => vs.length - (intOf i).toNat)
 case atStart => exact ⟨0, Nat.zero_le _, rfl, ⟨⟨[], r2, 0, rfl, by simp, by simpa using HJ0.out⟩⟩⟩
 case round =>
  clear HJ0
  obtain ⟨k, hk, rfl, sg⟩ := hrel
  obtain ⟨D, p', e', hD, hs, hj⟩ := sg.out
  clear sg
  have HJ1 := Aside0.mk hj
  have HSG := Aside0.mk hs
  have HLD := Aside0.mk hD
  clear hj hs hD
  by_cases hlt : k < vs.length
  ·have hlti : (k : Int) < vs.length := by omega
   have cV0 := HJ1.out.vr.cell k hlt
   obtain ⟨v, hv⟩ : ∃ v, rd vs (k : Int) = v := ⟨_, rfl⟩
   rw [hv] at cV0
   have HV := Aside0.mk hv
   clear hv
   by_cases hz : v = 0
   ·subst hz
    go_wp2
    go_roundw
    case rel => exact ⟨k + 1, by omega, by go_num, ⟨sgi_zero HLD.out HSG.out hlt HV.out HJ1.out⟩⟩
    case measure => simp [intOf]; omega
   ·have hzb : (v != 0) = true := bne_iff_ne.mpr hz
    have HZ := Aside0.mk hz
    clear hz
    have HK1 : Aside0 (k < (D ++ List.replicate (vs.length - k) (0 : Int)).length) := ⟨by have := HLD.out; simp; omega⟩
    go_wp2_with (go_at_call 42; refine (huff_reader_get.calls T l p' e' 1 _ _ _ w wr HJ1.out.st HJ1.out.bel (rget_eq HBY.out p' e' 1)).mono ?_; rintro e w5 ⟨rfl, hI5, hB5, hk5⟩; have HJ5 := Aside0.mk (HJ1.out.get HDA.out hI5 hB5 hk5); have c5 := HJ5.out.sr.cell k HK1.out; have f5 := HJ5.out.sr.frozen k; clear hI5 hB5 hk5)
    go_roundw
    case rel => exact ⟨k + 1, by omega, by go_num, ⟨sgi_get HDA.out HLD.out HSG.out hlt (by rw [HV.out]; exact HZ.out) HJ5.out⟩⟩
    case measure => simp [intOf]; omega
  ·obtain rfl : k = vs.length := by omega
   have HE1 := Aside0.mk (sgi_end HLD.out HSG.out)
   have HJ2 : Aside0 (HJ w #[.int .i64 id, .int .i64 pl, .slice A2 E.length c2, .slice A3 R.length c3] gV gS T tV l vs D p' e' wr) := ⟨by simpa using HJ1.out⟩
   clear HJ1 HSG hlt hk
   generalize D = S at HE1 HJ2 HLD
   clear D
   go_wp2
   go_loopw [68] (fun i W => ∃ k : Nat, k ≤ vs.length ∧ i = .int .i64 k ∧ Aside0 (VLI w #[.int .i64 id, .int .i64 pl, .slice A2 E.length c2, .slice A3 R.length c3] gV gS T tV l vs S id p' e' k W)) (fun i _ => vs.length - (intOf i).toNat)
   case atStart => exact ⟨0, Nat.zero_le _, rfl, ⟨⟨[], p', e', rfl, by simp, by simpa using HJ2.out⟩⟩⟩
   case round =>
    clear HJ2
    obtain ⟨k, hk, rfl, sg⟩ := hrel
    obtain ⟨D, q, f, hD, hs, hj⟩ := sg.out
    clear sg
    have HJ1 := Aside0.mk hj
    have HSG := Aside0.mk hs
    have HKD := Aside0.mk hD
    clear hj hs hD
    have hgne : ¬ gS = gV := by have := HDA.out.b; have := HDA.out.c; omega
    have hgne' : ¬ gV = gS := fun h => hgne h.symm
    by_cases hlt : k < vs.length
    ·have hlti : (k : Int) < vs.length := by omega
     have HKS : Aside0 (k < S.length) := ⟨by have := HLD.out; omega⟩
     have HKV : Aside0 (k < (D ++ vs.drop k).length) := ⟨by have := HKD.out; simp; omega⟩
     obtain ⟨v, hv⟩ : ∃ v, rd vs (k : Int) = v := ⟨_, rfl⟩
     obtain ⟨s, hs⟩ : ∃ s, rd S (k : Int) = s := ⟨_, rfl⟩
     have hvb := HVB.out (k : Int)
     rw [hv] at hvb
     obtain ⟨hvb0, hvb1⟩ := hvb
     have cV0 := HJ1.out.vr.cell k HKV.out
     have fV0 := HJ1.out.vr.frozen k
     have cB0 := HJ1.out.bk.cell 0 _ rfl
     rw [show rd (D ++ vs.drop k) (k : Int) = v by rw [drop_cons vs k hlt, hv]; have := rd_mid D (vs.drop (k + 1)) v; rw [HKD.out] at this; exact this] at cV0
     have cS0 := HJ1.out.sr.cell k HKS.out
     rw [hs] at cS0
     have HV := Aside0.mk hv
     have HS := Aside0.mk hs
     clear hv hs
     by_cases hE : id = 11 ∧ v = 16
     ·obtain ⟨rfl, rfl⟩ := hE
      obtain ⟨KE, eE⟩ := resc_ev HBY.out q f
      have hee := eE KE (Nat.le_refl _)
      dsimp only at hee
      have hxb := resc_bd HBY.out q f
      have hxe : escOne l 11 (rd vs (k : Int)) q f = rescV l q f := by unfold escOne; rw [HV.out, if_pos ⟨rfl, rfl⟩]
      generalize rescV l q f = x at hee hxb hxe
      obtain ⟨x1, x2, x3⟩ := x
      obtain ⟨hx0, hx1⟩ := hxb
      dsimp only at hx0 hx1
      have HEE := Aside0.mk hee
      have HXE := Aside0.mk hxe
      clear eE hee hxe
      have HSET : ∀ y z : Int, Aside0 (((D ++ vs.drop k).set k y).set k z = D ++ z :: vs.drop (k + 1) ∧ (D ++ vs.drop k).set k z = D ++ z :: vs.drop (k + 1)) := fun y z => ⟨by
       rw [drop_cons vs k hlt]
       have e1 := fun a b => set_at D (vs.drop (k + 1)) a b
       rw [HKD.out] at e1
       rw [e1, e1, e1]; exact ⟨rfl, rfl⟩⟩
      by_cases hs1 : s = 1
      ·subst hs1
       go_wp2_with (go_at_call 43; refine (huff_reader_escaped.calls KE T l q f x1 x2 x3 w wr HJ1.out.st HJ1.out.bel HEE.out).mono ?_; rintro e w5 ⟨rfl, hI5, hB5, hk5⟩; have HJ5 := Aside0.mk (HJ1.out.get HDA.out hI5 hB5 hk5); have cV5 := HJ5.out.vr.cell k HKV.out; have fV5 := HJ5.out.vr.frozen k; have cS5 := HJ5.out.sr.cell k HKS.out; rw [HS.out] at cS5; clear hI5 hB5 hk5)
       go_roundw
       case rel =>
        refine ⟨k + 1, by omega, by go_num, ⟨vli_step HKD.out HSG.out hlt HKS.out (x1, x2, x3) HXE.out (-x1) (by rw [HS.out]; simp) ?_⟩⟩
        have h2 := (HJ5.out.setV HDA.out k HKV.out x1).setV HDA.out k (by rw [List.length_set]; exact HKV.out) (-x1)
        rw [(HSET x1 (-x1)).out.1] at h2
        exact h2
       case measure => simp [intOf]; omega
      ·have hsb : (s == 1) = false := by simpa using hs1
       have HS1 := Aside0.mk hs1
       clear hs1
       go_wp2_with (go_at_call 43; refine (huff_reader_escaped.calls KE T l q f x1 x2 x3 w wr HJ1.out.st HJ1.out.bel HEE.out).mono ?_; rintro e w5 ⟨rfl, hI5, hB5, hk5⟩; have HJ5 := Aside0.mk (HJ1.out.get HDA.out hI5 hB5 hk5); have cV5 := HJ5.out.vr.cell k HKV.out; have fV5 := HJ5.out.vr.frozen k; have cS5 := HJ5.out.sr.cell k HKS.out; rw [HS.out] at cS5; clear hI5 hB5 hk5)
       go_roundw
       case rel =>
        refine ⟨k + 1, by omega, by go_num, ⟨vli_step HKD.out HSG.out hlt HKS.out (x1, x2, x3) HXE.out x1 (by rw [HS.out, if_neg HS1.out]) ?_⟩⟩
        have h2 := HJ5.out.setV HDA.out k HKV.out x1
        rw [(HSET x1 x1).out.2] at h2
        exact h2
       case measure => simp [intOf]; omega
     ·have HXE : Aside0 (escOne l id (rd vs (k : Int)) q f = (v, q, f)) := ⟨by unfold escOne; rw [HV.out, if_neg hE]⟩
      have HSET : ∀ z : Int, Aside0 ((D ++ vs.drop k).set k z = D ++ z :: vs.drop (k + 1)) := fun z => ⟨by
       rw [drop_cons vs k hlt]
       have e1 := fun a b => set_at D (vs.drop (k + 1)) a b
       rw [HKD.out] at e1
       rw [e1]⟩
      have HJD : Aside0 (HJ w #[.int .i64 id, .int .i64 pl, .slice A2 E.length c2, .slice A3 R.length c3] gV gS T tV l (D ++ v :: vs.drop (k + 1)) S q f wr) := ⟨by have h := HJ1.out; rw [drop_cons vs k hlt, HV.out] at h; exact h⟩
      have hcase : (id = 11 ∧ (v == 16) = false) ∨ (id == 11) = false := by
       by_cases h : id = 11
       ·exact .inl ⟨h, by simp; intro h2; exact hE ⟨h, h2⟩⟩
       ·exact .inr (by simpa using h)
      clear hE
      by_cases hs1 : s = 1
      ·subst hs1
       rcases hcase with ⟨rfl, hc1⟩ | hc1
       all_goals
        go_wp2
        go_roundw
        case rel =>
         refine ⟨k + 1, by omega, by go_num, ⟨vli_step HKD.out HSG.out hlt HKS.out (v, q, f) HXE.out (-v) (by rw [HS.out]; simp) ?_⟩⟩
         have h2 := HJ1.out.setV HDA.out k HKV.out (-v)
         rw [(HSET (-v)).out] at h2
         exact h2
        case measure => simp [intOf]; omega
      ·have hsb : (s == 1) = false := by simpa using hs1
       have HS1 := Aside0.mk hs1
       clear hs1
       rcases hcase with ⟨rfl, hc1⟩ | hc1
       all_goals
        go_wp2
        go_roundw
        case rel => exact ⟨k + 1, by omega, by go_num, ⟨vli_step HKD.out HSG.out hlt HKS.out (v, q, f) HXE.out v (by rw [HS.out, if_neg HS1.out]) HJD.out⟩⟩
        case measure => simp [intOf]; omega
    ·obtain rfl : k = vs.length := by omega
     have HE2 := Aside0.mk (vli_end HKD.out HSG.out)
     have HJ2 : Aside0 (HJ w #[.int .i64 id, .int .i64 pl, .slice A2 E.length c2, .slice A3 R.length c3] gV gS T tV l D S q f wr) := ⟨by simpa using HJ1.out⟩
     have HRV : Aside0 (readerV l id vs r2 = if f ≠ 0 then ([], 0, f) else (D, q, 0)) := ⟨by unfold readerV; rw [HE1.out]; dsimp only; rw [HE2.out]⟩
     clear HJ1 HSG hlt hk
     obtain ⟨cT1, cT2⟩ := HJ2.out.tcell
     by_cases hf : f = 0
     ·subst hf
      go_wp2
      go_quiet (fail)
      go_wp2
      go_ret3
      rw [HRV.out, if_neg (by decide)]
      refine ⟨_, rfl, Kd.R_of_own ?_ (fun _ _ => trivial), below_drewN' HJ2.out.bel nq⟩
      have h1 := xrow_own HJ2.out.vr (base := w.heap.size) (Nat.le_of_lt HDA.out.a) (c := cV) (by rw [HKD.out]; exact HCV.out.1) HCV.out.2
      rw [HKD.out] at h1 ⊢
      exact h1
     ·have hfb : (f != 0) = true := bne_iff_ne.mpr hf
      have HF := Aside0.mk hf
      clear hf
      go_wp2
      go_quiet (fail)
      go_wp2
      go_ret3
      rw [HRV.out, if_pos HF.out]
      exact ⟨_, rfl, Kd.R_nil _ _ _ _ _, below_drewN' HJ2.out.bel nq⟩

theorem valL_len (id : Int) (e : Nat) : (valL id e).length = (kindV id).1.toNat := by simp [valL]
theorem valL_in (id : Int) (e : Nat) (w : Nat) (hw : ((kindV id).2.2.1 - (kindV id).2.1 + 1).toNat = w) (h0 : 0 < w) (hl : (kindV id).2.1 = 0) : ∀ x ∈ valL id e, 0 ≤ x ∧ x < (w : Int) := by
 intro x hx
 unfold valL at hx
 obtain ⟨i, _, rfl⟩ := List.mem_map.1 hx
 rw [hw, hl]
 have := Nat.mod_lt (e / w ^ ((kindV id).1.toNat - 1 - i)) h0
 omega
theorem valL_rd {id : Int} (h1 : 1 ≤ id) (h2 : id ≤ 11) (hs : signB id = false) (e : Nat) (i : Int) : 0 ≤ rd (valL id e) i ∧ rd (valL id e) i ≤ 16 := by
 have hin : ∀ x ∈ valL id e, 0 ≤ x ∧ x < (17 : Int) := by
  have hc : id = 3 ∨ id = 4 ∨ id = 7 ∨ id = 8 ∨ id = 9 ∨ id = 10 ∨ id = 11 := by
   unfold signB at hs
   simp only [Bool.or_eq_false_iff, decide_eq_false_iff_not] at hs
   omega
  intro x hx
  rcases hc with rfl | rfl | rfl | rfl | rfl | rfl | rfl
  ·have := valL_in 3 e 3 (by decide) (by decide) (by decide) x hx; omega
  ·have := valL_in 4 e 3 (by decide) (by decide) (by decide) x hx; omega
  ·have := valL_in 7 e 8 (by decide) (by decide) (by decide) x hx; omega
  ·have := valL_in 8 e 8 (by decide) (by decide) (by decide) x hx; omega
  ·have := valL_in 9 e 13 (by decide) (by decide) (by decide) x hx; omega
  ·have := valL_in 10 e 13 (by decide) (by decide) (by decide) x hx; omega
  ·have := valL_in 11 e 17 (by decide) (by decide) (by decide) x hx; omega
 unfold rd
 rw [List.getD_eq_getElem?_getD]
 cases g : (valL id e)[i.toNat]? with
 | none => simp
 | some x => have := hin x (List.mem_of_getElem? g); simp; omega
theorem dim_in {id : Int} (h1 : 1 ≤ id) (h2 : id ≤ 12) : 0 < (kindV id).1.toNat ∧ (kindV id).1.toNat ≤ 4 := by
 rcases kind_cases h1 h2 with rfl | rfl | rfl | rfl | rfl | rfl | rfl | rfl | rfl | rfl | rfl | rfl <;> decide
/-- What is read of a book from 1 to 11 is one of its entries. -/
theorem readV_ok {id pl : Int} {E R l : List Int} (B : Byt l) {p x q : Int} (h : readV id pl E R l p = (x, q, 0)) : isB id pl E R ∧ 0 ≤ x ∧ x < manyV id := by
 unfold readV at h
 by_cases g : isB id pl E R
 ·rw [if_pos g] at h
  obtain ⟨a1, a2, a3, a4, a5, a6⟩ := read_code g.1.1 g.1.2 B h
  exact ⟨g, a4, a5⟩
 ·rw [if_neg g] at h; simp at h

/-- **huff.Get, for every list of bytes, place and book.** -/
theorem huff_Get.calls (A0 : Option Addr) (c0 : Nat) (l0 : List Int) (a1 : Int) (a2_0 : Int) (a2_1 : Int) (A2_2 : Option Addr) (c2_2 : Nat) (l2_2 : List Int) (A2_3 : Option Addr) (c2_3 : Nat) (l2_3 : List Int) (r1 : List Int) (r2 : Int) (r3 : Int) (w : World) (hr0 : Kd.C (Kd.int .u8) w A0 l0.length l0) (hc0 : l0.length ≤ c0) (hr2_2 : Kd.C (Kd.int .i64) w A2_2 l2_2.length l2_2) (hc2_2 : l2_2.length ≤ c2_2) (hr2_3 : Kd.C (Kd.int .i64) w A2_3 l2_3.length l2_3) (hc2_3 : l2_3.length ≤ c2_3) (h : huff_Get.f l0 a1 a2_0 a2_1 l2_2 l2_3 = some (r1, r2, r3)) :
  Calls Try.prog 12 #[.slice A0 l0.length c0, .int .i64 a1, .agg #[.int .i64 a2_0, .int .i64 a2_1, .slice A2_2 l2_2.length c2_2, .slice A2_3 l2_3.length c2_3]] w fun e w' => ∃ v0_ : Value, e = .returned (.tuple #[v0_, .int .i64 r2, .int .i64 r3]) ∧ Kd.R (Kd.int .i64) 3 w' w.heap.size (fun _ => True) v0_ r1 ∧ Below w.heap.size w w' := by
 unfold huff_Get.f at h
 by_cases hb : bytB l0 = true
 rotate_left
 ·rw [if_neg hb] at h; cases h
 rw [if_pos hb] at h
 have hV : hgetV l0 a1 a2_0 a2_1 l2_2 l2_3 = (r1, r2, r3) := Option.some.inj h
 have B := bytB_byt hb
 clear h hb
 unfold hgetV at hV
 by_cases h11 : 11 < a2_0
 ·rw [if_pos h11] at hV
  simp only [Prod.mk.injEq] at hV
  obtain ⟨rfl, rfl, rfl⟩ := hV
  obtain ⟨K, hk⟩ := checked_over a2_0 a2_1 l2_2 l2_3 h11
  refine (hget_over A0 c0 l0 a1 a2_0 a2_1 A2_2 c2_2 l2_2 A2_3 c2_3 l2_3 w hr2_2 hc2_2 hr2_3 hc2_3 _ K hk h11).mono ?_
  rintro e w' ⟨rfl, hb⟩
  exact ⟨_, rfl, Kd.R_nil _ _ _ _ _, hb⟩
 rw [if_neg h11] at hV
 obtain ⟨K, hK⟩ := read_ev a2_0 a2_1 l2_2 l2_3 B a1
 have hk := hK K (Nat.le_refl _)
 dsimp only at hk
 generalize hrr : readV a2_0 a2_1 l2_2 l2_3 l0 a1 = rr at hk hV
 obtain ⟨x, q, f⟩ := rr
 dsimp only at hV
 by_cases hf : f ≠ 0
 ·rw [if_pos hf] at hV
  simp only [Prod.mk.injEq] at hV
  obtain ⟨rfl, rfl, rfl⟩ := hV
  refine (hget_bad A0 c0 l0 a1 a2_0 a2_1 A2_2 c2_2 l2_2 A2_3 c2_3 l2_3 w hr0 hc0 hr2_2 hc2_2 hr2_3 hc2_3 _ _ _ K hk (by omega) hf).mono ?_
  rintro e w' ⟨rfl, hb⟩
  exact ⟨_, rfl, Kd.R_nil _ _ _ _ _, hb⟩
 obtain rfl : f = 0 := Classical.not_not.1 hf
 rw [if_neg hf] at hV
 obtain ⟨g, x0, x1⟩ := readV_ok B hrr
 obtain ⟨n, rfl⟩ : ∃ n : Nat, x = (n : Int) := ⟨x.toNat, by omega⟩
 rw [Int.toNat_natCast] at hV
 have hv := (val_two g.1.1 g.1.2 n x1).1
 have hs := signed_f a2_0
 have hd := dim_in g.1.1 g.1.2
 by_cases hsb : signB a2_0 = true
 ·rw [if_pos hsb] at hV
  simp only [Prod.mk.injEq] at hV
  obtain ⟨rfl, rfl, rfl⟩ := hV
  exact hget_signed A0 c0 l0 a1 a2_0 a2_1 A2_2 c2_2 l2_2 A2_3 c2_3 l2_3 w hr0 hc0 hr2_2 hc2_2 hr2_3 hc2_3 _ _ _ K 12 hk (by omega) hv (by rw [hs, hsb])
 ·rw [if_neg hsb] at hV
  have hsf : signB a2_0 = false := by simpa using hsb
  have := hget_reader A0 c0 l0 a1 a2_0 a2_1 A2_2 c2_2 l2_2 A2_3 c2_3 l2_3 w hr0 hc0 hr2_2 hc2_2 hr2_3 hc2_3 B _ q _ K 12 hk (by omega) hv (by rw [hs, hsf]) (by rw [valL_len]; exact hd.1) (by rw [valL_len]; exact hd.2) (valL_rd g.1.1 (by omega) hsf n)
  rw [hV] at this
  exact this
end Go.Proofs.Ytchflniekbhohaa.P
