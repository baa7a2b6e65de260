/- The walk of book.Get: the book's entries are what the sort makes of the numbers in order; its ranks are told by them. -/
import Derived.Test.YtchflniekbhohaaHStabL
import Derived.Test.YtchflniekbhohaaHOfL
import Derived.Test.YtchflniekbhohaaHSizesL
import Derived.Test.YtchflniekbhohaaHRightL
import Derived.BigCall
import Derived.Deep.RegionHeld3

/- The walk of book.Get: the book's entries are what the sort makes of the numbers in order; its ranks are told by them. -/
namespace Go.Proofs.Ytchflniekbhohaa.P
open Go.RowKit Go.Sort Go.Proofs.Ytchflniekbhohaa.Eng Go.Proofs.YtchflniekbhohaaW.PrintWords Go.Proofs.YtchflniekbhohaaW.PrintLast
set_option linter.unusedVariables false
set_option linter.unusedSimpArgs false

def cmpV (x y : Int) : Int := if x < y then -1 else if x > y then 1 else 0
set_option maxHeartbeats 1000000 in
theorem nan_at (x : Int) (w : World) : Calls Try.prog 84 #[.int .u8 x] w fun e w' => e = .returned (.bool false) ∧ w = w' := by
 have h : (x != x) = false := by simp
 go_enter Try.func84, Try.ntmps84
 go_wp2
 go_ret
 exact ⟨rfl, rfl⟩
set_option maxHeartbeats 1000000 in
theorem cmp_at (x y : Int) (w : World) : Calls Try.prog 57 #[.int .u8 x, .int .u8 y] w fun e w' => e = .returned (.int .i64 (cmpV x y)) ∧ w = w' := by
 by_cases h1 : x < y
 ·have HV : Aside0 (cmpV x y = -1) := ⟨by unfold cmpV; rw [if_pos h1]⟩
  go_enter Try.func57, Try.ntmps57
  go_wp2_with (go_at_call 84; refine (nan_at _ _).mono ?_; rintro e w1 ⟨rfl, rfl⟩)
  go_ret
  exact ⟨by rw [HV.out]; rfl, rfl⟩
 ·by_cases h2 : y < x
  ·have HV : Aside0 (cmpV x y = 1) := ⟨by unfold cmpV; rw [if_neg h1, if_pos h2]⟩
   go_enter Try.func57, Try.ntmps57
   go_wp2_with (go_at_call 84; refine (nan_at _ _).mono ?_; rintro e w1 ⟨rfl, rfl⟩)
   go_ret
   exact ⟨by rw [HV.out]; rfl, rfl⟩
  ·have HV : Aside0 (cmpV x y = 0) := ⟨by unfold cmpV; rw [if_neg h1, if_neg h2]⟩
   go_enter Try.func57, Try.ntmps57
   go_wp2_with (go_at_call 84; refine (nan_at _ _).mono ?_; rintro e w1 ⟨rfl, rfl⟩)
   go_ret
   exact ⟨by rw [HV.out]; rfl, rfl⟩

/-- The comparison of two entries by a list of sizes. -/
def cfS (S : List Int) (x y : E289) : Int := cmpV (rd S (x.val : Int)) (rd S (y.val : Int))
set_option maxHeartbeats 1000000 in
theorem less_at (S : List Int) (hS : S.length = 289) (Z : Nat) (x y : E289) (w : World) (hz : IRow w Z 91 .u8 S) :
  Calls Try.prog 56 #[.int .i64 (x.val : Int), .int .i64 (y.val : Int), .pointer (some ⟨Z, 0, none⟩)] w fun e w' => e = .returned (.int .i64 (cfS S x y)) ∧ ∃ q, w' = w.drewN q := by
 have hx := x.isLt
 have hy := y.isLt
 have cx := hz.cell x.val (by omega)
 have cy := hz.cell y.val (by omega)
 have x0 : (0 : Int) ≤ (x.val : Int) := by omega
 have x1 : (x.val : Int) < 289 := by omega
 have y0 : (0 : Int) ≤ (y.val : Int) := by omega
 have y1 : (y.val : Int) < 289 := by omega
 unfold cfS
 generalize rd S (x.val : Int) = a at cx ⊢
 generalize rd S (y.val : Int) = b at cy ⊢
 generalize x.val = i at cx x0 x1 ⊢
 generalize y.val = j at cy y0 y1 ⊢
 clear hz hx hy
 go_enter Try.func56, Try.ntmps56
 go_wp2
 go_quiet ((go_at_call 57; exact Calls.quiet_of_same ((cmp_at _ _ _).mono fun e w' h => ⟨h.1, h.2.symm⟩)))
 go_wp2
 go_ret
 exact ⟨rfl, _, rfl⟩

theorem irow_inPW {w : World} {blk off Z : Nat} {e : TypeId} {k : IntKind} {S : List Int} (h : IRow w Z e k S) (hne : Z ≠ blk) (d : Array E289) (m : Nat) : IRow (PW w blk off d m) Z e k S := by
 show (w.heap.modify blk _)[Z]? = _
 rw [Array.getElem?_modify, if_neg (fun e => hne e.symm)]
 exact h
theorem cmpOk (w : World) (blk off n Z : Nat) (S : List Int) (hS : S.length = 289) (hz : IRow w Z 91 .u8 S) (hne : Z ≠ blk) : CmpOk w blk off n Z (cfS S) :=
 fun d m _ x y => less_at S hS Z x y _ (irow_inPW hz hne d m)

/-! ### Rows of a call's own -/
/-- The numbers below n, in order. -/
def rangeE (n : Nat) : List E289 := (List.range n).map fun i => Fin.ofNat 289 i
def entV (S : List Int) (n : Nat) : List Int := (stab (ltF (cfS S)) n (rangeE n).toArray).toList.map fun x => (x.val : Int)
/-- Where each number stands in a list, j of them told. -/
def rkAt (xs : List Int) (n : Nat) : Nat → List Int
 | 0 => List.replicate n 0
 | j + 1 => (rkAt xs n j).set (rd xs (j : Int)).toNat (j : Int)
def getV (id : Int) : Int × Int × List Int × List Int × Int :=
 if 1 ≤ id ∧ id ≤ 12 then (id, (kindV id).2.2.2.1, entV (szV id) (manyV id).toNat, rkAt (entV (szV id) (manyV id).toNat) (manyV id).toNat (manyV id).toNat, 0) else (0, 0, [], [], 2)

theorem RI.alloc {w : World} {CB : Array Value} {K : Nat} {ks : List Int} {W : World} (h : RI w CB K ks W) (o : Obj) : RI w CB K ks (W.alloc o) :=
 ⟨h.1.alloc o, h.2.1.alloc o, h.2.2.alloc (by have := h.1.lt; omega) o⟩
theorem RI.set {w : World} {CB : Array Value} {K : Nat} {ks : List Int} {W : World} {G i : Nat} (h : RI w CB K ks W) (h1 : K < G) (h2 : w.heap.size < G) (v : Value) : RI w CB K ks (W.setCell ⟨G, i, none⟩ v) :=
 ⟨(Below.heap_setCell W _ _ _ (by show _ ≠ G; omega)).trans h.1, h.2.1.other (by omega) v, bsetAt h.2.2 (by omega) v⟩
def BK0 : Array Value := #[.int .i64 0, .int .i64 0, .slice none 0 0, .slice none 0 0]
set_option maxRecDepth 100000 in
set_option maxHeartbeats 2000000 in
theorem get_bad (id : Int) (w : World) (g : ¬ (1 ≤ id ∧ id ≤ 12)) :
  Calls Try.prog 26 #[.int .i64 id] w fun e w' => e = .returned (.tuple #[.agg #[.int .i64 0, .int .i64 0, .slice none 0 0, .slice none 0 0], .int .i64 2]) ∧ Below w.heap.size w w' := by
 have HK := Aside0.mk (kind_odd g)
 clear g
 go_enter Try.func26, Try.ntmps26
 go_wp2_with (first | (go_at_call 52; refine (book_of.calls id 0 0 0 0 2 _ (by show some (kindV id) = _; rw [HK.out])).mono ?_; rintro e w1 ⟨rfl, hd1⟩; have OB := Aside0.mk (((ORow.new w 25 BK0).below hd1 (by simp)).alloc (.cells #[.int .i64 0, .int .i64 0, .int .i64 0, .int .i64 0] 88)); have HB1 := Aside0.mk ((below_then ((Below.refl _ w).alloc (Nat.le_refl _) (.cells BK0 25)) (by simp) hd1).alloc (by have := hd1.size; simp at this; omega) (.cells #[.int .i64 0, .int .i64 0, .int .i64 0, .int .i64 0] 88)); clear hd1) | refine wpList_store_row rfl 25 _ _ rfl w.heap.size BK0 (by rfl) (by rfl) 25 BK0 OB.out (by kernel_rfl) (by kernel_rfl) (by kernel_rfl) ?_)
 have O2 := OB.out.setRow BK0
 have c0 := O2.cell 0 _ rfl
 have c1 := O2.cell 1 _ rfl
 have c2 := O2.cell 2 _ rfl
 have c3 := O2.cell 3 _ rfl
 simp only [BK0] at c0 c1 c2 c3
 exact bodyPost_ret (v := .tuple #[.agg #[.int .i64 0, .int .i64 0, .slice none 0 0, .slice none 0 0], .int .i64 2]) (by simp [results, Try.results26, go_sem, c0, c1, c2, c3, BK0]) rfl ⟨rfl, below_setRow HB1.out (Nat.le_refl _) _⟩
/-- A row of whole numbers at the head of a block, with more cells behind it. -/
def XRow (W : World) (b : Nat) (e : TypeId) (xs : List Int) (tl : List Value) : Prop := W.heap[b]? = some (.cells (nums .i64 xs ++ tl).toArray e (0, 0))
section
variable {W W' : World} {b e : Nat} {xs : List Int} {tl : List Value}
theorem XRow.lt (h : XRow W b e xs tl) : b < W.heap.size := (Array.getElem?_eq_some_iff.1 h).1
theorem XRow.cell (h : XRow W b e xs tl) (i : Nat) (hi : i < xs.length) : W.cell? ⟨b, i, none⟩ = some (.int .i64 (rd xs i)) := by
 simp [World.cell?, show W.heap[b]? = _ from h, nums, rd, List.getElem?_append, List.getElem?_eq_getElem hi, List.getD_eq_getElem?_getD, hi]
theorem XRow.frozen (h : XRow W b e xs tl) (i : Nat) : W.frozen? ⟨b, i, none⟩ = false := by simp [World.frozen?, show W.heap[b]? = _ from h]
theorem XRow.below {n : Nat} (h : XRow W b e xs tl) (hb : Below n W W') (hn : b < n) : XRow W' b e xs tl := (hb.block b hn).trans h
theorem XRow.grown {row : Option Nat} (h : XRow W b e xs tl) (hg : W.grownBy W' row) (hne : some b ≠ row) : XRow W' b e xs tl := (hg.block b h.lt hne).trans h
theorem XRow.alloc (h : XRow W b e xs tl) (o : Obj) : XRow (W.alloc o) b e xs tl := h.grown (World.grownBy_alloc W o none) (by simp)
theorem XRow.setRow_other (h : XRow W b e xs tl) {c : Nat} (hne : b ≠ c) (D : Array Value) : XRow (W.setRow c D) b e xs tl := (Go.setRow_other W c b D hne).trans h
theorem XRow.other (h : XRow W b e xs tl) {c i : Nat} (hne : b ≠ c) (v : Value) : XRow (W.setCell ⟨c, i, none⟩ v) b e xs tl := (Below.heap_setCell W _ _ b hne).trans h
theorem XRow.set (h : XRow W b e xs tl) (i : Nat) (hi : i < xs.length) (x : Int) : XRow (W.setCell ⟨b, i, none⟩ (.int .i64 x)) b e (xs.set i x) tl := by
 obtain ⟨hlt, hk⟩ := Array.getElem?_eq_some_iff.1 h
 show (W.heap.modify b _)[b]? = _
 rw [Array.getElem?_eq_getElem (by rw [Array.size_modify]; exact hlt), Array.getElem_modify_self, hk]
 simp [nums, List.map_set, List.set_append, hi]
theorem XRow.put (h : XRow W b e xs tl) (d : Array E289) (m : Nat) (hd : d.size = xs.length) : XRow (PW W b 0 d m) b e (d.toList.map fun x => (x.val : Int)) tl := by
 obtain ⟨hlt, hk⟩ := Array.getElem?_eq_some_iff.1 h
 show (W.heap.modify b _)[b]? = _
 rw [Array.getElem?_eq_getElem (by rw [Array.size_modify]; exact hlt), Array.getElem_modify_self, hk]
 show some (Obj.cells _ e (0, 0)) = _
 congr 2
 apply Array.ext
 ·simp [putCells, nums, hd]
 ·intro i h1 h2
  simp only [putCells, Array.getElem_mapIdx, Nat.zero_le, true_and, Nat.zero_add, Nat.sub_zero]
  by_cases hi : i < d.size
  ·rw [if_pos hi]
   simp [nums, List.getElem_append, hi, encE]
  ·rw [if_neg hi]
   simp [nums, List.getElem_append, hi, hd] 
   simp [hd] at hi
   simp [List.getElem_append, show ¬ i < xs.length by omega]
theorem XRow.inPW (h : XRow W b e xs tl) {blk : Nat} (hne : b ≠ blk) (d : Array E289) (m : Nat) : XRow (PW W blk 0 d m) b e xs tl := by
 show (W.heap.modify blk _)[b]? = _
 rw [Array.getElem?_modify, if_neg (fun e => hne e.symm)]
 exact h
end
theorem orow_inPW {W : World} {b e : Nat} {C : Array Value} (h : ORow W b e C) {blk : Nat} (hne : b ≠ blk) (d : Array E289) (m : Nat) : ORow (PW W blk 0 d m) b e C := by
 show (W.heap.modify blk _)[b]? = _
 rw [Array.getElem?_modify, if_neg (fun e => hne e.symm)]
 exact h
theorem below_PW {n : Nat} {w W : World} (h : Below n w W) {blk : Nat} (hb : n ≤ blk) (d : Array E289) (m : Nat) : Below n w (PW W blk 0 d m) := by
 refine ⟨h.os, h.tape, h.output, ?_, fun i hi => ?_⟩
 ·show _ ≤ (W.heap.modify blk _).size
  rw [Array.size_modify]; exact h.size
 ·show (W.heap.modify blk _)[i]? = _
  rw [Array.getElem?_modify, if_neg (by omega)]
  exact h.block i hi
theorem own_xrow {W : World} {base e n c : Nat} {A : Option Addr} {xs : List Int} (h : W.ownsRow base e 1 (.slice A n c) n (nums .i64 xs)) (hn : 0 < n) :
  ∃ b tl, A = some ⟨b, 0, none⟩ ∧ base ≤ b ∧ XRow W b e xs tl ∧ n ≤ c ∧ xs.length = n ∧ xs.length + tl.length = c ∧ c ≤ maxLen := by
 obtain ⟨hl, h⟩ := h
 rw [nums_length, Nat.mul_one] at hl
 rcases h with ⟨he, h0⟩ | ⟨g, cap, cur, he, hb, hg, hnc, hcm, hcs, ht⟩
 ·omega
 ·injection he with e1 e2 e3
  subst e1 e3
  refine ⟨g, cur.toList.drop xs.length, rfl, hb, ?_, hnc, hl, ?_, hcm⟩
  ·rw [← hl, Nat.mul_one] at ht
   unfold XRow
   rw [hg, ← ht, List.take_append_drop]
  ·simp [hcs]; omega
theorem xrow_own {W : World} {base b e c : Nat} {xs : List Int} {tl : List Value} (h : XRow W b e xs tl) (hb : base ≤ b) (hc : xs.length + tl.length = c) (hm : c ≤ maxLen) :
  W.ownsRow base e 1 (.slice (some ⟨b, 0, none⟩) xs.length c) xs.length (nums .i64 xs) := by
 refine ⟨by rw [nums_length, Nat.mul_one], .inr ⟨b, c, _, rfl, hb, h, by omega, hm, by simp [nums_length, hc], ?_⟩⟩
 rw [Nat.mul_one]
 simp [nums]
theorem row_ne {W : World} {b c e1 e2 : Nat} {C D : Array Value} (h : W.heap[b]? = some (.cells C e1 (0, 0))) (k : W.heap[c]? = some (.cells D e2 (0, 0))) (hne : e1 ≠ e2) : b ≠ c := by
 rintro rfl
 rw [h] at k
 injection k with k
 injection k with _ k
 exact hne k
theorem xrow_holds {W : World} {b e : Nat} {xs : List E289} {tl : List Value} (h : XRow W b e (xs.map fun x => (x.val : Int)) tl) : Holds encE W b 0 xs.toArray := by
 intro j hj
 have hj' : j < xs.length := by simpa using hj
 refine ⟨?_, ?_⟩
 ·have := h.cell j (by simpa using hj')
  rw [Nat.zero_add, this]
  unfold encE rd
  simp [List.getD_eq_getElem?_getD, hj']
 ·rw [Nat.zero_add]; exact h.frozen j

/-- What Get's walk keeps: the result's block, the book's, the sizes', its rows of entries and of ranks. -/
structure GI (w : World) (B G Z eb rb : Nat) (GC : Array Value) (S E R : List Int) (tE tR : List Value) (W : World) : Prop where
 res : ORow W B 25 BK0
 out : ORow W G 25 GC
 sz : IRow W Z 91 .u8 S
 ent : XRow W eb 3 E tE
 rnk : XRow W rb 3 R tR
 bel : Below w.heap.size w W
structure GD (w : World) (B G Z eb rb : Nat) : Prop where
 b : w.heap.size ≤ B
 e : w.heap.size ≤ eb
 r : w.heap.size ≤ rb
 er : eb ≠ rb
 eB : eb ≠ B
 eG : eb ≠ G
 eZ : eb ≠ Z
 rB : rb ≠ B
 rG : rb ≠ G
 rZ : rb ≠ Z
section
variable {w W : World} {B G Z eb rb : Nat} {GC : Array Value} {S E R : List Int} {tE tR : List Value}
theorem GI.setE (h : GI w B G Z eb rb GC S E R tE tR W) (d : GD w B G Z eb rb) (i : Nat) (hi : i < E.length) (x : Int) : GI w B G Z eb rb GC S (E.set i x) R tE tR (W.setCell ⟨eb, i, none⟩ (.int .i64 x)) :=
 ⟨h.res.other d.eB.symm _, h.out.other d.eG.symm _, h.sz.other d.eZ.symm _, h.ent.set i hi x, h.rnk.other d.er.symm _, bsetAt h.bel d.e _⟩
theorem GI.setR (h : GI w B G Z eb rb GC S E R tE tR W) (d : GD w B G Z eb rb) (i : Nat) (hi : i < R.length) (x : Int) : GI w B G Z eb rb GC S E (R.set i x) tE tR (W.setCell ⟨rb, i, none⟩ (.int .i64 x)) :=
 ⟨h.res.other d.rB.symm _, h.out.other d.rG.symm _, h.sz.other d.rZ.symm _, h.ent.other d.er _, h.rnk.set i hi x, bsetAt h.bel d.r _⟩
theorem GI.put (h : GI w B G Z eb rb GC S E R tE tR W) (d : GD w B G Z eb rb) (a : Array E289) (m : Nat) (ha : a.size = E.length) : GI w B G Z eb rb GC S (a.toList.map fun x => (x.val : Int)) R tE tR (PW W eb 0 a m) :=
 ⟨orow_inPW h.res d.eB.symm a m, orow_inPW h.out d.eG.symm a m, irow_inPW h.sz d.eZ.symm a m, h.ent.put a m ha, h.rnk.inPW d.er.symm a m, below_PW h.bel d.e a m⟩
end
/-- The first j numbers, then zeros. -/
def upI (n j : Nat) : List Int := (List.range n).map fun i => if i < j then (i : Int) else 0
theorem upI_length (n j : Nat) : (upI n j).length = n := by simp [upI]
theorem upI_zero (n : Nat) : upI n 0 = List.replicate n 0 := by
 refine List.eq_replicate_iff.2 ⟨upI_length n 0, fun b hb => ?_⟩
 unfold upI at hb
 obtain ⟨i, _, rfl⟩ := List.mem_map.1 hb
 simp
theorem upI_succ (n j : Nat) (h : j < n) : (upI n j).set j (j : Int) = upI n (j + 1) := by
 apply List.ext_getElem
 ·simp [upI]
 ·intro i h1 h2
  rw [List.getElem_set]
  simp only [upI, List.getElem_map, List.getElem_range]
  by_cases e : j = i
  ·subst e; simp
  ·rw [if_neg e]
   by_cases h : i < j
   ·rw [if_pos h, if_pos (by omega)]
   ·rw [if_neg h, if_neg (by omega)]
theorem upI_end (n : Nat) (hn : n ≤ 289) : upI n n = (rangeE n).map fun x => (x.val : Int) := by
 apply List.ext_getElem
 ·simp [upI, rangeE]
 ·intro i h1 h2
  simp only [upI, rangeE, List.getElem_map, List.getElem_range]
  have hi : i < n := by simpa [upI] using h1
  rw [if_pos hi]
  show (i : Int) = ((i % 289 : Nat) : Int)
  omega
theorem rkAt_length (xs : List Int) (n : Nat) : ∀ j, (rkAt xs n j).length = n
 | 0 => by simp [rkAt]
 | j + 1 => by simp [rkAt, rkAt_length xs n j]
theorem entV_length (S : List Int) (n : Nat) : (entV S n).length = n := by
 unfold entV; simp [size_stab, rangeE]
theorem entV_bd (S : List Int) (n : Nat) (i : Int) : 0 ≤ rd (entV S n) i ∧ rd (entV S n) i < 289 := by
 unfold rd entV
 rw [List.getD_eq_getElem?_getD, List.getElem?_map]
 cases h : (stab (ltF (cfS S)) n (rangeE n).toArray).toList[i.toNat]? with
 | none => simp
 | some x => simp only [Option.map_some, Option.getD_some]; have := x.isLt; omega

theorem sizes_listI (D : Int) (dim many : Nat) (hD : D = dim) (low high plain : Int) (w : World) (ok : KindOk dim low high many) (hm : ∃ k, book_kind_many.f k D low high plain = some (many : Int)) :
  Calls Try.prog 54 #[.agg #[.int .i64 D, .int .i64 low, .int .i64 high, .int .i64 plain]] w fun e w' => ∃ S : List Int, Aside0 (S = szAt dim low high many) ∧ S.length = 289 ∧ e = .returned (.agg (nums .u8 S).toArray) ∧ Below w.heap.size w w' := by
 subst hD; exact sizes_list dim many low high plain w ok hm

theorem sort_n (w : World) (blk cap Z n : Nat) (cf : E289 → E289 → Int) (d : Array E289) (hn : d.size = n) (hH : Holds encE w blk 0 d) (hC : CmpOk w blk 0 n Z cf) (hsz : n ≤ 289) :
  Calls Try.prog 55 #[.slice (some ⟨blk, 0, none⟩) n cap, .func (.func 56) #[] #[.pointer (some ⟨Z, 0, none⟩)]] w fun e w' => e = .returned (.tuple #[]) ∧ ∃ q', w' = PW w blk 0 (stab (ltF cf) n d) q' := by
 subst hn; exact sort_at w blk 0 cap Z cf d hH hC hsz
/-- The book's block, when it is made. -/
def GCv (a0 pl : Int) (eb rb n c1 c2 : Nat) : Array Value := #[.int .i64 a0, .int .i64 pl, .slice (some ⟨eb, 0, none⟩) n c1, .slice (some ⟨rb, 0, none⟩) n c2]
section
variable (a0 pl : Int) (eb rb n c1 c2 : Nat)
theorem gcv_info : (Try.prog.info? 25).map (·.size) = some (GCv a0 pl eb rb n c1 c2).size := by
 have h : (Try.prog.info? 25).map (·.size) = some 4 := by kernel_rfl
 rw [h]; rfl
theorem gcv_old : BK0.size = (GCv a0 pl eb rb n c1 c2).size := rfl
theorem gcv_one : (GCv a0 pl eb rb n c1 c2).all (·.oneCell') = true := by simp [GCv, Value.oneCell']
theorem gcv0 : (GCv a0 pl eb rb n c1 c2)[0]? = some (.int .i64 a0) := rfl
theorem gcv1 : (GCv a0 pl eb rb n c1 c2)[1]? = some (.int .i64 pl) := rfl
theorem gcv2 : (GCv a0 pl eb rb n c1 c2)[2]? = some (.slice (some ⟨eb, 0, none⟩) n c1) := rfl
theorem gcv3 : (GCv a0 pl eb rb n c1 c2)[3]? = some (.slice (some ⟨rb, 0, none⟩) n c2) := rfl
end
def book_GetF.f (k : Nat) (a0 : Int) : Option (Int × Int × List Int × List Int × Int) := (book_of.f a0).bind fun bt90001 => (if bt90001.2.2.2.2 = 0 then ((book_kind_many.f k bt90001.1 bt90001.2.1 bt90001.2.2.1 bt90001.2.2.2.1).bind fun t90002 => (if 0 ≤ t90002 then (if (t90002 : Int).toNat ≤ 35184372088832 then ((book_kind_many.f k bt90001.1 bt90001.2.1 bt90001.2.2.1 bt90001.2.2.2.1).bind fun t90003 => (if 0 ≤ t90003 then (if (t90003 : Int).toNat ≤ 35184372088832 then (some (a0, bt90001.2.2.2.1, (List.replicate (t90002 : Int).toNat 0), (List.replicate (t90003 : Int).toNat 0), 0)) else (none)) else (none))) else (none)) else (none))) else (some (0, 0, ([] : List Int), ([] : List Int), bt90001.2.2.2.2)))
def book_Get.T4 : Bool × List (List Nat × List Nat) := (true, [([], []), ([], []), ([1], [1]), ([], []), ([3], [3]), ([4, 4], [4]), ([], []), ([6, 4], [6]), ([7, 7], [7]), ([0, 2, 5, 8], [0, 2, 5, 8]), ([], []), ([10, 9, 7, 0, 1, 2, 3, 4, 5, 6, 7, 8, 9, 10], [9, 10])])
def book_Get.B4 : List Nat := [0, 0, 2, 0, 8, 24, 0, 88, 216, 511, 0, 2047]
theorem book_Get.tab4 : rtab .any (opsOf Try.f26 4) = book_Get.T4 := by kernel_rfl
theorem book_Get.bits4 : waitsOk book_Get.T4.2 book_Get.B4 = true := by kernel_rfl

set_option maxHeartbeats 8000000 in
set_option maxRecDepth 100000 in
theorem get_walk (k : Nat) (a0 : Int) (r1 : Int) (r2 : Int) (r3 : List Int) (r4 : List Int) (r5 : Int) (w : World) (hk6 : k = 6) (g1 : 1 ≤ a0) (g2 : a0 ≤ 12) (hperm : ∀ j : Nat, j < (manyV a0).toNat → rd (entV (szV a0) (manyV a0).toNat) (j : Int) < manyV a0) (h : book_GetF.f k a0 = some (r1, r2, r3, r4, r5)) :
  Calls Try.prog 26 #[.int .i64 a0] w fun e w' => ∃ v2_ v3_ : Value, e = .returned (.tuple #[.agg #[.int .i64 a0, .int .i64 (kindV a0).2.2.2.1, v2_, v3_], .int .i64 0]) ∧
   Kd.R (Kd.int .i64) 3 w' w.heap.size (fun k_ => some k_ ≠ (v3_ : Value).ownBlock) v2_ (entV (szV a0) (manyV a0).toNat) ∧
   Kd.R (Kd.int .i64) 3 w' w.heap.size (fun k_ => some k_ ≠ (v2_ : Value).ownBlock) v3_ (rkAt (entV (szV a0) (manyV a0).toNat) (manyV a0).toNat (manyV a0).toNat) ∧ Below w.heap.size w w' := by
 have hu25 := Try.underlying25
 have hu88 := Try.underlying88
 have HB := Aside0.mk (Below.refl w.heap.size w)
 have H : ((book_of.f a0).bind fun bt90001 => (if bt90001.2.2.2.2 = 0 then ((book_kind_many.f k bt90001.1 bt90001.2.1 bt90001.2.2.1 bt90001.2.2.2.1).bind fun t90002 => (if 0 ≤ t90002 then (if (t90002 : Int).toNat ≤ 35184372088832 then ((book_kind_many.f k bt90001.1 bt90001.2.1 bt90001.2.2.1 bt90001.2.2.2.1).bind fun t90003 => (if 0 ≤ t90003 then (if (t90003 : Int).toNat ≤ 35184372088832 then (some (a0, bt90001.2.2.2.1, (List.replicate (t90002 : Int).toNat 0), (List.replicate (t90003 : Int).toNat 0), 0)) else (none)) else (none))) else (none)) else (none))) else (some (0, 0, ([] : List Int), ([] : List Int), bt90001.2.2.2.2)))) = some (r1, r2, r3, r4, r5) := h
 clear h
 replace H := Option.bind_eq_some_iff.mp H
 obtain ⟨⟨t90001, t90004, t90005, t90006, t90007⟩, A20, H⟩ := H
 replace H : (if t90007 = 0 then ((book_kind_many.f k t90001 t90004 t90005 t90006).bind fun t90002 => (if 0 ≤ t90002 then (if (t90002 : Int).toNat ≤ 35184372088832 then ((book_kind_many.f k t90001 t90004 t90005 t90006).bind fun t90003 => (if 0 ≤ t90003 then (if (t90003 : Int).toNat ≤ 35184372088832 then (some (a0, t90006, (List.replicate (t90002 : Int).toNat 0), (List.replicate (t90003 : Int).toNat 0), 0)) else (none)) else (none))) else (none)) else (none))) else (some (0, 0, ([] : List Int), ([] : List Int), t90007))) = some (r1, r2, r3, r4, r5) := H
 have A2 := Aside0.mk A20
 clear A20
 by_cases c3 : t90007 = 0
 ·rw [if_pos c3] at H
  have c3b0 : (t90007 == 0) = true := beq_iff_eq.mpr c3
  have c3b1 : (t90007 != 0) = false := bne_eq_false_iff_eq.mpr c3
  clear c3
  replace H := Option.bind_eq_some_iff.mp H
  obtain ⟨t90002, A40, H⟩ := H
  replace H : (if 0 ≤ t90002 then (if (t90002 : Int).toNat ≤ 35184372088832 then ((book_kind_many.f k t90001 t90004 t90005 t90006).bind fun t90003 => (if 0 ≤ t90003 then (if (t90003 : Int).toNat ≤ 35184372088832 then (some (a0, t90006, (List.replicate (t90002 : Int).toNat 0), (List.replicate (t90003 : Int).toNat 0), 0)) else (none)) else (none))) else (none)) else (none)) = some (r1, r2, r3, r4, r5) := H
  have A4 := Aside0.mk A40
  clear A40
  by_cases c5 : 0 ≤ t90002
  ·rw [if_pos c5] at H
   have c5b0 := eq_true c5
   have c5b1 : decide (0 ≤ t90002) = true := decide_eq_true c5
   clear c5
   by_cases c6 : (t90002 : Int).toNat ≤ 35184372088832
   ·rw [if_pos c6] at H
    have c6b0 := eq_true c6
    have c6b1 : decide ((t90002 : Int).toNat ≤ 35184372088832) = true := decide_eq_true c6
    clear c6
    obtain ⟨y90008, hy90008⟩ : ∃ y_ : List Int, y_ = (List.replicate (t90002 : Int).toNat 0) := ⟨_, rfl⟩
    replace H : ((book_kind_many.f k t90001 t90004 t90005 t90006).bind fun t90003 => (if 0 ≤ t90003 then (if (t90003 : Int).toNat ≤ 35184372088832 then (some (a0, t90006, y90008, (List.replicate (t90003 : Int).toNat 0), 0)) else (none)) else (none))) = some (r1, r2, r3, r4, r5) := by first | (rw [hy90008]; with_reducible exact H) | (have H2_ := (Option.bind_some _ _).symm.trans H; rw [hy90008]; with_reducible exact H2_) | (have H2_ := (Option.bind_some _ _).symm.trans H; with_reducible exact H2_) | with_reducible exact H | (rw [hy90008]; exact H) | exact H
    have Ny90008 := Aside0.mk hy90008
    clear hy90008
    replace H := Option.bind_eq_some_iff.mp H
    obtain ⟨t90003, A70, H⟩ := H
    replace H : (if 0 ≤ t90003 then (if (t90003 : Int).toNat ≤ 35184372088832 then (some (a0, t90006, y90008, (List.replicate (t90003 : Int).toNat 0), 0)) else (none)) else (none)) = some (r1, r2, r3, r4, r5) := H
    have A7 := Aside0.mk A70
    clear A70
    by_cases c8 : 0 ≤ t90003
    ·rw [if_pos c8] at H
     have c8b0 := eq_true c8
     have c8b1 : decide (0 ≤ t90003) = true := decide_eq_true c8
     clear c8
     by_cases c9 : (t90003 : Int).toNat ≤ 35184372088832
     ·rw [if_pos c9] at H
      have c9b0 := eq_true c9
      have c9b1 : decide ((t90003 : Int).toNat ≤ 35184372088832) = true := decide_eq_true c9
      clear c9
      obtain ⟨y90009, hy90009⟩ : ∃ y_ : List Int, y_ = (List.replicate (t90003 : Int).toNat 0) := ⟨_, rfl⟩
      replace H : (some (a0, t90006, y90008, y90009, 0)) = some (r1, r2, r3, r4, r5) := by first | (rw [hy90009]; with_reducible exact H) | (have H2_ := (Option.bind_some _ _).symm.trans H; rw [hy90009]; with_reducible exact H2_) | (have H2_ := (Option.bind_some _ _).symm.trans H; with_reducible exact H2_) | with_reducible exact H | (rw [hy90009]; exact H) | exact H
      have Ny90009 := Aside0.mk hy90009
      clear hy90009
      simp only [Option.some.injEq, Prod.mk.injEq] at H
      obtain ⟨rfl, rfl, rfl, rfl, rfl⟩ := H
      -- ours: the kind's facts
      have KD : kindV a0 = (t90001, t90004, t90005, t90006, t90007) := Option.some.inj A2.out
      obtain ⟨ok, hd, hm, hk5, hm0⟩ := kind_ok g1 g2
      have hmf := many_f g1 g2
      rw [KD] at ok hd hmf
      dsimp only at ok hd hmf
      have hm1 : 1 ≤ manyV a0 := by unfold manyV; rcases kind_cases g1 g2 with rfl | rfl | rfl | rfl | rfl | rfl | rfl | rfl | rfl | rfl | rfl | rfl <;> decide
      obtain ⟨many, hmn⟩ : ∃ many : Nat, manyV a0 = (many : Int) := ⟨_, hm.symm⟩
      have hmt : (manyV a0).toNat = many := by omega
      have M1 : t90002 = (many : Int) := by have := A4.out; rw [hk6, hmf] at this; injection this with this; omega
      have M2 : t90003 = (many : Int) := by have := A7.out; rw [hk6, hmf] at this; injection this with this; omega
      obtain ⟨dim, hdim⟩ : ∃ dim : Nat, t90001 = (dim : Int) := ⟨_, hd.symm⟩
      have Y1 : y90008 = List.replicate many 0 := by rw [Ny90008.out, M1]; simp
      have Y2 : y90009 = List.replicate many 0 := by rw [Ny90009.out, M2]; simp
      rw [hmt] at ok hperm ⊢
      rw [hmn] at hperm
      have hdt : t90001.toNat = dim := by omega
      rw [hdt] at ok
      have OK := Aside0.mk ok
      have HMF : Aside0 (book_kind_many.f 6 t90001 t90004 t90005 t90006 = some (many : Int)) := ⟨by rw [hmf, hmn]⟩
      have HSZ : Aside0 (szV a0 = szAt dim t90004 t90005 many) := ⟨by unfold szV; rw [KD, hmt]; dsimp only; rw [hdt]⟩
      have HPM := Aside0.mk hperm
      have m289 : many ≤ 289 := ok.m
      have m1 : 1 ≤ many := by omega
      have KDP : Aside0 ((kindV a0).2.2.2.1 = t90006) := ⟨by rw [KD]⟩
      have HY1 := Aside0.mk Y1
      have HY2 := Aside0.mk Y2
      have HDIM := Aside0.mk hdim
      clear KD ok hd hm hk5 hm0 hmf hm1 hmn hmt M1 M2 hdim Y1 Y2 hdt hperm g1 g2
      go_enter Try.func26, Try.ntmps26
      try go_wp2_with (first | ((with_reducible refine gate_dst (N := 2) rfl ?_); refine box_event ?hg (N := 2) ?hd (cs := #[.int .i64 0, .int .i64 0, .slice none 0 0, .slice none 0 0]) (t := 25) ?hr ?_; (case hd => rfl); (case hg => rfl); (case hr => first | (go_simp; done) | (go_simp; rfl)); intro gb90010 hg w10 hbox hb; have n0_ := Aside0.mk (below_step (by repeat (first | (with_reducible first | exact HB.out | apply below_alloc | apply pw_below_drewN | apply below_drew1) | exact HB.out)) hb); have n1_ := Aside0.mk (hbox); have n2_ := Aside0.mk ((by rw [hg]; exact (below_size (by repeat (first | (with_reducible first | exact HB.out | apply below_alloc | apply pw_below_drewN | apply below_drew1) | exact HB.out))) : w.heap.size ≤ gb90010)); have n3_ := Aside0.mk ((by rw [hg]; exact (below_size (by repeat (first | (with_reducible first | exact HB.out | apply below_alloc | apply pw_below_drewN | apply below_drew1) | exact HB.out))) : w.heap.size ≤ gb90010)); clear HB; have HB := n0_; have BK90010 := n1_; have GW90010 := n2_; have GE90010 := n3_; clear n0_ n1_ n2_ n3_; clear hb hbox hg) | ((with_reducible refine gate_callee (f := 52) rfl ?_); refine goesL_ (some 13) rfl rfl Try.func52 (by kernel_rfl) rfl #[.int .i64 a0] rfl (by (try simp only [List.map_toArray, List.map_cons, List.map_nil]); first | done | rfl | (simp only [List.length_drop, List.length_take]; rfl)) ?_; (with_reducible refine (book_of.calls a0 t90001 t90004 t90005 t90006 t90007 _ A2.out).mono ?_); rintro e w11 ⟨rfl, hb⟩; refine ⟨_, rfl, ?_⟩; have n0_ := Aside0.mk (blk_below (g := gb90010) (o := .cells #[.int .i64 0, .int .i64 0, .slice none 0 0, .slice none 0 0] 25 (0, 0)) (by (with_reducible repeat (first | refine blk_drewN ?_ _ | refine blk_drew ?_ | refine blk_alloc ?_ _)); exact BK90010.out) hb); have n1_ := Aside0.mk (below_step (by repeat (first | (with_reducible first | exact HB.out | apply below_alloc | apply pw_below_drewN | apply below_drew1 | refine below_set ?_ GE90010.out) | exact HB.out)) hb); clear BK90010; clear HB; have BK90010 := n0_; have HB := n1_; clear n0_ n1_; (try clear hb); (try clear hb2); (try clear hk); (try clear hi)) | ((with_reducible refine gate_dst (N := 4) rfl ?_); refine box_event ?hg (N := 4) ?hd (cs := #[.int .i64 0, .int .i64 0, .int .i64 0, .int .i64 0]) (t := 88) ?hr ?_; (case hd => rfl); (case hg => rfl); (case hr => first | (go_simp; done) | (go_simp; rfl)); intro gb90011 hg w12 hbox hb; have n0_ := Aside0.mk (blk_below (g := gb90010) (o := .cells #[.int .i64 0, .int .i64 0, .slice none 0 0, .slice none 0 0] 25 (0, 0)) (by (with_reducible repeat (first | refine blk_drewN ?_ _ | refine blk_drew ?_ | refine blk_alloc ?_ _)); exact BK90010.out) hb); have n1_ := Aside0.mk (below_step (by repeat (first | (with_reducible first | exact HB.out | apply below_alloc | apply pw_below_drewN | apply below_drew1 | refine below_set ?_ GE90010.out) | exact HB.out)) hb); have n2_ := Aside0.mk (hbox); have n3_ := Aside0.mk ((by rw [hg]; exact (below_size (by repeat (first | (with_reducible first | exact HB.out | apply below_alloc | apply pw_below_drewN | apply below_drew1 | refine below_set ?_ GE90010.out) | exact HB.out))) : w.heap.size ≤ gb90011)); have n4_ := Aside0.mk ((by rw [hg]; exact (below_size (by repeat (first | (with_reducible first | exact HB.out | apply below_alloc | apply pw_below_drewN | apply below_drew1 | refine below_set ?_ GE90010.out) | exact HB.out))) : w.heap.size ≤ gb90011)); have n5_ := Aside0.mk ((by rw [hg]; exact Nat.ne_of_lt (blk_lt (g := gb90010) (o := .cells #[.int .i64 0, .int .i64 0, .slice none 0 0, .slice none 0 0] 25 (0, 0)) (by (with_reducible repeat (first | refine blk_drewN ?_ _ | refine blk_drew ?_ | refine blk_alloc ?_ _)); exact BK90010.out)) : gb90010 ≠ gb90011)); have n6_ := Aside0.mk ((by rw [hg]; exact Nat.ne_of_gt (blk_lt (g := gb90010) (o := .cells #[.int .i64 0, .int .i64 0, .slice none 0 0, .slice none 0 0] 25 (0, 0)) (by (with_reducible repeat (first | refine blk_drewN ?_ _ | refine blk_drew ?_ | refine blk_alloc ?_ _)); exact BK90010.out)) : gb90011 ≠ gb90010)); clear BK90010; clear HB; have BK90010 := n0_; have HB := n1_; have BK90011 := n2_; have GW90011 := n3_; have GE90011 := n4_; have NB90010_90011 := n5_; have NB90011_90010 := n6_; clear n0_ n1_ n2_ n3_ n4_ n5_ n6_; clear hb hbox hg; have hnb13 := NB90011_90010.out; have hnc13 := NB90010_90011.out; have hcz14_0 : w12.cell? ⟨gb90011, 0, none⟩ = some (.int .i64 0) := (blk_cell BK90011.out 0).trans rfl; have hcz14_1 : w12.cell? ⟨gb90011, 1, none⟩ = some (.int .i64 0) := (blk_cell BK90011.out 1).trans rfl; have hcz14_2 : w12.cell? ⟨gb90011, 2, none⟩ = some (.int .i64 0) := (blk_cell BK90011.out 2).trans rfl; have hcz14_3 : w12.cell? ⟨gb90011, 3, none⟩ = some (.int .i64 0) := (blk_cell BK90011.out 3).trans rfl; have hfz14_0 := blk_frozen BK90011.out 0; have hfz14_1 := blk_frozen BK90011.out 1; have hfz14_2 := blk_frozen BK90011.out 2; have hfz14_3 := blk_frozen BK90011.out 3))
      have n0_ : Aside0 (((((w12.setCell ⟨gb90011, 0, none⟩ (.int .i64 t90001)).setCell ⟨gb90011, 1, none⟩ (.int .i64 t90004)).setCell ⟨gb90011, 2, none⟩ (.int .i64 t90005)).setCell ⟨gb90011, 3, none⟩ (.int .i64 t90006)).heap[gb90010]? = some (.cells #[.int .i64 0, .int .i64 0, .slice none 0 0, .slice none 0 0] 25 (0, 0))) := ⟨by (with_reducible repeat (first | refine blk_drewN ?_ _ | refine blk_drew ?_ | refine blk_alloc ?_ _)); refine blk_far ?_ NB90010_90011.out _; (with_reducible repeat (first | refine blk_drewN ?_ _ | refine blk_drew ?_ | refine blk_alloc ?_ _)); refine blk_far ?_ NB90010_90011.out _; (with_reducible repeat (first | refine blk_drewN ?_ _ | refine blk_drew ?_ | refine blk_alloc ?_ _)); refine blk_far ?_ NB90010_90011.out _; (with_reducible repeat (first | refine blk_drewN ?_ _ | refine blk_drew ?_ | refine blk_alloc ?_ _)); refine blk_far ?_ NB90010_90011.out _; (with_reducible repeat (first | refine blk_drewN ?_ _ | refine blk_drew ?_ | refine blk_alloc ?_ _)); exact BK90010.out⟩
      have n1_ : Aside0 (((((w12.setCell ⟨gb90011, 0, none⟩ (.int .i64 t90001)).setCell ⟨gb90011, 1, none⟩ (.int .i64 t90004)).setCell ⟨gb90011, 2, none⟩ (.int .i64 t90005)).setCell ⟨gb90011, 3, none⟩ (.int .i64 t90006)).heap[gb90011]? = some (.cells #[.int .i64 t90001, .int .i64 t90004, .int .i64 t90005, .int .i64 t90006] 88 (0, 0))) := ⟨by (with_reducible repeat (first | refine blk_drewN ?_ _ | refine blk_drew ?_ | refine blk_alloc ?_ _)); refine blk_put (cs := #[.int .i64 t90001, .int .i64 t90004, .int .i64 t90005, .int .i64 0]) ?_ 3 _ rfl; (with_reducible repeat (first | refine blk_drewN ?_ _ | refine blk_drew ?_ | refine blk_alloc ?_ _)); refine blk_put (cs := #[.int .i64 t90001, .int .i64 t90004, .int .i64 0, .int .i64 0]) ?_ 2 _ rfl; (with_reducible repeat (first | refine blk_drewN ?_ _ | refine blk_drew ?_ | refine blk_alloc ?_ _)); refine blk_put (cs := #[.int .i64 t90001, .int .i64 0, .int .i64 0, .int .i64 0]) ?_ 1 _ rfl; (with_reducible repeat (first | refine blk_drewN ?_ _ | refine blk_drew ?_ | refine blk_alloc ?_ _)); refine blk_put (cs := #[.int .i64 0, .int .i64 0, .int .i64 0, .int .i64 0]) ?_ 0 _ rfl; (with_reducible repeat (first | refine blk_drewN ?_ _ | refine blk_drew ?_ | refine blk_alloc ?_ _)); exact BK90011.out⟩
      have n2_ : Aside0 (Below w.heap.size w ((((w12.setCell ⟨gb90011, 0, none⟩ (.int .i64 t90001)).setCell ⟨gb90011, 1, none⟩ (.int .i64 t90004)).setCell ⟨gb90011, 2, none⟩ (.int .i64 t90005)).setCell ⟨gb90011, 3, none⟩ (.int .i64 t90006))) := ⟨by repeat (first | (with_reducible first | exact HB.out | apply below_alloc | apply pw_below_drewN | apply below_drew1 | refine below_set ?_ GE90010.out | refine below_set ?_ GE90011.out) | exact HB.out)⟩
      (try clear BK90010)
      (try clear BK90011)
      (try clear HB)
      generalize ((((w12.setCell ⟨gb90011, 0, none⟩ (.int .i64 t90001)).setCell ⟨gb90011, 1, none⟩ (.int .i64 t90004)).setCell ⟨gb90011, 2, none⟩ (.int .i64 t90005)).setCell ⟨gb90011, 3, none⟩ (.int .i64 t90006)) = w15 at n0_ n1_ n2_ ⊢
      have BK90010 := n0_
      have BK90011 := n1_
      have HB := n2_
      clear n0_ n1_ n2_
      have n0_ := Aside0.mk (blk_drew BK90010.out)
      have n1_ := Aside0.mk (blk_drew BK90011.out)
      have n2_ := Aside0.mk (below_drew1 HB.out)
      clear BK90010
      clear BK90011
      clear HB
      have BK90010 := n0_
      have BK90011 := n1_
      have HB := n2_
      clear n0_ n1_ n2_
      refine start_ (n := 12) (S := fun w' => w'.cell? ⟨gb90011, 0, none⟩ = some (.int .i64 t90001) ∧ w'.cell? ⟨gb90011, 1, none⟩ = some (.int .i64 t90004) ∧ w'.cell? ⟨gb90011, 2, none⟩ = some (.int .i64 t90005) ∧ w'.cell? ⟨gb90011, 3, none⟩ = some (.int .i64 t90006)) (ds := []) #[false, false, false, false, false, false, false, false, false, false, false, false] (by kernel_rfl) rfl rfl ⟨(blk_cell BK90011.out 0).trans rfl, (blk_cell BK90011.out 1).trans rfl, (blk_cell BK90011.out 2).trans rfl, (blk_cell BK90011.out 3).trans rfl⟩ (fun hHeld => ?_); refine with_tabW book_Get.tab4 book_Get.bits4 (fun HT_ HW_ => ?_)
      generalize w15.drew = w16 at BK90010 BK90011 HB hHeld ⊢
      refine pure_ (i := 0) (N := some 20) (v := ?_) (a' := ?_) #[true, false, false, false, false, false, false, false, false, false, false, false] rfl rfl (any_of HT_.out (by kernel_rfl)) (fun _ _ _ h => h) (Or.inl ⟨by rfl, ?_⟩) ?_ ?_
      rotate_left
      ·intro w'
       go_simp
       with_reducible rfl
      rotate_left
      ·simp only [Act.put, List.setIfInBounds_toArray, List.set_cons_zero, List.set_cons_succ, i64_w, i32_w]
       rfl
      refine pure_ (i := 1) (N := some 21) (v := ?_) (a' := ?_) #[true, true, false, false, false, false, false, false, false, false, false, false] rfl rfl (any_of HT_.out (by kernel_rfl)) (fun _ _ _ h => h) (Or.inl ⟨by rfl, ?_⟩) ?_ ?_
      rotate_left
      ·intro w'
       go_simp
       with_reducible rfl
      rotate_left
      ·simp only [Act.put, List.setIfInBounds_toArray, List.set_cons_zero, List.set_cons_succ, i64_w, i32_w]
       rfl
      refine take_ (i := 2) (N := some 22) (v := ?_) (a' := ?_) #[true, true, true, false, false, false, false, false, false, false, false, false] rfl rfl (take_ofW HT_.out HW_.out (by kernel_rfl)) (fun _ _ _ h => h) (Or.inl ⟨by rfl, ?_⟩) hHeld ?_ ?_
      rotate_left
      ·rintro w' ⟨s0, s1, s2, s3⟩
       go_simp
       with_reducible rfl
      rotate_left
      ·simp only [Act.put, List.setIfInBounds_toArray, List.set_cons_zero, List.set_cons_succ, i64_w, i32_w]
       rfl
      refine take_ (i := 3) (N := some 23) (v := ?_) (a' := ?_) #[true, true, true, true, false, false, false, false, false, false, false, false] rfl rfl (take_ofW HT_.out HW_.out (by kernel_rfl)) (fun _ _ _ h => h) (Or.inl ⟨by rfl, ?_⟩) hHeld ?_ ?_
      rotate_left
      ·rintro w' ⟨s0, s1, s2, s3⟩
       go_simp
       with_reducible rfl
      rotate_left
      ·simp only [Act.put, List.setIfInBounds_toArray, List.set_cons_zero, List.set_cons_succ, i64_w, i32_w]
       rfl
      refine take_ (i := 6) (N := some 26) (v := ?_) (a' := ?_) #[true, true, true, true, false, false, true, false, false, false, false, false] rfl rfl (take_ofW HT_.out HW_.out (by kernel_rfl)) (fun _ _ _ h => h) (Or.inl ⟨by rfl, ?_⟩) hHeld ?_ ?_
      rotate_left
      ·rintro w' ⟨s0, s1, s2, s3⟩
       go_simp
       with_reducible rfl
      rotate_left
      ·simp only [Act.put, List.setIfInBounds_toArray, List.set_cons_zero, List.set_cons_succ, i64_w, i32_w]
       rfl
      refine join_ (σ := Value × Value × Nat) 1 #[true, true, true, true, true, true, true, true, true, true, true, false] (fun s_ => [(24, .int .i64 t90002), (25, s_.1), (27, .int .i64 t90003), (28, s_.2.1), (6, .pointer (some ⟨s_.2.2, 0, none⟩)), (29, .agg #[.int .i64 a0, .int .i64 t90006, s_.1, s_.2.1])]) (fun s_ w' => (w'.cell? ⟨gb90011, 0, none⟩ = some (.int .i64 t90001) ∧ w'.cell? ⟨gb90011, 1, none⟩ = some (.int .i64 t90004) ∧ w'.cell? ⟨gb90011, 2, none⟩ = some (.int .i64 t90005) ∧ w'.cell? ⟨gb90011, 3, none⟩ = some (.int .i64 t90006)) ∧ (Kd.R (Kd.int .i64) 3 w' w.heap.size (fun k_ => some k_ ≠ (s_.2.1 : Value).ownBlock) s_.1 y90008) ∧ (Kd.R (Kd.int .i64) 3 w' w.heap.size (fun k_ => some k_ ≠ (s_.1 : Value).ownBlock) s_.2.1 y90009) ∧ (w'.heap[gb90010]? = some (.cells #[.int .i64 0, .int .i64 0, .slice none 0 0, .slice none 0 0] 25 (0, 0))) ∧ (w'.heap[gb90011]? = some (.cells #[.int .i64 t90001, .int .i64 t90004, .int .i64 t90005, .int .i64 t90006] 88 (0, 0))) ∧ (w'.heap[s_.2.2]? = some (.cells #[.int .i64 0, .int .i64 0, .slice none 0 0, .slice none 0 0] 25 (0, 0))) ∧ (w.heap.size ≤ s_.2.2) ∧ (w.heap.size ≤ s_.2.2) ∧ (gb90010 ≠ s_.2.2) ∧ (s_.2.2 ≠ gb90010) ∧ (gb90011 ≠ s_.2.2) ∧ (s_.2.2 ≠ gb90011) ∧ (Below w.heap.size w w')) ?_ ?_
      rotate_left
      ·intro hJ4_5_7_8_10
       refine join_ (σ := Value × Value) 2 #[true, true, true, true, true, true, true, true, true, true, false, false] (fun s_ => [(24, .int .i64 t90002), (25, s_.1), (27, .int .i64 t90003), (28, s_.2), (29, .agg #[.int .i64 a0, .int .i64 t90006, s_.1, s_.2])]) (fun s_ w' => (w'.cell? ⟨gb90011, 0, none⟩ = some (.int .i64 t90001) ∧ w'.cell? ⟨gb90011, 1, none⟩ = some (.int .i64 t90004) ∧ w'.cell? ⟨gb90011, 2, none⟩ = some (.int .i64 t90005) ∧ w'.cell? ⟨gb90011, 3, none⟩ = some (.int .i64 t90006)) ∧ (Kd.R (Kd.int .i64) 3 w' w.heap.size (fun k_ => some k_ ≠ (s_.2 : Value).ownBlock) s_.1 y90008) ∧ (Kd.R (Kd.int .i64) 3 w' w.heap.size (fun k_ => some k_ ≠ (s_.1 : Value).ownBlock) s_.2 y90009) ∧ (w'.heap[gb90010]? = some (.cells #[.int .i64 0, .int .i64 0, .slice none 0 0, .slice none 0 0] 25 (0, 0))) ∧ (w'.heap[gb90011]? = some (.cells #[.int .i64 t90001, .int .i64 t90004, .int .i64 t90005, .int .i64 t90006] 88 (0, 0))) ∧ (Below w.heap.size w w')) ?_ ?_
       rotate_left
       ·intro hJ4_5_7_8
        refine join_ (σ := Value × Nat) 3 #[true, true, true, true, true, true, true, true, false, false, true, false] (fun s_ => [(24, .int .i64 t90002), (25, s_.1), (27, .int .i64 t90003), (6, .pointer (some ⟨s_.2, 0, none⟩))]) (fun s_ w' => (w'.cell? ⟨gb90011, 0, none⟩ = some (.int .i64 t90001) ∧ w'.cell? ⟨gb90011, 1, none⟩ = some (.int .i64 t90004) ∧ w'.cell? ⟨gb90011, 2, none⟩ = some (.int .i64 t90005) ∧ w'.cell? ⟨gb90011, 3, none⟩ = some (.int .i64 t90006)) ∧ (Kd.R (Kd.int .i64) 3 w' w.heap.size (fun _ => True) s_.1 y90008) ∧ (w'.heap[gb90010]? = some (.cells #[.int .i64 0, .int .i64 0, .slice none 0 0, .slice none 0 0] 25 (0, 0))) ∧ (w'.heap[gb90011]? = some (.cells #[.int .i64 t90001, .int .i64 t90004, .int .i64 t90005, .int .i64 t90006] 88 (0, 0))) ∧ (w'.heap[s_.2]? = some (.cells #[.int .i64 0, .int .i64 0, .slice none 0 0, .slice none 0 0] 25 (0, 0))) ∧ (w.heap.size ≤ s_.2) ∧ (w.heap.size ≤ s_.2) ∧ (gb90010 ≠ s_.2) ∧ (s_.2 ≠ gb90010) ∧ (gb90011 ≠ s_.2) ∧ (s_.2 ≠ gb90011) ∧ (Below w.heap.size w w')) ?_ ?_
        rotate_left
        ·intro hJ4_5_7_10
         refine join_ (σ := Value × Nat) 3 #[true, true, true, true, true, false, true, true, true, false, true, false] (fun s_ => [(24, .int .i64 t90002), (27, .int .i64 t90003), (28, s_.1), (6, .pointer (some ⟨s_.2, 0, none⟩))]) (fun s_ w' => (w'.cell? ⟨gb90011, 0, none⟩ = some (.int .i64 t90001) ∧ w'.cell? ⟨gb90011, 1, none⟩ = some (.int .i64 t90004) ∧ w'.cell? ⟨gb90011, 2, none⟩ = some (.int .i64 t90005) ∧ w'.cell? ⟨gb90011, 3, none⟩ = some (.int .i64 t90006)) ∧ (Kd.R (Kd.int .i64) 3 w' w.heap.size (fun _ => True) s_.1 y90009) ∧ (w'.heap[gb90010]? = some (.cells #[.int .i64 0, .int .i64 0, .slice none 0 0, .slice none 0 0] 25 (0, 0))) ∧ (w'.heap[gb90011]? = some (.cells #[.int .i64 t90001, .int .i64 t90004, .int .i64 t90005, .int .i64 t90006] 88 (0, 0))) ∧ (w'.heap[s_.2]? = some (.cells #[.int .i64 0, .int .i64 0, .slice none 0 0, .slice none 0 0] 25 (0, 0))) ∧ (w.heap.size ≤ s_.2) ∧ (w.heap.size ≤ s_.2) ∧ (gb90010 ≠ s_.2) ∧ (s_.2 ≠ gb90010) ∧ (gb90011 ≠ s_.2) ∧ (s_.2 ≠ gb90011) ∧ (Below w.heap.size w w')) ?_ ?_
         rotate_left
         ·intro hJ4_7_8_10
          refine join_ (σ := Value) 4 #[true, true, true, true, true, true, true, true, false, false, false, false] (fun s_ => [(24, .int .i64 t90002), (25, s_), (27, .int .i64 t90003)]) (fun s_ w' => (w'.cell? ⟨gb90011, 0, none⟩ = some (.int .i64 t90001) ∧ w'.cell? ⟨gb90011, 1, none⟩ = some (.int .i64 t90004) ∧ w'.cell? ⟨gb90011, 2, none⟩ = some (.int .i64 t90005) ∧ w'.cell? ⟨gb90011, 3, none⟩ = some (.int .i64 t90006)) ∧ (Kd.R (Kd.int .i64) 3 w' w.heap.size (fun _ => True) s_ y90008) ∧ (w'.heap[gb90010]? = some (.cells #[.int .i64 0, .int .i64 0, .slice none 0 0, .slice none 0 0] 25 (0, 0))) ∧ (w'.heap[gb90011]? = some (.cells #[.int .i64 t90001, .int .i64 t90004, .int .i64 t90005, .int .i64 t90006] 88 (0, 0))) ∧ (Below w.heap.size w w')) ?_ ?_
          rotate_left
          ·intro hJ4_5_7
           refine join_ (σ := Value × Nat) 4 #[true, true, true, true, true, true, true, false, false, false, true, false] (fun s_ => [(24, .int .i64 t90002), (25, s_.1), (6, .pointer (some ⟨s_.2, 0, none⟩))]) (fun s_ w' => (w'.cell? ⟨gb90011, 0, none⟩ = some (.int .i64 t90001) ∧ w'.cell? ⟨gb90011, 1, none⟩ = some (.int .i64 t90004) ∧ w'.cell? ⟨gb90011, 2, none⟩ = some (.int .i64 t90005) ∧ w'.cell? ⟨gb90011, 3, none⟩ = some (.int .i64 t90006)) ∧ (Kd.R (Kd.int .i64) 3 w' w.heap.size (fun _ => True) s_.1 y90008) ∧ (w'.heap[gb90010]? = some (.cells #[.int .i64 0, .int .i64 0, .slice none 0 0, .slice none 0 0] 25 (0, 0))) ∧ (w'.heap[gb90011]? = some (.cells #[.int .i64 t90001, .int .i64 t90004, .int .i64 t90005, .int .i64 t90006] 88 (0, 0))) ∧ (w'.heap[s_.2]? = some (.cells #[.int .i64 0, .int .i64 0, .slice none 0 0, .slice none 0 0] 25 (0, 0))) ∧ (w.heap.size ≤ s_.2) ∧ (w.heap.size ≤ s_.2) ∧ (gb90010 ≠ s_.2) ∧ (s_.2 ≠ gb90010) ∧ (gb90011 ≠ s_.2) ∧ (s_.2 ≠ gb90011) ∧ (Below w.heap.size w w')) ?_ ?_
           rotate_left
           ·intro hJ4_5_10
            refine join_ (σ := Value) 4 #[true, true, true, true, true, false, true, true, true, false, false, false] (fun s_ => [(24, .int .i64 t90002), (27, .int .i64 t90003), (28, s_)]) (fun s_ w' => (w'.cell? ⟨gb90011, 0, none⟩ = some (.int .i64 t90001) ∧ w'.cell? ⟨gb90011, 1, none⟩ = some (.int .i64 t90004) ∧ w'.cell? ⟨gb90011, 2, none⟩ = some (.int .i64 t90005) ∧ w'.cell? ⟨gb90011, 3, none⟩ = some (.int .i64 t90006)) ∧ (Kd.R (Kd.int .i64) 3 w' w.heap.size (fun _ => True) s_ y90009) ∧ (w'.heap[gb90010]? = some (.cells #[.int .i64 0, .int .i64 0, .slice none 0 0, .slice none 0 0] 25 (0, 0))) ∧ (w'.heap[gb90011]? = some (.cells #[.int .i64 t90001, .int .i64 t90004, .int .i64 t90005, .int .i64 t90006] 88 (0, 0))) ∧ (Below w.heap.size w w')) ?_ ?_
            rotate_left
            ·intro hJ4_7_8
             refine join_ (σ := Nat) 4 #[true, true, true, true, true, false, true, true, false, false, true, false] (fun s_ => [(24, .int .i64 t90002), (27, .int .i64 t90003), (6, .pointer (some ⟨s_, 0, none⟩))]) (fun s_ w' => (w'.cell? ⟨gb90011, 0, none⟩ = some (.int .i64 t90001) ∧ w'.cell? ⟨gb90011, 1, none⟩ = some (.int .i64 t90004) ∧ w'.cell? ⟨gb90011, 2, none⟩ = some (.int .i64 t90005) ∧ w'.cell? ⟨gb90011, 3, none⟩ = some (.int .i64 t90006)) ∧ (w'.heap[gb90010]? = some (.cells #[.int .i64 0, .int .i64 0, .slice none 0 0, .slice none 0 0] 25 (0, 0))) ∧ (w'.heap[gb90011]? = some (.cells #[.int .i64 t90001, .int .i64 t90004, .int .i64 t90005, .int .i64 t90006] 88 (0, 0))) ∧ (w'.heap[s_]? = some (.cells #[.int .i64 0, .int .i64 0, .slice none 0 0, .slice none 0 0] 25 (0, 0))) ∧ (w.heap.size ≤ s_) ∧ (w.heap.size ≤ s_) ∧ (gb90010 ≠ s_) ∧ (s_ ≠ gb90010) ∧ (gb90011 ≠ s_) ∧ (s_ ≠ gb90011) ∧ (Below w.heap.size w w')) ?_ ?_
             rotate_left
             ·intro hJ4_7_10
              refine join_ (σ := Value) 5 #[true, true, true, true, true, true, true, false, false, false, false, false] (fun s_ => [(24, .int .i64 t90002), (25, s_)]) (fun s_ w' => (w'.cell? ⟨gb90011, 0, none⟩ = some (.int .i64 t90001) ∧ w'.cell? ⟨gb90011, 1, none⟩ = some (.int .i64 t90004) ∧ w'.cell? ⟨gb90011, 2, none⟩ = some (.int .i64 t90005) ∧ w'.cell? ⟨gb90011, 3, none⟩ = some (.int .i64 t90006)) ∧ (Kd.R (Kd.int .i64) 3 w' w.heap.size (fun _ => True) s_ y90008) ∧ (w'.heap[gb90010]? = some (.cells #[.int .i64 0, .int .i64 0, .slice none 0 0, .slice none 0 0] 25 (0, 0))) ∧ (w'.heap[gb90011]? = some (.cells #[.int .i64 t90001, .int .i64 t90004, .int .i64 t90005, .int .i64 t90006] 88 (0, 0))) ∧ (Below w.heap.size w w')) ?_ ?_
              rotate_left
              ·intro hJ4_5
               refine join_ (σ := Unit) 5 #[true, true, true, true, true, false, true, true, false, false, false, false] (fun s_ => [(24, .int .i64 t90002), (27, .int .i64 t90003)]) (fun s_ w' => (w'.cell? ⟨gb90011, 0, none⟩ = some (.int .i64 t90001) ∧ w'.cell? ⟨gb90011, 1, none⟩ = some (.int .i64 t90004) ∧ w'.cell? ⟨gb90011, 2, none⟩ = some (.int .i64 t90005) ∧ w'.cell? ⟨gb90011, 3, none⟩ = some (.int .i64 t90006)) ∧ (w'.heap[gb90010]? = some (.cells #[.int .i64 0, .int .i64 0, .slice none 0 0, .slice none 0 0] 25 (0, 0))) ∧ (w'.heap[gb90011]? = some (.cells #[.int .i64 t90001, .int .i64 t90004, .int .i64 t90005, .int .i64 t90006] 88 (0, 0))) ∧ (Below w.heap.size w w')) ?_ ?_
               rotate_left
               ·intro hJ4_7
                refine join_ (σ := Nat) 5 #[true, true, true, true, true, false, true, false, false, false, true, false] (fun s_ => [(24, .int .i64 t90002), (6, .pointer (some ⟨s_, 0, none⟩))]) (fun s_ w' => (w'.cell? ⟨gb90011, 0, none⟩ = some (.int .i64 t90001) ∧ w'.cell? ⟨gb90011, 1, none⟩ = some (.int .i64 t90004) ∧ w'.cell? ⟨gb90011, 2, none⟩ = some (.int .i64 t90005) ∧ w'.cell? ⟨gb90011, 3, none⟩ = some (.int .i64 t90006)) ∧ (w'.heap[gb90010]? = some (.cells #[.int .i64 0, .int .i64 0, .slice none 0 0, .slice none 0 0] 25 (0, 0))) ∧ (w'.heap[gb90011]? = some (.cells #[.int .i64 t90001, .int .i64 t90004, .int .i64 t90005, .int .i64 t90006] 88 (0, 0))) ∧ (w'.heap[s_]? = some (.cells #[.int .i64 0, .int .i64 0, .slice none 0 0, .slice none 0 0] 25 (0, 0))) ∧ (w.heap.size ≤ s_) ∧ (w.heap.size ≤ s_) ∧ (gb90010 ≠ s_) ∧ (s_ ≠ gb90010) ∧ (gb90011 ≠ s_) ∧ (s_ ≠ gb90011) ∧ (Below w.heap.size w w')) ?_ ?_
                rotate_left
                ·intro hJ4_10
                 refine join_ (σ := Unit) 6 #[true, true, true, true, true, false, true, false, false, false, false, false] (fun s_ => [(24, .int .i64 t90002)]) (fun s_ w' => (w'.cell? ⟨gb90011, 0, none⟩ = some (.int .i64 t90001) ∧ w'.cell? ⟨gb90011, 1, none⟩ = some (.int .i64 t90004) ∧ w'.cell? ⟨gb90011, 2, none⟩ = some (.int .i64 t90005) ∧ w'.cell? ⟨gb90011, 3, none⟩ = some (.int .i64 t90006)) ∧ (w'.heap[gb90010]? = some (.cells #[.int .i64 0, .int .i64 0, .slice none 0 0, .slice none 0 0] 25 (0, 0))) ∧ (w'.heap[gb90011]? = some (.cells #[.int .i64 t90001, .int .i64 t90004, .int .i64 t90005, .int .i64 t90006] 88 (0, 0))) ∧ (Below w.heap.size w w')) ?_ ?_
                 rotate_left
                 ·intro hJ4
                  refine join_ (σ := Nat) 6 #[true, true, true, true, false, false, true, false, false, false, true, false] (fun s_ => [(6, .pointer (some ⟨s_, 0, none⟩))]) (fun s_ w' => (w'.cell? ⟨gb90011, 0, none⟩ = some (.int .i64 t90001) ∧ w'.cell? ⟨gb90011, 1, none⟩ = some (.int .i64 t90004) ∧ w'.cell? ⟨gb90011, 2, none⟩ = some (.int .i64 t90005) ∧ w'.cell? ⟨gb90011, 3, none⟩ = some (.int .i64 t90006)) ∧ (w'.heap[gb90010]? = some (.cells #[.int .i64 0, .int .i64 0, .slice none 0 0, .slice none 0 0] 25 (0, 0))) ∧ (w'.heap[gb90011]? = some (.cells #[.int .i64 t90001, .int .i64 t90004, .int .i64 t90005, .int .i64 t90006] 88 (0, 0))) ∧ (w'.heap[s_]? = some (.cells #[.int .i64 0, .int .i64 0, .slice none 0 0, .slice none 0 0] 25 (0, 0))) ∧ (w.heap.size ≤ s_) ∧ (w.heap.size ≤ s_) ∧ (gb90010 ≠ s_) ∧ (s_ ≠ gb90010) ∧ (gb90011 ≠ s_) ∧ (s_ ≠ gb90011) ∧ (Below w.heap.size w w')) ?_ ?_
                  rotate_left
                  ·intro hJ10
                   refine two_ (i := 4) (j := 10) (Ni := some 24) (Nj := some 6) #[true, true, true, true, true, false, true, false, false, false, false, false] #[true, true, true, true, false, false, true, false, false, false, true, false] rfl rfl rfl rfl (two_of HT_.out (by kernel_rfl)) (by decide) (by decide) (fun K hK => ?_) (fun K hK => ?_)
                   ·skip
                    refine goes_ Try.func53 (by kernel_rfl) rfl #[.agg #[.int .i64 t90001, .int .i64 t90004, .int .i64 t90005, .int .i64 t90006]] (by rfl) rfl rfl (by (try simp only [List.map_toArray, List.map_cons, List.map_nil]); first | done | rfl | (simp only [List.length_drop, List.length_take]; rfl)) ?_
                    with_reducible refine (book_kind_many.calls k t90001 t90004 t90005 t90006 t90002 _ A4.out).mono ?_
                    rintro e w17 ⟨rfl, hb⟩
                    refine ⟨_, rfl, ?_⟩
                    have n0_ := Aside0.mk (blk_below (g := gb90010) (o := .cells #[.int .i64 0, .int .i64 0, .slice none 0 0, .slice none 0 0] 25 (0, 0)) (by (with_reducible repeat (first | refine blk_drewN ?_ _ | refine blk_drew ?_ | refine blk_alloc ?_ _)); exact BK90010.out) hb)
                    have n1_ := Aside0.mk (blk_below (g := gb90011) (o := .cells #[.int .i64 t90001, .int .i64 t90004, .int .i64 t90005, .int .i64 t90006] 88 (0, 0)) (by (with_reducible repeat (first | refine blk_drewN ?_ _ | refine blk_drew ?_ | refine blk_alloc ?_ _)); exact BK90011.out) hb)
                    have n2_ := Aside0.mk (below_step (by repeat (first | (with_reducible first | exact HB.out | apply below_alloc | apply pw_below_drewN | apply below_drew1 | refine below_set ?_ GE90010.out | refine below_set ?_ GE90011.out) | exact HB.out)) hb)
                    clear BK90010
                    clear BK90011
                    clear HB
                    have BK90010 := n0_
                    have BK90011 := n1_
                    have HB := n2_
                    clear n0_ n1_ n2_
                    (try clear hb)
                    (try clear hb2)
                    (try clear hk)
                    (try clear hi)
                    refine hK.out _ _ ⟨(blk_cell BK90011.out 0).trans rfl, (blk_cell BK90011.out 1).trans rfl, (blk_cell BK90011.out 2).trans rfl, (blk_cell BK90011.out 3).trans rfl⟩ (fun hHeld => ?_)
                    clear hK K
                    refine norm_ (a' := ?_) ?_ ?_
                    rotate_left
                    ·show Act.put _ (some 24) _ = _
                     simp only [Act.put, List.setIfInBounds_toArray, List.set_cons_zero, List.set_cons_succ, i64_w, i32_w]
                     rfl
                    exact norm_ (by first | (simp only [putAll, Act.put, List.setIfInBounds_toArray, List.set_cons_zero, List.set_cons_succ]; done) | (simp only [putAll, Act.put, List.setIfInBounds_toArray, List.set_cons_zero, List.set_cons_succ]; rfl)) (hJ4 () _ ⟨hHeld, (by (with_reducible repeat (first | refine blk_drewN ?_ _ | refine blk_drew ?_ | refine blk_alloc ?_ _)); exact BK90010.out), (by (with_reducible repeat (first | refine blk_drewN ?_ _ | refine blk_drew ?_ | refine blk_alloc ?_ _)); exact BK90011.out), (by repeat (first | (with_reducible first | exact HB.out | apply below_alloc | apply pw_below_drewN | apply below_drew1 | refine below_set ?_ GE90010.out | refine below_set ?_ GE90011.out) | exact HB.out))⟩)
                   ·skip
                    refine box_step ?hg (N := 6) ?hd (cs := #[.int .i64 0, .int .i64 0, .slice none 0 0, .slice none 0 0]) (t := 25) ?hr ?_; (case hd => rfl); (case hg => rfl); (case hr => first | (go_simp; done) | (go_simp; rfl))
                    intro gb90012 hg w17 hbox hb
                    have n0_ := Aside0.mk (blk_below (g := gb90010) (o := .cells #[.int .i64 0, .int .i64 0, .slice none 0 0, .slice none 0 0] 25 (0, 0)) (by (with_reducible repeat (first | refine blk_drewN ?_ _ | refine blk_drew ?_ | refine blk_alloc ?_ _)); exact BK90010.out) hb)
                    have n1_ := Aside0.mk (blk_below (g := gb90011) (o := .cells #[.int .i64 t90001, .int .i64 t90004, .int .i64 t90005, .int .i64 t90006] 88 (0, 0)) (by (with_reducible repeat (first | refine blk_drewN ?_ _ | refine blk_drew ?_ | refine blk_alloc ?_ _)); exact BK90011.out) hb)
                    have n2_ := Aside0.mk (below_step (by repeat (first | (with_reducible first | exact HB.out | apply below_alloc | apply pw_below_drewN | apply below_drew1 | refine below_set ?_ GE90010.out | refine below_set ?_ GE90011.out) | exact HB.out)) hb)
                    have n3_ := Aside0.mk (hbox)
                    have n4_ := Aside0.mk ((by rw [hg]; exact (below_size (by repeat (first | (with_reducible first | exact HB.out | apply below_alloc | apply pw_below_drewN | apply below_drew1 | refine below_set ?_ GE90010.out | refine below_set ?_ GE90011.out) | exact HB.out))) : w.heap.size ≤ gb90012))
                    have n5_ := Aside0.mk ((by rw [hg]; exact (below_size (by repeat (first | (with_reducible first | exact HB.out | apply below_alloc | apply pw_below_drewN | apply below_drew1 | refine below_set ?_ GE90010.out | refine below_set ?_ GE90011.out) | exact HB.out))) : w.heap.size ≤ gb90012))
                    have n6_ := Aside0.mk ((by rw [hg]; exact Nat.ne_of_lt (blk_lt (g := gb90010) (o := .cells #[.int .i64 0, .int .i64 0, .slice none 0 0, .slice none 0 0] 25 (0, 0)) (by (with_reducible repeat (first | refine blk_drewN ?_ _ | refine blk_drew ?_ | refine blk_alloc ?_ _)); exact BK90010.out)) : gb90010 ≠ gb90012))
                    have n7_ := Aside0.mk ((by rw [hg]; exact Nat.ne_of_gt (blk_lt (g := gb90010) (o := .cells #[.int .i64 0, .int .i64 0, .slice none 0 0, .slice none 0 0] 25 (0, 0)) (by (with_reducible repeat (first | refine blk_drewN ?_ _ | refine blk_drew ?_ | refine blk_alloc ?_ _)); exact BK90010.out)) : gb90012 ≠ gb90010))
                    have n8_ := Aside0.mk ((by rw [hg]; exact Nat.ne_of_lt (blk_lt (g := gb90011) (o := .cells #[.int .i64 t90001, .int .i64 t90004, .int .i64 t90005, .int .i64 t90006] 88 (0, 0)) (by (with_reducible repeat (first | refine blk_drewN ?_ _ | refine blk_drew ?_ | refine blk_alloc ?_ _)); exact BK90011.out)) : gb90011 ≠ gb90012))
                    have n9_ := Aside0.mk ((by rw [hg]; exact Nat.ne_of_gt (blk_lt (g := gb90011) (o := .cells #[.int .i64 t90001, .int .i64 t90004, .int .i64 t90005, .int .i64 t90006] 88 (0, 0)) (by (with_reducible repeat (first | refine blk_drewN ?_ _ | refine blk_drew ?_ | refine blk_alloc ?_ _)); exact BK90011.out)) : gb90012 ≠ gb90011))
                    clear BK90010
                    clear BK90011
                    clear HB
                    have BK90010 := n0_
                    have BK90011 := n1_
                    have HB := n2_
                    have BK90012 := n3_
                    have GW90012 := n4_
                    have GE90012 := n5_
                    have NB90010_90012 := n6_
                    have NB90012_90010 := n7_
                    have NB90011_90012 := n8_
                    have NB90012_90011 := n9_
                    clear n0_ n1_ n2_ n3_ n4_ n5_ n6_ n7_ n8_ n9_
                    clear hb hbox hg
                    refine hK.out _ _ ⟨(blk_cell BK90011.out 0).trans rfl, (blk_cell BK90011.out 1).trans rfl, (blk_cell BK90011.out 2).trans rfl, (blk_cell BK90011.out 3).trans rfl⟩ (fun hHeld => ?_)
                    clear hK K
                    refine norm_ (a' := ?_) ?_ ?_
                    rotate_left
                    ·show Act.put _ (some 6) _ = _
                     simp only [Act.put, List.setIfInBounds_toArray, List.set_cons_zero, List.set_cons_succ, i64_w, i32_w]
                     rfl
                    exact norm_ (by first | (simp only [putAll, Act.put, List.setIfInBounds_toArray, List.set_cons_zero, List.set_cons_succ]; done) | (simp only [putAll, Act.put, List.setIfInBounds_toArray, List.set_cons_zero, List.set_cons_succ]; rfl)) (hJ10 (gb90012) _ ⟨hHeld, (by (with_reducible repeat (first | refine blk_drewN ?_ _ | refine blk_drew ?_ | refine blk_alloc ?_ _)); exact BK90010.out), (by (with_reducible repeat (first | refine blk_drewN ?_ _ | refine blk_drew ?_ | refine blk_alloc ?_ _)); exact BK90011.out), (by (with_reducible repeat (first | refine blk_drewN ?_ _ | refine blk_drew ?_ | refine blk_alloc ?_ _)); exact BK90012.out), GW90012.out, GE90012.out, NB90010_90012.out, NB90012_90010.out, NB90011_90012.out, NB90012_90011.out, (by repeat (first | (with_reducible first | exact HB.out | apply below_alloc | apply pw_below_drewN | apply below_drew1 | refine below_set ?_ GE90010.out | refine below_set ?_ GE90011.out | refine below_set ?_ GE90012.out) | exact HB.out))⟩)
                  ·skip
                   rintro gb90012 w18 ⟨hS_, h0_, h1_, h2_, h3_, h4_, h5_, h6_, h7_, h8_, h9_⟩
                   have n0_ : Aside0 (w18.heap[gb90010]? = some (.cells #[.int .i64 0, .int .i64 0, .slice none 0 0, .slice none 0 0] 25 (0, 0))) := ⟨h0_⟩
                   have n1_ : Aside0 (w18.heap[gb90011]? = some (.cells #[.int .i64 t90001, .int .i64 t90004, .int .i64 t90005, .int .i64 t90006] 88 (0, 0))) := ⟨h1_⟩
                   have n2_ : Aside0 (w18.heap[gb90012]? = some (.cells #[.int .i64 0, .int .i64 0, .slice none 0 0, .slice none 0 0] 25 (0, 0))) := ⟨h2_⟩
                   have n3_ : Aside0 (w.heap.size ≤ gb90012) := ⟨h3_⟩
                   have n4_ : Aside0 (w.heap.size ≤ gb90012) := ⟨h4_⟩
                   have n5_ : Aside0 (gb90010 ≠ gb90012) := ⟨h5_⟩
                   have n6_ : Aside0 (gb90012 ≠ gb90010) := ⟨h6_⟩
                   have n7_ : Aside0 (gb90011 ≠ gb90012) := ⟨h7_⟩
                   have n8_ : Aside0 (gb90012 ≠ gb90011) := ⟨h8_⟩
                   have n9_ : Aside0 (Below w.heap.size w w18) := ⟨h9_⟩
                   clear BK90010
                   clear BK90011
                   clear HB
                   clear h0_ h1_ h2_ h3_ h4_ h5_ h6_ h7_ h8_ h9_
                   have BK90010 := n0_
                   have BK90011 := n1_
                   have BK90012 := n2_
                   have GW90012 := n3_
                   have GE90012 := n4_
                   have NB90010_90012 := n5_
                   have NB90012_90010 := n6_
                   have NB90011_90012 := n7_
                   have NB90012_90011 := n8_
                   have HB := n9_
                   clear n0_ n1_ n2_ n3_ n4_ n5_ n6_ n7_ n8_ n9_
                   have hHeld : w18.cell? ⟨gb90011, 0, none⟩ = some (.int .i64 t90001) ∧ w18.cell? ⟨gb90011, 1, none⟩ = some (.int .i64 t90004) ∧ w18.cell? ⟨gb90011, 2, none⟩ = some (.int .i64 t90005) ∧ w18.cell? ⟨gb90011, 3, none⟩ = some (.int .i64 t90006) := hS_
                   refine norm_ (a' := ?_) ?_ ?_
                   rotate_left
                   ·simp only [putAll, Act.put, List.setIfInBounds_toArray, List.set_cons_zero, List.set_cons_succ]
                    rfl
                   refine one_ (i := 4) (N := some 24) #[true, true, true, true, true, false, true, false, false, false, true, false] rfl rfl (one_of HT_.out (by kernel_rfl)) (by decide) (fun K hK => ?_)
                   refine goes_ Try.func53 (by kernel_rfl) rfl #[.agg #[.int .i64 t90001, .int .i64 t90004, .int .i64 t90005, .int .i64 t90006]] (by rfl) rfl rfl (by (try simp only [List.map_toArray, List.map_cons, List.map_nil]); first | done | rfl | (simp only [List.length_drop, List.length_take]; rfl)) ?_
                   with_reducible refine (book_kind_many.calls k t90001 t90004 t90005 t90006 t90002 _ A4.out).mono ?_
                   rintro e w19 ⟨rfl, hb⟩
                   refine ⟨_, rfl, ?_⟩
                   have n0_ := Aside0.mk (blk_below (g := gb90010) (o := .cells #[.int .i64 0, .int .i64 0, .slice none 0 0, .slice none 0 0] 25 (0, 0)) (by (with_reducible repeat (first | refine blk_drewN ?_ _ | refine blk_drew ?_ | refine blk_alloc ?_ _)); exact BK90010.out) hb)
                   have n1_ := Aside0.mk (blk_below (g := gb90011) (o := .cells #[.int .i64 t90001, .int .i64 t90004, .int .i64 t90005, .int .i64 t90006] 88 (0, 0)) (by (with_reducible repeat (first | refine blk_drewN ?_ _ | refine blk_drew ?_ | refine blk_alloc ?_ _)); exact BK90011.out) hb)
                   have n2_ := Aside0.mk (blk_below (g := gb90012) (o := .cells #[.int .i64 0, .int .i64 0, .slice none 0 0, .slice none 0 0] 25 (0, 0)) (by (with_reducible repeat (first | refine blk_drewN ?_ _ | refine blk_drew ?_ | refine blk_alloc ?_ _)); exact BK90012.out) hb)
                   have n3_ := Aside0.mk (below_step (by repeat (first | (with_reducible first | exact HB.out | apply below_alloc | apply pw_below_drewN | apply below_drew1 | refine below_set ?_ GE90010.out | refine below_set ?_ GE90011.out | refine below_set ?_ GE90012.out) | exact HB.out)) hb)
                   clear BK90010
                   clear BK90011
                   clear BK90012
                   clear HB
                   have BK90010 := n0_
                   have BK90011 := n1_
                   have BK90012 := n2_
                   have HB := n3_
                   clear n0_ n1_ n2_ n3_
                   (try clear hb)
                   (try clear hb2)
                   (try clear hk)
                   (try clear hi)
                   refine hK.out _ _ ⟨(blk_cell BK90011.out 0).trans rfl, (blk_cell BK90011.out 1).trans rfl, (blk_cell BK90011.out 2).trans rfl, (blk_cell BK90011.out 3).trans rfl⟩ (fun hHeld => ?_)
                   clear hK K
                   refine norm_ (a' := ?_) ?_ ?_
                   rotate_left
                   ·show Act.put _ (some 24) _ = _
                    simp only [Act.put, List.setIfInBounds_toArray, List.set_cons_zero, List.set_cons_succ, i64_w, i32_w]
                    rfl
                   exact norm_ (by first | (simp only [putAll, Act.put, List.setIfInBounds_toArray, List.set_cons_zero, List.set_cons_succ]; done) | (simp only [putAll, Act.put, List.setIfInBounds_toArray, List.set_cons_zero, List.set_cons_succ]; rfl)) (hJ4_10 (gb90012) _ ⟨hHeld, (by (with_reducible repeat (first | refine blk_drewN ?_ _ | refine blk_drew ?_ | refine blk_alloc ?_ _)); exact BK90010.out), (by (with_reducible repeat (first | refine blk_drewN ?_ _ | refine blk_drew ?_ | refine blk_alloc ?_ _)); exact BK90011.out), (by (with_reducible repeat (first | refine blk_drewN ?_ _ | refine blk_drew ?_ | refine blk_alloc ?_ _)); exact BK90012.out), GW90012.out, GE90012.out, NB90010_90012.out, NB90012_90010.out, NB90011_90012.out, NB90012_90011.out, (by repeat (first | (with_reducible first | exact HB.out | apply below_alloc | apply pw_below_drewN | apply below_drew1 | refine below_set ?_ GE90010.out | refine below_set ?_ GE90011.out | refine below_set ?_ GE90012.out) | exact HB.out))⟩)
                 ·skip
                  rintro _ w18 ⟨hS_, h0_, h1_, h2_⟩
                  have n0_ : Aside0 (w18.heap[gb90010]? = some (.cells #[.int .i64 0, .int .i64 0, .slice none 0 0, .slice none 0 0] 25 (0, 0))) := ⟨h0_⟩
                  have n1_ : Aside0 (w18.heap[gb90011]? = some (.cells #[.int .i64 t90001, .int .i64 t90004, .int .i64 t90005, .int .i64 t90006] 88 (0, 0))) := ⟨h1_⟩
                  have n2_ : Aside0 (Below w.heap.size w w18) := ⟨h2_⟩
                  clear BK90010
                  clear BK90011
                  clear HB
                  clear h0_ h1_ h2_
                  have BK90010 := n0_
                  have BK90011 := n1_
                  have HB := n2_
                  clear n0_ n1_ n2_
                  have hHeld : w18.cell? ⟨gb90011, 0, none⟩ = some (.int .i64 t90001) ∧ w18.cell? ⟨gb90011, 1, none⟩ = some (.int .i64 t90004) ∧ w18.cell? ⟨gb90011, 2, none⟩ = some (.int .i64 t90005) ∧ w18.cell? ⟨gb90011, 3, none⟩ = some (.int .i64 t90006) := hS_
                  refine norm_ (a' := ?_) ?_ ?_
                  rotate_left
                  ·simp only [putAll, Act.put, List.setIfInBounds_toArray, List.set_cons_zero, List.set_cons_succ]
                   rfl
                  refine three_ (i := 5) (j := 7) (k := 10) (Ni := some 25) (Nj := some 27) (Nk := some 6) #[true, true, true, true, true, true, true, false, false, false, false, false] #[true, true, true, true, true, false, true, true, false, false, false, false] #[true, true, true, true, true, false, true, false, false, false, true, false] rfl rfl rfl rfl rfl rfl (three_of HT_.out (by kernel_rfl)) (by decide) (by decide) (by decide) (fun K hK => ?_) (fun K hK => ?_) (fun K hK => ?_)
                  ·skip
                   refine Kd.R_make_step (Kd.int .i64) _ 3 (by rfl) (N := 25) rfl 23 _ _ rfl t90002 rfl rfl Try.underlying23 (.int .i64 0) 8 info3 rfl (by decide) (by omega) 0 (ok := fun _ => True) (okp := fun _ => True) rfl (fun _ hk => hk) trivial (of_decide_eq_true (by first | (with_reducible assumption) | assumption)) (Nat.le_trans (Nat.mul_le_mul_right _ (of_decide_eq_true (by first | (with_reducible assumption) | assumption) : t90002.toNat ≤ 35184372088832)) (by omega)) (Below.refl _ _) (Nat.le_refl _) ?_
                   intro v90013 w19 ho20 hb hg_ hnew_
                   clear hg_ hnew_
                   (first | rw [← Ny90008.out] at ho20 | (simp only [Int.reduceToNat] at ho20; rw [← Ny90008.out] at ho20))
                   have n0_ := Aside0.mk (Kd.R_lower ho20 (below_size (by repeat (first | (with_reducible first | exact HB.out | apply below_alloc | apply pw_below_drewN | apply below_drew1 | refine below_set ?_ GE90010.out | refine below_set ?_ GE90011.out) | exact HB.out))))
                   have n1_ := Aside0.mk (blk_below (g := gb90010) (o := .cells #[.int .i64 0, .int .i64 0, .slice none 0 0, .slice none 0 0] 25 (0, 0)) (by (with_reducible repeat (first | refine blk_drewN ?_ _ | refine blk_drew ?_ | refine blk_alloc ?_ _)); exact BK90010.out) hb)
                   have n2_ := Aside0.mk (blk_below (g := gb90011) (o := .cells #[.int .i64 t90001, .int .i64 t90004, .int .i64 t90005, .int .i64 t90006] 88 (0, 0)) (by (with_reducible repeat (first | refine blk_drewN ?_ _ | refine blk_drew ?_ | refine blk_alloc ?_ _)); exact BK90011.out) hb)
                   have n3_ := Aside0.mk (below_step (by repeat (first | (with_reducible first | exact HB.out | apply below_alloc | apply pw_below_drewN | apply below_drew1 | refine below_set ?_ GE90010.out | refine below_set ?_ GE90011.out) | exact HB.out)) hb)
                   clear BK90010
                   clear BK90011
                   clear HB
                   have HO90014 := n0_
                   have BK90010 := n1_
                   have BK90011 := n2_
                   have HB := n3_
                   clear n0_ n1_ n2_ n3_
                   clear hb ho20
                   refine hK.out _ _ ⟨(blk_cell BK90011.out 0).trans rfl, (blk_cell BK90011.out 1).trans rfl, (blk_cell BK90011.out 2).trans rfl, (blk_cell BK90011.out 3).trans rfl⟩ (fun hHeld => ?_)
                   clear hK K
                   refine norm_ (a' := ?_) ?_ ?_
                   rotate_left
                   ·show Act.put _ (some 25) _ = _
                    simp only [Act.put, List.setIfInBounds_toArray, List.set_cons_zero, List.set_cons_succ, i64_w, i32_w]
                    rfl
                   exact norm_ (by first | (simp only [putAll, Act.put, List.setIfInBounds_toArray, List.set_cons_zero, List.set_cons_succ]; done) | (simp only [putAll, Act.put, List.setIfInBounds_toArray, List.set_cons_zero, List.set_cons_succ]; rfl)) (hJ4_5 (v90013) _ ⟨hHeld, (by (with_reducible repeat (first | apply Kd.R_alloc | apply Kd.R_drewN | apply Kd.R_drew)); exact HO90014.out), (by (with_reducible repeat (first | refine blk_drewN ?_ _ | refine blk_drew ?_ | refine blk_alloc ?_ _)); exact BK90010.out), (by (with_reducible repeat (first | refine blk_drewN ?_ _ | refine blk_drew ?_ | refine blk_alloc ?_ _)); exact BK90011.out), (by repeat (first | (with_reducible first | exact HB.out | apply below_alloc | apply pw_below_drewN | apply below_drew1 | refine below_set ?_ GE90010.out | refine below_set ?_ GE90011.out) | exact HB.out))⟩)
                  ·skip
                   refine goes_ Try.func53 (by kernel_rfl) rfl #[.agg #[.int .i64 t90001, .int .i64 t90004, .int .i64 t90005, .int .i64 t90006]] (by rfl) rfl rfl (by (try simp only [List.map_toArray, List.map_cons, List.map_nil]); first | done | rfl | (simp only [List.length_drop, List.length_take]; rfl)) ?_
                   with_reducible refine (book_kind_many.calls k t90001 t90004 t90005 t90006 t90003 _ A7.out).mono ?_
                   rintro e w19 ⟨rfl, hb⟩
                   refine ⟨_, rfl, ?_⟩
                   have n0_ := Aside0.mk (blk_below (g := gb90010) (o := .cells #[.int .i64 0, .int .i64 0, .slice none 0 0, .slice none 0 0] 25 (0, 0)) (by (with_reducible repeat (first | refine blk_drewN ?_ _ | refine blk_drew ?_ | refine blk_alloc ?_ _)); exact BK90010.out) hb)
                   have n1_ := Aside0.mk (blk_below (g := gb90011) (o := .cells #[.int .i64 t90001, .int .i64 t90004, .int .i64 t90005, .int .i64 t90006] 88 (0, 0)) (by (with_reducible repeat (first | refine blk_drewN ?_ _ | refine blk_drew ?_ | refine blk_alloc ?_ _)); exact BK90011.out) hb)
                   have n2_ := Aside0.mk (below_step (by repeat (first | (with_reducible first | exact HB.out | apply below_alloc | apply pw_below_drewN | apply below_drew1 | refine below_set ?_ GE90010.out | refine below_set ?_ GE90011.out) | exact HB.out)) hb)
                   clear BK90010
                   clear BK90011
                   clear HB
                   have BK90010 := n0_
                   have BK90011 := n1_
                   have HB := n2_
                   clear n0_ n1_ n2_
                   (try clear hb)
                   (try clear hb2)
                   (try clear hk)
                   (try clear hi)
                   refine hK.out _ _ ⟨(blk_cell BK90011.out 0).trans rfl, (blk_cell BK90011.out 1).trans rfl, (blk_cell BK90011.out 2).trans rfl, (blk_cell BK90011.out 3).trans rfl⟩ (fun hHeld => ?_)
                   clear hK K
                   refine norm_ (a' := ?_) ?_ ?_
                   rotate_left
                   ·show Act.put _ (some 27) _ = _
                    simp only [Act.put, List.setIfInBounds_toArray, List.set_cons_zero, List.set_cons_succ, i64_w, i32_w]
                    rfl
                   exact norm_ (by first | (simp only [putAll, Act.put, List.setIfInBounds_toArray, List.set_cons_zero, List.set_cons_succ]; done) | (simp only [putAll, Act.put, List.setIfInBounds_toArray, List.set_cons_zero, List.set_cons_succ]; rfl)) (hJ4_7 () _ ⟨hHeld, (by (with_reducible repeat (first | refine blk_drewN ?_ _ | refine blk_drew ?_ | refine blk_alloc ?_ _)); exact BK90010.out), (by (with_reducible repeat (first | refine blk_drewN ?_ _ | refine blk_drew ?_ | refine blk_alloc ?_ _)); exact BK90011.out), (by repeat (first | (with_reducible first | exact HB.out | apply below_alloc | apply pw_below_drewN | apply below_drew1 | refine below_set ?_ GE90010.out | refine below_set ?_ GE90011.out) | exact HB.out))⟩)
                  ·skip
                   refine box_step ?hg (N := 6) ?hd (cs := #[.int .i64 0, .int .i64 0, .slice none 0 0, .slice none 0 0]) (t := 25) ?hr ?_; (case hd => rfl); (case hg => rfl); (case hr => first | (go_simp; done) | (go_simp; rfl))
                   intro gb90012 hg w19 hbox hb
                   have n0_ := Aside0.mk (blk_below (g := gb90010) (o := .cells #[.int .i64 0, .int .i64 0, .slice none 0 0, .slice none 0 0] 25 (0, 0)) (by (with_reducible repeat (first | refine blk_drewN ?_ _ | refine blk_drew ?_ | refine blk_alloc ?_ _)); exact BK90010.out) hb)
                   have n1_ := Aside0.mk (blk_below (g := gb90011) (o := .cells #[.int .i64 t90001, .int .i64 t90004, .int .i64 t90005, .int .i64 t90006] 88 (0, 0)) (by (with_reducible repeat (first | refine blk_drewN ?_ _ | refine blk_drew ?_ | refine blk_alloc ?_ _)); exact BK90011.out) hb)
                   have n2_ := Aside0.mk (below_step (by repeat (first | (with_reducible first | exact HB.out | apply below_alloc | apply pw_below_drewN | apply below_drew1 | refine below_set ?_ GE90010.out | refine below_set ?_ GE90011.out) | exact HB.out)) hb)
                   have n3_ := Aside0.mk (hbox)
                   have n4_ := Aside0.mk ((by rw [hg]; exact (below_size (by repeat (first | (with_reducible first | exact HB.out | apply below_alloc | apply pw_below_drewN | apply below_drew1 | refine below_set ?_ GE90010.out | refine below_set ?_ GE90011.out) | exact HB.out))) : w.heap.size ≤ gb90012))
                   have n5_ := Aside0.mk ((by rw [hg]; exact (below_size (by repeat (first | (with_reducible first | exact HB.out | apply below_alloc | apply pw_below_drewN | apply below_drew1 | refine below_set ?_ GE90010.out | refine below_set ?_ GE90011.out) | exact HB.out))) : w.heap.size ≤ gb90012))
                   have n6_ := Aside0.mk ((by rw [hg]; exact Nat.ne_of_lt (blk_lt (g := gb90010) (o := .cells #[.int .i64 0, .int .i64 0, .slice none 0 0, .slice none 0 0] 25 (0, 0)) (by (with_reducible repeat (first | refine blk_drewN ?_ _ | refine blk_drew ?_ | refine blk_alloc ?_ _)); exact BK90010.out)) : gb90010 ≠ gb90012))
                   have n7_ := Aside0.mk ((by rw [hg]; exact Nat.ne_of_gt (blk_lt (g := gb90010) (o := .cells #[.int .i64 0, .int .i64 0, .slice none 0 0, .slice none 0 0] 25 (0, 0)) (by (with_reducible repeat (first | refine blk_drewN ?_ _ | refine blk_drew ?_ | refine blk_alloc ?_ _)); exact BK90010.out)) : gb90012 ≠ gb90010))
                   have n8_ := Aside0.mk ((by rw [hg]; exact Nat.ne_of_lt (blk_lt (g := gb90011) (o := .cells #[.int .i64 t90001, .int .i64 t90004, .int .i64 t90005, .int .i64 t90006] 88 (0, 0)) (by (with_reducible repeat (first | refine blk_drewN ?_ _ | refine blk_drew ?_ | refine blk_alloc ?_ _)); exact BK90011.out)) : gb90011 ≠ gb90012))
                   have n9_ := Aside0.mk ((by rw [hg]; exact Nat.ne_of_gt (blk_lt (g := gb90011) (o := .cells #[.int .i64 t90001, .int .i64 t90004, .int .i64 t90005, .int .i64 t90006] 88 (0, 0)) (by (with_reducible repeat (first | refine blk_drewN ?_ _ | refine blk_drew ?_ | refine blk_alloc ?_ _)); exact BK90011.out)) : gb90012 ≠ gb90011))
                   clear BK90010
                   clear BK90011
                   clear HB
                   have BK90010 := n0_
                   have BK90011 := n1_
                   have HB := n2_
                   have BK90012 := n3_
                   have GW90012 := n4_
                   have GE90012 := n5_
                   have NB90010_90012 := n6_
                   have NB90012_90010 := n7_
                   have NB90011_90012 := n8_
                   have NB90012_90011 := n9_
                   clear n0_ n1_ n2_ n3_ n4_ n5_ n6_ n7_ n8_ n9_
                   clear hb hbox hg
                   refine hK.out _ _ ⟨(blk_cell BK90011.out 0).trans rfl, (blk_cell BK90011.out 1).trans rfl, (blk_cell BK90011.out 2).trans rfl, (blk_cell BK90011.out 3).trans rfl⟩ (fun hHeld => ?_)
                   clear hK K
                   refine norm_ (a' := ?_) ?_ ?_
                   rotate_left
                   ·show Act.put _ (some 6) _ = _
                    simp only [Act.put, List.setIfInBounds_toArray, List.set_cons_zero, List.set_cons_succ, i64_w, i32_w]
                    rfl
                   exact norm_ (by first | (simp only [putAll, Act.put, List.setIfInBounds_toArray, List.set_cons_zero, List.set_cons_succ]; done) | (simp only [putAll, Act.put, List.setIfInBounds_toArray, List.set_cons_zero, List.set_cons_succ]; rfl)) (hJ4_10 (gb90012) _ ⟨hHeld, (by (with_reducible repeat (first | refine blk_drewN ?_ _ | refine blk_drew ?_ | refine blk_alloc ?_ _)); exact BK90010.out), (by (with_reducible repeat (first | refine blk_drewN ?_ _ | refine blk_drew ?_ | refine blk_alloc ?_ _)); exact BK90011.out), (by (with_reducible repeat (first | refine blk_drewN ?_ _ | refine blk_drew ?_ | refine blk_alloc ?_ _)); exact BK90012.out), GW90012.out, GE90012.out, NB90010_90012.out, NB90012_90010.out, NB90011_90012.out, NB90012_90011.out, (by repeat (first | (with_reducible first | exact HB.out | apply below_alloc | apply pw_below_drewN | apply below_drew1 | refine below_set ?_ GE90010.out | refine below_set ?_ GE90011.out | refine below_set ?_ GE90012.out) | exact HB.out))⟩)
                ·skip
                 rintro gb90012 w19 ⟨hS_, h0_, h1_, h2_, h3_, h4_, h5_, h6_, h7_, h8_, h9_⟩
                 have n0_ : Aside0 (w19.heap[gb90010]? = some (.cells #[.int .i64 0, .int .i64 0, .slice none 0 0, .slice none 0 0] 25 (0, 0))) := ⟨h0_⟩
                 have n1_ : Aside0 (w19.heap[gb90011]? = some (.cells #[.int .i64 t90001, .int .i64 t90004, .int .i64 t90005, .int .i64 t90006] 88 (0, 0))) := ⟨h1_⟩
                 have n2_ : Aside0 (w19.heap[gb90012]? = some (.cells #[.int .i64 0, .int .i64 0, .slice none 0 0, .slice none 0 0] 25 (0, 0))) := ⟨h2_⟩
                 have n3_ : Aside0 (w.heap.size ≤ gb90012) := ⟨h3_⟩
                 have n4_ : Aside0 (w.heap.size ≤ gb90012) := ⟨h4_⟩
                 have n5_ : Aside0 (gb90010 ≠ gb90012) := ⟨h5_⟩
                 have n6_ : Aside0 (gb90012 ≠ gb90010) := ⟨h6_⟩
                 have n7_ : Aside0 (gb90011 ≠ gb90012) := ⟨h7_⟩
                 have n8_ : Aside0 (gb90012 ≠ gb90011) := ⟨h8_⟩
                 have n9_ : Aside0 (Below w.heap.size w w19) := ⟨h9_⟩
                 clear BK90010
                 clear BK90011
                 clear HB
                 clear h0_ h1_ h2_ h3_ h4_ h5_ h6_ h7_ h8_ h9_
                 have BK90010 := n0_
                 have BK90011 := n1_
                 have BK90012 := n2_
                 have GW90012 := n3_
                 have GE90012 := n4_
                 have NB90010_90012 := n5_
                 have NB90012_90010 := n6_
                 have NB90011_90012 := n7_
                 have NB90012_90011 := n8_
                 have HB := n9_
                 clear n0_ n1_ n2_ n3_ n4_ n5_ n6_ n7_ n8_ n9_
                 have hHeld : w19.cell? ⟨gb90011, 0, none⟩ = some (.int .i64 t90001) ∧ w19.cell? ⟨gb90011, 1, none⟩ = some (.int .i64 t90004) ∧ w19.cell? ⟨gb90011, 2, none⟩ = some (.int .i64 t90005) ∧ w19.cell? ⟨gb90011, 3, none⟩ = some (.int .i64 t90006) := hS_
                 refine norm_ (a' := ?_) ?_ ?_
                 rotate_left
                 ·simp only [putAll, Act.put, List.setIfInBounds_toArray, List.set_cons_zero, List.set_cons_succ]
                  rfl
                 refine two_ (i := 5) (j := 7) (Ni := some 25) (Nj := some 27) #[true, true, true, true, true, true, true, false, false, false, true, false] #[true, true, true, true, true, false, true, true, false, false, true, false] rfl rfl rfl rfl (two_of HT_.out (by kernel_rfl)) (by decide) (by decide) (fun K hK => ?_) (fun K hK => ?_)
                 ·skip
                  refine Kd.R_make_step (Kd.int .i64) _ 3 (by rfl) (N := 25) rfl 23 _ _ rfl t90002 rfl rfl Try.underlying23 (.int .i64 0) 8 info3 rfl (by decide) (by omega) 0 (ok := fun _ => True) (okp := fun _ => True) rfl (fun _ hk => hk) trivial (of_decide_eq_true (by first | (with_reducible assumption) | assumption)) (Nat.le_trans (Nat.mul_le_mul_right _ (of_decide_eq_true (by first | (with_reducible assumption) | assumption) : t90002.toNat ≤ 35184372088832)) (by omega)) (Below.refl _ _) (Nat.le_refl _) ?_
                  intro v90013 w20 ho21 hb hg_ hnew_
                  clear hg_ hnew_
                  (first | rw [← Ny90008.out] at ho21 | (simp only [Int.reduceToNat] at ho21; rw [← Ny90008.out] at ho21))
                  have n0_ := Aside0.mk (Kd.R_lower ho21 (below_size (by repeat (first | (with_reducible first | exact HB.out | apply below_alloc | apply pw_below_drewN | apply below_drew1 | refine below_set ?_ GE90010.out | refine below_set ?_ GE90011.out | refine below_set ?_ GE90012.out) | exact HB.out))))
                  have n1_ := Aside0.mk (blk_below (g := gb90010) (o := .cells #[.int .i64 0, .int .i64 0, .slice none 0 0, .slice none 0 0] 25 (0, 0)) (by (with_reducible repeat (first | refine blk_drewN ?_ _ | refine blk_drew ?_ | refine blk_alloc ?_ _)); exact BK90010.out) hb)
                  have n2_ := Aside0.mk (blk_below (g := gb90011) (o := .cells #[.int .i64 t90001, .int .i64 t90004, .int .i64 t90005, .int .i64 t90006] 88 (0, 0)) (by (with_reducible repeat (first | refine blk_drewN ?_ _ | refine blk_drew ?_ | refine blk_alloc ?_ _)); exact BK90011.out) hb)
                  have n3_ := Aside0.mk (blk_below (g := gb90012) (o := .cells #[.int .i64 0, .int .i64 0, .slice none 0 0, .slice none 0 0] 25 (0, 0)) (by (with_reducible repeat (first | refine blk_drewN ?_ _ | refine blk_drew ?_ | refine blk_alloc ?_ _)); exact BK90012.out) hb)
                  have n4_ := Aside0.mk (below_step (by repeat (first | (with_reducible first | exact HB.out | apply below_alloc | apply pw_below_drewN | apply below_drew1 | refine below_set ?_ GE90010.out | refine below_set ?_ GE90011.out | refine below_set ?_ GE90012.out) | exact HB.out)) hb)
                  clear BK90010
                  clear BK90011
                  clear BK90012
                  clear HB
                  have HO90014 := n0_
                  have BK90010 := n1_
                  have BK90011 := n2_
                  have BK90012 := n3_
                  have HB := n4_
                  clear n0_ n1_ n2_ n3_ n4_
                  clear hb ho21
                  refine hK.out _ _ ⟨(blk_cell BK90011.out 0).trans rfl, (blk_cell BK90011.out 1).trans rfl, (blk_cell BK90011.out 2).trans rfl, (blk_cell BK90011.out 3).trans rfl⟩ (fun hHeld => ?_)
                  clear hK K
                  refine norm_ (a' := ?_) ?_ ?_
                  rotate_left
                  ·show Act.put _ (some 25) _ = _
                   simp only [Act.put, List.setIfInBounds_toArray, List.set_cons_zero, List.set_cons_succ, i64_w, i32_w]
                   rfl
                  exact norm_ (by first | (simp only [putAll, Act.put, List.setIfInBounds_toArray, List.set_cons_zero, List.set_cons_succ]; done) | (simp only [putAll, Act.put, List.setIfInBounds_toArray, List.set_cons_zero, List.set_cons_succ]; rfl)) (hJ4_5_10 (v90013, gb90012) _ ⟨hHeld, (by (with_reducible repeat (first | apply Kd.R_alloc | apply Kd.R_drewN | apply Kd.R_drew)); exact HO90014.out), (by (with_reducible repeat (first | refine blk_drewN ?_ _ | refine blk_drew ?_ | refine blk_alloc ?_ _)); exact BK90010.out), (by (with_reducible repeat (first | refine blk_drewN ?_ _ | refine blk_drew ?_ | refine blk_alloc ?_ _)); exact BK90011.out), (by (with_reducible repeat (first | refine blk_drewN ?_ _ | refine blk_drew ?_ | refine blk_alloc ?_ _)); exact BK90012.out), GW90012.out, GE90012.out, NB90010_90012.out, NB90012_90010.out, NB90011_90012.out, NB90012_90011.out, (by repeat (first | (with_reducible first | exact HB.out | apply below_alloc | apply pw_below_drewN | apply below_drew1 | refine below_set ?_ GE90010.out | refine below_set ?_ GE90011.out | refine below_set ?_ GE90012.out) | exact HB.out))⟩)
                 ·skip
                  refine goes_ Try.func53 (by kernel_rfl) rfl #[.agg #[.int .i64 t90001, .int .i64 t90004, .int .i64 t90005, .int .i64 t90006]] (by rfl) rfl rfl (by (try simp only [List.map_toArray, List.map_cons, List.map_nil]); first | done | rfl | (simp only [List.length_drop, List.length_take]; rfl)) ?_
                  with_reducible refine (book_kind_many.calls k t90001 t90004 t90005 t90006 t90003 _ A7.out).mono ?_
                  rintro e w20 ⟨rfl, hb⟩
                  refine ⟨_, rfl, ?_⟩
                  have n0_ := Aside0.mk (blk_below (g := gb90010) (o := .cells #[.int .i64 0, .int .i64 0, .slice none 0 0, .slice none 0 0] 25 (0, 0)) (by (with_reducible repeat (first | refine blk_drewN ?_ _ | refine blk_drew ?_ | refine blk_alloc ?_ _)); exact BK90010.out) hb)
                  have n1_ := Aside0.mk (blk_below (g := gb90011) (o := .cells #[.int .i64 t90001, .int .i64 t90004, .int .i64 t90005, .int .i64 t90006] 88 (0, 0)) (by (with_reducible repeat (first | refine blk_drewN ?_ _ | refine blk_drew ?_ | refine blk_alloc ?_ _)); exact BK90011.out) hb)
                  have n2_ := Aside0.mk (blk_below (g := gb90012) (o := .cells #[.int .i64 0, .int .i64 0, .slice none 0 0, .slice none 0 0] 25 (0, 0)) (by (with_reducible repeat (first | refine blk_drewN ?_ _ | refine blk_drew ?_ | refine blk_alloc ?_ _)); exact BK90012.out) hb)
                  have n3_ := Aside0.mk (below_step (by repeat (first | (with_reducible first | exact HB.out | apply below_alloc | apply pw_below_drewN | apply below_drew1 | refine below_set ?_ GE90010.out | refine below_set ?_ GE90011.out | refine below_set ?_ GE90012.out) | exact HB.out)) hb)
                  clear BK90010
                  clear BK90011
                  clear BK90012
                  clear HB
                  have BK90010 := n0_
                  have BK90011 := n1_
                  have BK90012 := n2_
                  have HB := n3_
                  clear n0_ n1_ n2_ n3_
                  (try clear hb)
                  (try clear hb2)
                  (try clear hk)
                  (try clear hi)
                  refine hK.out _ _ ⟨(blk_cell BK90011.out 0).trans rfl, (blk_cell BK90011.out 1).trans rfl, (blk_cell BK90011.out 2).trans rfl, (blk_cell BK90011.out 3).trans rfl⟩ (fun hHeld => ?_)
                  clear hK K
                  refine norm_ (a' := ?_) ?_ ?_
                  rotate_left
                  ·show Act.put _ (some 27) _ = _
                   simp only [Act.put, List.setIfInBounds_toArray, List.set_cons_zero, List.set_cons_succ, i64_w, i32_w]
                   rfl
                  exact norm_ (by first | (simp only [putAll, Act.put, List.setIfInBounds_toArray, List.set_cons_zero, List.set_cons_succ]; done) | (simp only [putAll, Act.put, List.setIfInBounds_toArray, List.set_cons_zero, List.set_cons_succ]; rfl)) (hJ4_7_10 (gb90012) _ ⟨hHeld, (by (with_reducible repeat (first | refine blk_drewN ?_ _ | refine blk_drew ?_ | refine blk_alloc ?_ _)); exact BK90010.out), (by (with_reducible repeat (first | refine blk_drewN ?_ _ | refine blk_drew ?_ | refine blk_alloc ?_ _)); exact BK90011.out), (by (with_reducible repeat (first | refine blk_drewN ?_ _ | refine blk_drew ?_ | refine blk_alloc ?_ _)); exact BK90012.out), GW90012.out, GE90012.out, NB90010_90012.out, NB90012_90010.out, NB90011_90012.out, NB90012_90011.out, (by repeat (first | (with_reducible first | exact HB.out | apply below_alloc | apply pw_below_drewN | apply below_drew1 | refine below_set ?_ GE90010.out | refine below_set ?_ GE90011.out | refine below_set ?_ GE90012.out) | exact HB.out))⟩)
               ·skip
                rintro _ w19 ⟨hS_, h0_, h1_, h2_⟩
                have n0_ : Aside0 (w19.heap[gb90010]? = some (.cells #[.int .i64 0, .int .i64 0, .slice none 0 0, .slice none 0 0] 25 (0, 0))) := ⟨h0_⟩
                have n1_ : Aside0 (w19.heap[gb90011]? = some (.cells #[.int .i64 t90001, .int .i64 t90004, .int .i64 t90005, .int .i64 t90006] 88 (0, 0))) := ⟨h1_⟩
                have n2_ : Aside0 (Below w.heap.size w w19) := ⟨h2_⟩
                clear BK90010
                clear BK90011
                clear HB
                clear h0_ h1_ h2_
                have BK90010 := n0_
                have BK90011 := n1_
                have HB := n2_
                clear n0_ n1_ n2_
                have hHeld : w19.cell? ⟨gb90011, 0, none⟩ = some (.int .i64 t90001) ∧ w19.cell? ⟨gb90011, 1, none⟩ = some (.int .i64 t90004) ∧ w19.cell? ⟨gb90011, 2, none⟩ = some (.int .i64 t90005) ∧ w19.cell? ⟨gb90011, 3, none⟩ = some (.int .i64 t90006) := hS_
                refine norm_ (a' := ?_) ?_ ?_
                rotate_left
                ·simp only [putAll, Act.put, List.setIfInBounds_toArray, List.set_cons_zero, List.set_cons_succ]
                 rfl
                refine three_ (i := 5) (j := 8) (k := 10) (Ni := some 25) (Nj := some 28) (Nk := some 6) #[true, true, true, true, true, true, true, true, false, false, false, false] #[true, true, true, true, true, false, true, true, true, false, false, false] #[true, true, true, true, true, false, true, true, false, false, true, false] rfl rfl rfl rfl rfl rfl (three_of HT_.out (by kernel_rfl)) (by decide) (by decide) (by decide) (fun K hK => ?_) (fun K hK => ?_) (fun K hK => ?_)
                ·skip
                 refine Kd.R_make_step (Kd.int .i64) _ 3 (by rfl) (N := 25) rfl 23 _ _ rfl t90002 rfl rfl Try.underlying23 (.int .i64 0) 8 info3 rfl (by decide) (by omega) 0 (ok := fun _ => True) (okp := fun _ => True) rfl (fun _ hk => hk) trivial (of_decide_eq_true (by first | (with_reducible assumption) | assumption)) (Nat.le_trans (Nat.mul_le_mul_right _ (of_decide_eq_true (by first | (with_reducible assumption) | assumption) : t90002.toNat ≤ 35184372088832)) (by omega)) (Below.refl _ _) (Nat.le_refl _) ?_
                 intro v90013 w20 ho21 hb hg_ hnew_
                 clear hg_ hnew_
                 (first | rw [← Ny90008.out] at ho21 | (simp only [Int.reduceToNat] at ho21; rw [← Ny90008.out] at ho21))
                 have n0_ := Aside0.mk (Kd.R_lower ho21 (below_size (by repeat (first | (with_reducible first | exact HB.out | apply below_alloc | apply pw_below_drewN | apply below_drew1 | refine below_set ?_ GE90010.out | refine below_set ?_ GE90011.out) | exact HB.out))))
                 have n1_ := Aside0.mk (blk_below (g := gb90010) (o := .cells #[.int .i64 0, .int .i64 0, .slice none 0 0, .slice none 0 0] 25 (0, 0)) (by (with_reducible repeat (first | refine blk_drewN ?_ _ | refine blk_drew ?_ | refine blk_alloc ?_ _)); exact BK90010.out) hb)
                 have n2_ := Aside0.mk (blk_below (g := gb90011) (o := .cells #[.int .i64 t90001, .int .i64 t90004, .int .i64 t90005, .int .i64 t90006] 88 (0, 0)) (by (with_reducible repeat (first | refine blk_drewN ?_ _ | refine blk_drew ?_ | refine blk_alloc ?_ _)); exact BK90011.out) hb)
                 have n3_ := Aside0.mk (below_step (by repeat (first | (with_reducible first | exact HB.out | apply below_alloc | apply pw_below_drewN | apply below_drew1 | refine below_set ?_ GE90010.out | refine below_set ?_ GE90011.out) | exact HB.out)) hb)
                 clear BK90010
                 clear BK90011
                 clear HB
                 have HO90014 := n0_
                 have BK90010 := n1_
                 have BK90011 := n2_
                 have HB := n3_
                 clear n0_ n1_ n2_ n3_
                 clear hb ho21
                 refine hK.out _ _ ⟨(blk_cell BK90011.out 0).trans rfl, (blk_cell BK90011.out 1).trans rfl, (blk_cell BK90011.out 2).trans rfl, (blk_cell BK90011.out 3).trans rfl⟩ (fun hHeld => ?_)
                 clear hK K
                 refine norm_ (a' := ?_) ?_ ?_
                 rotate_left
                 ·show Act.put _ (some 25) _ = _
                  simp only [Act.put, List.setIfInBounds_toArray, List.set_cons_zero, List.set_cons_succ, i64_w, i32_w]
                  rfl
                 exact norm_ (by first | (simp only [putAll, Act.put, List.setIfInBounds_toArray, List.set_cons_zero, List.set_cons_succ]; done) | (simp only [putAll, Act.put, List.setIfInBounds_toArray, List.set_cons_zero, List.set_cons_succ]; rfl)) (hJ4_5_7 (v90013) _ ⟨hHeld, (by (with_reducible repeat (first | apply Kd.R_alloc | apply Kd.R_drewN | apply Kd.R_drew)); exact HO90014.out), (by (with_reducible repeat (first | refine blk_drewN ?_ _ | refine blk_drew ?_ | refine blk_alloc ?_ _)); exact BK90010.out), (by (with_reducible repeat (first | refine blk_drewN ?_ _ | refine blk_drew ?_ | refine blk_alloc ?_ _)); exact BK90011.out), (by repeat (first | (with_reducible first | exact HB.out | apply below_alloc | apply pw_below_drewN | apply below_drew1 | refine below_set ?_ GE90010.out | refine below_set ?_ GE90011.out) | exact HB.out))⟩)
                ·skip
                 refine Kd.R_make_step (Kd.int .i64) _ 3 (by rfl) (N := 28) rfl 23 _ _ rfl t90003 rfl rfl Try.underlying23 (.int .i64 0) 8 info3 rfl (by decide) (by omega) 0 (ok := fun _ => True) (okp := fun _ => True) rfl (fun _ hk => hk) trivial (of_decide_eq_true (by first | (with_reducible assumption) | assumption)) (Nat.le_trans (Nat.mul_le_mul_right _ (of_decide_eq_true (by first | (with_reducible assumption) | assumption) : t90003.toNat ≤ 35184372088832)) (by omega)) (Below.refl _ _) (Nat.le_refl _) ?_
                 intro v90015 w20 ho21 hb hg_ hnew_
                 clear hg_ hnew_
                 (first | rw [← Ny90009.out] at ho21 | (simp only [Int.reduceToNat] at ho21; rw [← Ny90009.out] at ho21))
                 have n0_ := Aside0.mk (Kd.R_lower ho21 (below_size (by repeat (first | (with_reducible first | exact HB.out | apply below_alloc | apply pw_below_drewN | apply below_drew1 | refine below_set ?_ GE90010.out | refine below_set ?_ GE90011.out) | exact HB.out))))
                 have n1_ := Aside0.mk (blk_below (g := gb90010) (o := .cells #[.int .i64 0, .int .i64 0, .slice none 0 0, .slice none 0 0] 25 (0, 0)) (by (with_reducible repeat (first | refine blk_drewN ?_ _ | refine blk_drew ?_ | refine blk_alloc ?_ _)); exact BK90010.out) hb)
                 have n2_ := Aside0.mk (blk_below (g := gb90011) (o := .cells #[.int .i64 t90001, .int .i64 t90004, .int .i64 t90005, .int .i64 t90006] 88 (0, 0)) (by (with_reducible repeat (first | refine blk_drewN ?_ _ | refine blk_drew ?_ | refine blk_alloc ?_ _)); exact BK90011.out) hb)
                 have n3_ := Aside0.mk (below_step (by repeat (first | (with_reducible first | exact HB.out | apply below_alloc | apply pw_below_drewN | apply below_drew1 | refine below_set ?_ GE90010.out | refine below_set ?_ GE90011.out) | exact HB.out)) hb)
                 clear BK90010
                 clear BK90011
                 clear HB
                 have HO90016 := n0_
                 have BK90010 := n1_
                 have BK90011 := n2_
                 have HB := n3_
                 clear n0_ n1_ n2_ n3_
                 clear hb ho21
                 refine hK.out _ _ ⟨(blk_cell BK90011.out 0).trans rfl, (blk_cell BK90011.out 1).trans rfl, (blk_cell BK90011.out 2).trans rfl, (blk_cell BK90011.out 3).trans rfl⟩ (fun hHeld => ?_)
                 clear hK K
                 refine norm_ (a' := ?_) ?_ ?_
                 rotate_left
                 ·show Act.put _ (some 28) _ = _
                  simp only [Act.put, List.setIfInBounds_toArray, List.set_cons_zero, List.set_cons_succ, i64_w, i32_w]
                  rfl
                 exact norm_ (by first | (simp only [putAll, Act.put, List.setIfInBounds_toArray, List.set_cons_zero, List.set_cons_succ]; done) | (simp only [putAll, Act.put, List.setIfInBounds_toArray, List.set_cons_zero, List.set_cons_succ]; rfl)) (hJ4_7_8 (v90015) _ ⟨hHeld, (by (with_reducible repeat (first | apply Kd.R_alloc | apply Kd.R_drewN | apply Kd.R_drew)); exact HO90016.out), (by (with_reducible repeat (first | refine blk_drewN ?_ _ | refine blk_drew ?_ | refine blk_alloc ?_ _)); exact BK90010.out), (by (with_reducible repeat (first | refine blk_drewN ?_ _ | refine blk_drew ?_ | refine blk_alloc ?_ _)); exact BK90011.out), (by repeat (first | (with_reducible first | exact HB.out | apply below_alloc | apply pw_below_drewN | apply below_drew1 | refine below_set ?_ GE90010.out | refine below_set ?_ GE90011.out) | exact HB.out))⟩)
                ·skip
                 refine box_step ?hg (N := 6) ?hd (cs := #[.int .i64 0, .int .i64 0, .slice none 0 0, .slice none 0 0]) (t := 25) ?hr ?_; (case hd => rfl); (case hg => rfl); (case hr => first | (go_simp; done) | (go_simp; rfl))
                 intro gb90012 hg w20 hbox hb
                 have n0_ := Aside0.mk (blk_below (g := gb90010) (o := .cells #[.int .i64 0, .int .i64 0, .slice none 0 0, .slice none 0 0] 25 (0, 0)) (by (with_reducible repeat (first | refine blk_drewN ?_ _ | refine blk_drew ?_ | refine blk_alloc ?_ _)); exact BK90010.out) hb)
                 have n1_ := Aside0.mk (blk_below (g := gb90011) (o := .cells #[.int .i64 t90001, .int .i64 t90004, .int .i64 t90005, .int .i64 t90006] 88 (0, 0)) (by (with_reducible repeat (first | refine blk_drewN ?_ _ | refine blk_drew ?_ | refine blk_alloc ?_ _)); exact BK90011.out) hb)
                 have n2_ := Aside0.mk (below_step (by repeat (first | (with_reducible first | exact HB.out | apply below_alloc | apply pw_below_drewN | apply below_drew1 | refine below_set ?_ GE90010.out | refine below_set ?_ GE90011.out) | exact HB.out)) hb)
                 have n3_ := Aside0.mk (hbox)
                 have n4_ := Aside0.mk ((by rw [hg]; exact (below_size (by repeat (first | (with_reducible first | exact HB.out | apply below_alloc | apply pw_below_drewN | apply below_drew1 | refine below_set ?_ GE90010.out | refine below_set ?_ GE90011.out) | exact HB.out))) : w.heap.size ≤ gb90012))
                 have n5_ := Aside0.mk ((by rw [hg]; exact (below_size (by repeat (first | (with_reducible first | exact HB.out | apply below_alloc | apply pw_below_drewN | apply below_drew1 | refine below_set ?_ GE90010.out | refine below_set ?_ GE90011.out) | exact HB.out))) : w.heap.size ≤ gb90012))
                 have n6_ := Aside0.mk ((by rw [hg]; exact Nat.ne_of_lt (blk_lt (g := gb90010) (o := .cells #[.int .i64 0, .int .i64 0, .slice none 0 0, .slice none 0 0] 25 (0, 0)) (by (with_reducible repeat (first | refine blk_drewN ?_ _ | refine blk_drew ?_ | refine blk_alloc ?_ _)); exact BK90010.out)) : gb90010 ≠ gb90012))
                 have n7_ := Aside0.mk ((by rw [hg]; exact Nat.ne_of_gt (blk_lt (g := gb90010) (o := .cells #[.int .i64 0, .int .i64 0, .slice none 0 0, .slice none 0 0] 25 (0, 0)) (by (with_reducible repeat (first | refine blk_drewN ?_ _ | refine blk_drew ?_ | refine blk_alloc ?_ _)); exact BK90010.out)) : gb90012 ≠ gb90010))
                 have n8_ := Aside0.mk ((by rw [hg]; exact Nat.ne_of_lt (blk_lt (g := gb90011) (o := .cells #[.int .i64 t90001, .int .i64 t90004, .int .i64 t90005, .int .i64 t90006] 88 (0, 0)) (by (with_reducible repeat (first | refine blk_drewN ?_ _ | refine blk_drew ?_ | refine blk_alloc ?_ _)); exact BK90011.out)) : gb90011 ≠ gb90012))
                 have n9_ := Aside0.mk ((by rw [hg]; exact Nat.ne_of_gt (blk_lt (g := gb90011) (o := .cells #[.int .i64 t90001, .int .i64 t90004, .int .i64 t90005, .int .i64 t90006] 88 (0, 0)) (by (with_reducible repeat (first | refine blk_drewN ?_ _ | refine blk_drew ?_ | refine blk_alloc ?_ _)); exact BK90011.out)) : gb90012 ≠ gb90011))
                 clear BK90010
                 clear BK90011
                 clear HB
                 have BK90010 := n0_
                 have BK90011 := n1_
                 have HB := n2_
                 have BK90012 := n3_
                 have GW90012 := n4_
                 have GE90012 := n5_
                 have NB90010_90012 := n6_
                 have NB90012_90010 := n7_
                 have NB90011_90012 := n8_
                 have NB90012_90011 := n9_
                 clear n0_ n1_ n2_ n3_ n4_ n5_ n6_ n7_ n8_ n9_
                 clear hb hbox hg
                 refine hK.out _ _ ⟨(blk_cell BK90011.out 0).trans rfl, (blk_cell BK90011.out 1).trans rfl, (blk_cell BK90011.out 2).trans rfl, (blk_cell BK90011.out 3).trans rfl⟩ (fun hHeld => ?_)
                 clear hK K
                 refine norm_ (a' := ?_) ?_ ?_
                 rotate_left
                 ·show Act.put _ (some 6) _ = _
                  simp only [Act.put, List.setIfInBounds_toArray, List.set_cons_zero, List.set_cons_succ, i64_w, i32_w]
                  rfl
                 exact norm_ (by first | (simp only [putAll, Act.put, List.setIfInBounds_toArray, List.set_cons_zero, List.set_cons_succ]; done) | (simp only [putAll, Act.put, List.setIfInBounds_toArray, List.set_cons_zero, List.set_cons_succ]; rfl)) (hJ4_7_10 (gb90012) _ ⟨hHeld, (by (with_reducible repeat (first | refine blk_drewN ?_ _ | refine blk_drew ?_ | refine blk_alloc ?_ _)); exact BK90010.out), (by (with_reducible repeat (first | refine blk_drewN ?_ _ | refine blk_drew ?_ | refine blk_alloc ?_ _)); exact BK90011.out), (by (with_reducible repeat (first | refine blk_drewN ?_ _ | refine blk_drew ?_ | refine blk_alloc ?_ _)); exact BK90012.out), GW90012.out, GE90012.out, NB90010_90012.out, NB90012_90010.out, NB90011_90012.out, NB90012_90011.out, (by repeat (first | (with_reducible first | exact HB.out | apply below_alloc | apply pw_below_drewN | apply below_drew1 | refine below_set ?_ GE90010.out | refine below_set ?_ GE90011.out | refine below_set ?_ GE90012.out) | exact HB.out))⟩)
              ·skip
               rintro v90013 w20 ⟨hS_, h0_, h1_, h2_, h3_⟩
               have n0_ : Aside0 (Kd.R (Kd.int .i64) 3 w20 w.heap.size (fun _ => True) v90013 y90008) := ⟨h0_⟩
               have n1_ : Aside0 (w20.heap[gb90010]? = some (.cells #[.int .i64 0, .int .i64 0, .slice none 0 0, .slice none 0 0] 25 (0, 0))) := ⟨h1_⟩
               have n2_ : Aside0 (w20.heap[gb90011]? = some (.cells #[.int .i64 t90001, .int .i64 t90004, .int .i64 t90005, .int .i64 t90006] 88 (0, 0))) := ⟨h2_⟩
               have n3_ : Aside0 (Below w.heap.size w w20) := ⟨h3_⟩
               clear BK90010
               clear BK90011
               clear HB
               clear h0_ h1_ h2_ h3_
               have HO90014 := n0_
               have BK90010 := n1_
               have BK90011 := n2_
               have HB := n3_
               clear n0_ n1_ n2_ n3_
               have hHeld : w20.cell? ⟨gb90011, 0, none⟩ = some (.int .i64 t90001) ∧ w20.cell? ⟨gb90011, 1, none⟩ = some (.int .i64 t90004) ∧ w20.cell? ⟨gb90011, 2, none⟩ = some (.int .i64 t90005) ∧ w20.cell? ⟨gb90011, 3, none⟩ = some (.int .i64 t90006) := hS_
               refine norm_ (a' := ?_) ?_ ?_
               rotate_left
               ·simp only [putAll, Act.put, List.setIfInBounds_toArray, List.set_cons_zero, List.set_cons_succ]
                rfl
               refine two_ (i := 7) (j := 10) (Ni := some 27) (Nj := some 6) #[true, true, true, true, true, true, true, true, false, false, false, false] #[true, true, true, true, true, true, true, false, false, false, true, false] rfl rfl rfl rfl (two_of HT_.out (by kernel_rfl)) (by decide) (by decide) (fun K hK => ?_) (fun K hK => ?_)
               ·skip
                refine goes_ Try.func53 (by kernel_rfl) rfl #[.agg #[.int .i64 t90001, .int .i64 t90004, .int .i64 t90005, .int .i64 t90006]] (by rfl) rfl rfl (by (try simp only [List.map_toArray, List.map_cons, List.map_nil]); first | done | rfl | (simp only [List.length_drop, List.length_take]; rfl)) ?_
                with_reducible refine (book_kind_many.calls k t90001 t90004 t90005 t90006 t90003 _ A7.out).mono ?_
                rintro e w21 ⟨rfl, hb⟩
                refine ⟨_, rfl, ?_⟩
                have n0_ := Aside0.mk (Kd.R_below (by (with_reducible repeat (first | apply Kd.R_alloc | apply Kd.R_drewN | apply Kd.R_drew)); exact HO90014.out) hb)
                have n1_ := Aside0.mk (blk_below (g := gb90010) (o := .cells #[.int .i64 0, .int .i64 0, .slice none 0 0, .slice none 0 0] 25 (0, 0)) (by (with_reducible repeat (first | refine blk_drewN ?_ _ | refine blk_drew ?_ | refine blk_alloc ?_ _)); exact BK90010.out) hb)
                have n2_ := Aside0.mk (blk_below (g := gb90011) (o := .cells #[.int .i64 t90001, .int .i64 t90004, .int .i64 t90005, .int .i64 t90006] 88 (0, 0)) (by (with_reducible repeat (first | refine blk_drewN ?_ _ | refine blk_drew ?_ | refine blk_alloc ?_ _)); exact BK90011.out) hb)
                have n3_ := Aside0.mk (below_step (by repeat (first | (with_reducible first | exact HB.out | apply below_alloc | apply pw_below_drewN | apply below_drew1 | refine below_set ?_ GE90010.out | refine below_set ?_ GE90011.out) | exact HB.out)) hb)
                clear HO90014
                clear BK90010
                clear BK90011
                clear HB
                have HO90014 := n0_
                have BK90010 := n1_
                have BK90011 := n2_
                have HB := n3_
                clear n0_ n1_ n2_ n3_
                (try clear hb)
                (try clear hb2)
                (try clear hk)
                (try clear hi)
                refine hK.out _ _ ⟨(blk_cell BK90011.out 0).trans rfl, (blk_cell BK90011.out 1).trans rfl, (blk_cell BK90011.out 2).trans rfl, (blk_cell BK90011.out 3).trans rfl⟩ (fun hHeld => ?_)
                clear hK K
                refine norm_ (a' := ?_) ?_ ?_
                rotate_left
                ·show Act.put _ (some 27) _ = _
                 simp only [Act.put, List.setIfInBounds_toArray, List.set_cons_zero, List.set_cons_succ, i64_w, i32_w]
                 rfl
                exact norm_ (by first | (simp only [putAll, Act.put, List.setIfInBounds_toArray, List.set_cons_zero, List.set_cons_succ]; done) | (simp only [putAll, Act.put, List.setIfInBounds_toArray, List.set_cons_zero, List.set_cons_succ]; rfl)) (hJ4_5_7 (v90013) _ ⟨hHeld, (by (with_reducible repeat (first | apply Kd.R_alloc | apply Kd.R_drewN | apply Kd.R_drew)); exact HO90014.out), (by (with_reducible repeat (first | refine blk_drewN ?_ _ | refine blk_drew ?_ | refine blk_alloc ?_ _)); exact BK90010.out), (by (with_reducible repeat (first | refine blk_drewN ?_ _ | refine blk_drew ?_ | refine blk_alloc ?_ _)); exact BK90011.out), (by repeat (first | (with_reducible first | exact HB.out | apply below_alloc | apply pw_below_drewN | apply below_drew1 | refine below_set ?_ GE90010.out | refine below_set ?_ GE90011.out) | exact HB.out))⟩)
               ·skip
                refine box_step ?hg (N := 6) ?hd (cs := #[.int .i64 0, .int .i64 0, .slice none 0 0, .slice none 0 0]) (t := 25) ?hr ?_; (case hd => rfl); (case hg => rfl); (case hr => first | (go_simp; done) | (go_simp; rfl))
                intro gb90012 hg w21 hbox hb
                have n0_ := Aside0.mk (Kd.R_below (by (with_reducible repeat (first | apply Kd.R_alloc | apply Kd.R_drewN | apply Kd.R_drew)); exact HO90014.out) hb)
                have n1_ := Aside0.mk (blk_below (g := gb90010) (o := .cells #[.int .i64 0, .int .i64 0, .slice none 0 0, .slice none 0 0] 25 (0, 0)) (by (with_reducible repeat (first | refine blk_drewN ?_ _ | refine blk_drew ?_ | refine blk_alloc ?_ _)); exact BK90010.out) hb)
                have n2_ := Aside0.mk (blk_below (g := gb90011) (o := .cells #[.int .i64 t90001, .int .i64 t90004, .int .i64 t90005, .int .i64 t90006] 88 (0, 0)) (by (with_reducible repeat (first | refine blk_drewN ?_ _ | refine blk_drew ?_ | refine blk_alloc ?_ _)); exact BK90011.out) hb)
                have n3_ := Aside0.mk (below_step (by repeat (first | (with_reducible first | exact HB.out | apply below_alloc | apply pw_below_drewN | apply below_drew1 | refine below_set ?_ GE90010.out | refine below_set ?_ GE90011.out) | exact HB.out)) hb)
                have n4_ := Aside0.mk (hbox)
                have n5_ := Aside0.mk ((by rw [hg]; exact (below_size (by repeat (first | (with_reducible first | exact HB.out | apply below_alloc | apply pw_below_drewN | apply below_drew1 | refine below_set ?_ GE90010.out | refine below_set ?_ GE90011.out) | exact HB.out))) : w.heap.size ≤ gb90012))
                have n6_ := Aside0.mk ((by rw [hg]; exact (below_size (by repeat (first | (with_reducible first | exact HB.out | apply below_alloc | apply pw_below_drewN | apply below_drew1 | refine below_set ?_ GE90010.out | refine below_set ?_ GE90011.out) | exact HB.out))) : w.heap.size ≤ gb90012))
                have n7_ := Aside0.mk ((by rw [hg]; exact Nat.ne_of_lt (blk_lt (g := gb90010) (o := .cells #[.int .i64 0, .int .i64 0, .slice none 0 0, .slice none 0 0] 25 (0, 0)) (by (with_reducible repeat (first | refine blk_drewN ?_ _ | refine blk_drew ?_ | refine blk_alloc ?_ _)); exact BK90010.out)) : gb90010 ≠ gb90012))
                have n8_ := Aside0.mk ((by rw [hg]; exact Nat.ne_of_gt (blk_lt (g := gb90010) (o := .cells #[.int .i64 0, .int .i64 0, .slice none 0 0, .slice none 0 0] 25 (0, 0)) (by (with_reducible repeat (first | refine blk_drewN ?_ _ | refine blk_drew ?_ | refine blk_alloc ?_ _)); exact BK90010.out)) : gb90012 ≠ gb90010))
                have n9_ := Aside0.mk ((by rw [hg]; exact Nat.ne_of_lt (blk_lt (g := gb90011) (o := .cells #[.int .i64 t90001, .int .i64 t90004, .int .i64 t90005, .int .i64 t90006] 88 (0, 0)) (by (with_reducible repeat (first | refine blk_drewN ?_ _ | refine blk_drew ?_ | refine blk_alloc ?_ _)); exact BK90011.out)) : gb90011 ≠ gb90012))
                have n10_ := Aside0.mk ((by rw [hg]; exact Nat.ne_of_gt (blk_lt (g := gb90011) (o := .cells #[.int .i64 t90001, .int .i64 t90004, .int .i64 t90005, .int .i64 t90006] 88 (0, 0)) (by (with_reducible repeat (first | refine blk_drewN ?_ _ | refine blk_drew ?_ | refine blk_alloc ?_ _)); exact BK90011.out)) : gb90012 ≠ gb90011))
                clear HO90014
                clear BK90010
                clear BK90011
                clear HB
                have HO90014 := n0_
                have BK90010 := n1_
                have BK90011 := n2_
                have HB := n3_
                have BK90012 := n4_
                have GW90012 := n5_
                have GE90012 := n6_
                have NB90010_90012 := n7_
                have NB90012_90010 := n8_
                have NB90011_90012 := n9_
                have NB90012_90011 := n10_
                clear n0_ n1_ n2_ n3_ n4_ n5_ n6_ n7_ n8_ n9_ n10_
                clear hb hbox hg
                refine hK.out _ _ ⟨(blk_cell BK90011.out 0).trans rfl, (blk_cell BK90011.out 1).trans rfl, (blk_cell BK90011.out 2).trans rfl, (blk_cell BK90011.out 3).trans rfl⟩ (fun hHeld => ?_)
                clear hK K
                refine norm_ (a' := ?_) ?_ ?_
                rotate_left
                ·show Act.put _ (some 6) _ = _
                 simp only [Act.put, List.setIfInBounds_toArray, List.set_cons_zero, List.set_cons_succ, i64_w, i32_w]
                 rfl
                exact norm_ (by first | (simp only [putAll, Act.put, List.setIfInBounds_toArray, List.set_cons_zero, List.set_cons_succ]; done) | (simp only [putAll, Act.put, List.setIfInBounds_toArray, List.set_cons_zero, List.set_cons_succ]; rfl)) (hJ4_5_10 (v90013, gb90012) _ ⟨hHeld, (by (with_reducible repeat (first | apply Kd.R_alloc | apply Kd.R_drewN | apply Kd.R_drew)); exact HO90014.out), (by (with_reducible repeat (first | refine blk_drewN ?_ _ | refine blk_drew ?_ | refine blk_alloc ?_ _)); exact BK90010.out), (by (with_reducible repeat (first | refine blk_drewN ?_ _ | refine blk_drew ?_ | refine blk_alloc ?_ _)); exact BK90011.out), (by (with_reducible repeat (first | refine blk_drewN ?_ _ | refine blk_drew ?_ | refine blk_alloc ?_ _)); exact BK90012.out), GW90012.out, GE90012.out, NB90010_90012.out, NB90012_90010.out, NB90011_90012.out, NB90012_90011.out, (by repeat (first | (with_reducible first | exact HB.out | apply below_alloc | apply pw_below_drewN | apply below_drew1 | refine below_set ?_ GE90010.out | refine below_set ?_ GE90011.out | refine below_set ?_ GE90012.out) | exact HB.out))⟩)
             ·skip
              rintro gb90012 w20 ⟨hS_, h0_, h1_, h2_, h3_, h4_, h5_, h6_, h7_, h8_, h9_⟩
              have n0_ : Aside0 (w20.heap[gb90010]? = some (.cells #[.int .i64 0, .int .i64 0, .slice none 0 0, .slice none 0 0] 25 (0, 0))) := ⟨h0_⟩
              have n1_ : Aside0 (w20.heap[gb90011]? = some (.cells #[.int .i64 t90001, .int .i64 t90004, .int .i64 t90005, .int .i64 t90006] 88 (0, 0))) := ⟨h1_⟩
              have n2_ : Aside0 (w20.heap[gb90012]? = some (.cells #[.int .i64 0, .int .i64 0, .slice none 0 0, .slice none 0 0] 25 (0, 0))) := ⟨h2_⟩
              have n3_ : Aside0 (w.heap.size ≤ gb90012) := ⟨h3_⟩
              have n4_ : Aside0 (w.heap.size ≤ gb90012) := ⟨h4_⟩
              have n5_ : Aside0 (gb90010 ≠ gb90012) := ⟨h5_⟩
              have n6_ : Aside0 (gb90012 ≠ gb90010) := ⟨h6_⟩
              have n7_ : Aside0 (gb90011 ≠ gb90012) := ⟨h7_⟩
              have n8_ : Aside0 (gb90012 ≠ gb90011) := ⟨h8_⟩
              have n9_ : Aside0 (Below w.heap.size w w20) := ⟨h9_⟩
              clear BK90010
              clear BK90011
              clear HB
              clear h0_ h1_ h2_ h3_ h4_ h5_ h6_ h7_ h8_ h9_
              have BK90010 := n0_
              have BK90011 := n1_
              have BK90012 := n2_
              have GW90012 := n3_
              have GE90012 := n4_
              have NB90010_90012 := n5_
              have NB90012_90010 := n6_
              have NB90011_90012 := n7_
              have NB90012_90011 := n8_
              have HB := n9_
              clear n0_ n1_ n2_ n3_ n4_ n5_ n6_ n7_ n8_ n9_
              have hHeld : w20.cell? ⟨gb90011, 0, none⟩ = some (.int .i64 t90001) ∧ w20.cell? ⟨gb90011, 1, none⟩ = some (.int .i64 t90004) ∧ w20.cell? ⟨gb90011, 2, none⟩ = some (.int .i64 t90005) ∧ w20.cell? ⟨gb90011, 3, none⟩ = some (.int .i64 t90006) := hS_
              refine norm_ (a' := ?_) ?_ ?_
              rotate_left
              ·simp only [putAll, Act.put, List.setIfInBounds_toArray, List.set_cons_zero, List.set_cons_succ]
               rfl
              refine two_ (i := 5) (j := 8) (Ni := some 25) (Nj := some 28) #[true, true, true, true, true, true, true, true, false, false, true, false] #[true, true, true, true, true, false, true, true, true, false, true, false] rfl rfl rfl rfl (two_of HT_.out (by kernel_rfl)) (by decide) (by decide) (fun K hK => ?_) (fun K hK => ?_)
              ·skip
               refine Kd.R_make_step (Kd.int .i64) _ 3 (by rfl) (N := 25) rfl 23 _ _ rfl t90002 rfl rfl Try.underlying23 (.int .i64 0) 8 info3 rfl (by decide) (by omega) 0 (ok := fun _ => True) (okp := fun _ => True) rfl (fun _ hk => hk) trivial (of_decide_eq_true (by first | (with_reducible assumption) | assumption)) (Nat.le_trans (Nat.mul_le_mul_right _ (of_decide_eq_true (by first | (with_reducible assumption) | assumption) : t90002.toNat ≤ 35184372088832)) (by omega)) (Below.refl _ _) (Nat.le_refl _) ?_
               intro v90013 w21 ho22 hb hg_ hnew_
               clear hg_ hnew_
               (first | rw [← Ny90008.out] at ho22 | (simp only [Int.reduceToNat] at ho22; rw [← Ny90008.out] at ho22))
               have n0_ := Aside0.mk (Kd.R_lower ho22 (below_size (by repeat (first | (with_reducible first | exact HB.out | apply below_alloc | apply pw_below_drewN | apply below_drew1 | refine below_set ?_ GE90010.out | refine below_set ?_ GE90011.out | refine below_set ?_ GE90012.out) | exact HB.out))))
               have n1_ := Aside0.mk (blk_below (g := gb90010) (o := .cells #[.int .i64 0, .int .i64 0, .slice none 0 0, .slice none 0 0] 25 (0, 0)) (by (with_reducible repeat (first | refine blk_drewN ?_ _ | refine blk_drew ?_ | refine blk_alloc ?_ _)); exact BK90010.out) hb)
               have n2_ := Aside0.mk (blk_below (g := gb90011) (o := .cells #[.int .i64 t90001, .int .i64 t90004, .int .i64 t90005, .int .i64 t90006] 88 (0, 0)) (by (with_reducible repeat (first | refine blk_drewN ?_ _ | refine blk_drew ?_ | refine blk_alloc ?_ _)); exact BK90011.out) hb)
               have n3_ := Aside0.mk (blk_below (g := gb90012) (o := .cells #[.int .i64 0, .int .i64 0, .slice none 0 0, .slice none 0 0] 25 (0, 0)) (by (with_reducible repeat (first | refine blk_drewN ?_ _ | refine blk_drew ?_ | refine blk_alloc ?_ _)); exact BK90012.out) hb)
               have n4_ := Aside0.mk (below_step (by repeat (first | (with_reducible first | exact HB.out | apply below_alloc | apply pw_below_drewN | apply below_drew1 | refine below_set ?_ GE90010.out | refine below_set ?_ GE90011.out | refine below_set ?_ GE90012.out) | exact HB.out)) hb)
               clear BK90010
               clear BK90011
               clear BK90012
               clear HB
               have HO90014 := n0_
               have BK90010 := n1_
               have BK90011 := n2_
               have BK90012 := n3_
               have HB := n4_
               clear n0_ n1_ n2_ n3_ n4_
               clear hb ho22
               refine hK.out _ _ ⟨(blk_cell BK90011.out 0).trans rfl, (blk_cell BK90011.out 1).trans rfl, (blk_cell BK90011.out 2).trans rfl, (blk_cell BK90011.out 3).trans rfl⟩ (fun hHeld => ?_)
               clear hK K
               refine norm_ (a' := ?_) ?_ ?_
               rotate_left
               ·show Act.put _ (some 25) _ = _
                simp only [Act.put, List.setIfInBounds_toArray, List.set_cons_zero, List.set_cons_succ, i64_w, i32_w]
                rfl
               exact norm_ (by first | (simp only [putAll, Act.put, List.setIfInBounds_toArray, List.set_cons_zero, List.set_cons_succ]; done) | (simp only [putAll, Act.put, List.setIfInBounds_toArray, List.set_cons_zero, List.set_cons_succ]; rfl)) (hJ4_5_7_10 (v90013, gb90012) _ ⟨hHeld, (by (with_reducible repeat (first | apply Kd.R_alloc | apply Kd.R_drewN | apply Kd.R_drew)); exact HO90014.out), (by (with_reducible repeat (first | refine blk_drewN ?_ _ | refine blk_drew ?_ | refine blk_alloc ?_ _)); exact BK90010.out), (by (with_reducible repeat (first | refine blk_drewN ?_ _ | refine blk_drew ?_ | refine blk_alloc ?_ _)); exact BK90011.out), (by (with_reducible repeat (first | refine blk_drewN ?_ _ | refine blk_drew ?_ | refine blk_alloc ?_ _)); exact BK90012.out), GW90012.out, GE90012.out, NB90010_90012.out, NB90012_90010.out, NB90011_90012.out, NB90012_90011.out, (by repeat (first | (with_reducible first | exact HB.out | apply below_alloc | apply pw_below_drewN | apply below_drew1 | refine below_set ?_ GE90010.out | refine below_set ?_ GE90011.out | refine below_set ?_ GE90012.out) | exact HB.out))⟩)
              ·skip
               refine Kd.R_make_step (Kd.int .i64) _ 3 (by rfl) (N := 28) rfl 23 _ _ rfl t90003 rfl rfl Try.underlying23 (.int .i64 0) 8 info3 rfl (by decide) (by omega) 0 (ok := fun _ => True) (okp := fun _ => True) rfl (fun _ hk => hk) trivial (of_decide_eq_true (by first | (with_reducible assumption) | assumption)) (Nat.le_trans (Nat.mul_le_mul_right _ (of_decide_eq_true (by first | (with_reducible assumption) | assumption) : t90003.toNat ≤ 35184372088832)) (by omega)) (Below.refl _ _) (Nat.le_refl _) ?_
               intro v90015 w21 ho22 hb hg_ hnew_
               clear hg_ hnew_
               (first | rw [← Ny90009.out] at ho22 | (simp only [Int.reduceToNat] at ho22; rw [← Ny90009.out] at ho22))
               have n0_ := Aside0.mk (Kd.R_lower ho22 (below_size (by repeat (first | (with_reducible first | exact HB.out | apply below_alloc | apply pw_below_drewN | apply below_drew1 | refine below_set ?_ GE90010.out | refine below_set ?_ GE90011.out | refine below_set ?_ GE90012.out) | exact HB.out))))
               have n1_ := Aside0.mk (blk_below (g := gb90010) (o := .cells #[.int .i64 0, .int .i64 0, .slice none 0 0, .slice none 0 0] 25 (0, 0)) (by (with_reducible repeat (first | refine blk_drewN ?_ _ | refine blk_drew ?_ | refine blk_alloc ?_ _)); exact BK90010.out) hb)
               have n2_ := Aside0.mk (blk_below (g := gb90011) (o := .cells #[.int .i64 t90001, .int .i64 t90004, .int .i64 t90005, .int .i64 t90006] 88 (0, 0)) (by (with_reducible repeat (first | refine blk_drewN ?_ _ | refine blk_drew ?_ | refine blk_alloc ?_ _)); exact BK90011.out) hb)
               have n3_ := Aside0.mk (blk_below (g := gb90012) (o := .cells #[.int .i64 0, .int .i64 0, .slice none 0 0, .slice none 0 0] 25 (0, 0)) (by (with_reducible repeat (first | refine blk_drewN ?_ _ | refine blk_drew ?_ | refine blk_alloc ?_ _)); exact BK90012.out) hb)
               have n4_ := Aside0.mk (below_step (by repeat (first | (with_reducible first | exact HB.out | apply below_alloc | apply pw_below_drewN | apply below_drew1 | refine below_set ?_ GE90010.out | refine below_set ?_ GE90011.out | refine below_set ?_ GE90012.out) | exact HB.out)) hb)
               clear BK90010
               clear BK90011
               clear BK90012
               clear HB
               have HO90016 := n0_
               have BK90010 := n1_
               have BK90011 := n2_
               have BK90012 := n3_
               have HB := n4_
               clear n0_ n1_ n2_ n3_ n4_
               clear hb ho22
               refine hK.out _ _ ⟨(blk_cell BK90011.out 0).trans rfl, (blk_cell BK90011.out 1).trans rfl, (blk_cell BK90011.out 2).trans rfl, (blk_cell BK90011.out 3).trans rfl⟩ (fun hHeld => ?_)
               clear hK K
               refine norm_ (a' := ?_) ?_ ?_
               rotate_left
               ·show Act.put _ (some 28) _ = _
                simp only [Act.put, List.setIfInBounds_toArray, List.set_cons_zero, List.set_cons_succ, i64_w, i32_w]
                rfl
               exact norm_ (by first | (simp only [putAll, Act.put, List.setIfInBounds_toArray, List.set_cons_zero, List.set_cons_succ]; done) | (simp only [putAll, Act.put, List.setIfInBounds_toArray, List.set_cons_zero, List.set_cons_succ]; rfl)) (hJ4_7_8_10 (v90015, gb90012) _ ⟨hHeld, (by (with_reducible repeat (first | apply Kd.R_alloc | apply Kd.R_drewN | apply Kd.R_drew)); exact HO90016.out), (by (with_reducible repeat (first | refine blk_drewN ?_ _ | refine blk_drew ?_ | refine blk_alloc ?_ _)); exact BK90010.out), (by (with_reducible repeat (first | refine blk_drewN ?_ _ | refine blk_drew ?_ | refine blk_alloc ?_ _)); exact BK90011.out), (by (with_reducible repeat (first | refine blk_drewN ?_ _ | refine blk_drew ?_ | refine blk_alloc ?_ _)); exact BK90012.out), GW90012.out, GE90012.out, NB90010_90012.out, NB90012_90010.out, NB90011_90012.out, NB90012_90011.out, (by repeat (first | (with_reducible first | exact HB.out | apply below_alloc | apply pw_below_drewN | apply below_drew1 | refine below_set ?_ GE90010.out | refine below_set ?_ GE90011.out | refine below_set ?_ GE90012.out) | exact HB.out))⟩)
            ·skip
             rintro v90015 w21 ⟨hS_, h0_, h1_, h2_, h3_⟩
             have n0_ : Aside0 (Kd.R (Kd.int .i64) 3 w21 w.heap.size (fun _ => True) v90015 y90009) := ⟨h0_⟩
             have n1_ : Aside0 (w21.heap[gb90010]? = some (.cells #[.int .i64 0, .int .i64 0, .slice none 0 0, .slice none 0 0] 25 (0, 0))) := ⟨h1_⟩
             have n2_ : Aside0 (w21.heap[gb90011]? = some (.cells #[.int .i64 t90001, .int .i64 t90004, .int .i64 t90005, .int .i64 t90006] 88 (0, 0))) := ⟨h2_⟩
             have n3_ : Aside0 (Below w.heap.size w w21) := ⟨h3_⟩
             clear BK90010
             clear BK90011
             clear HB
             clear h0_ h1_ h2_ h3_
             have HO90016 := n0_
             have BK90010 := n1_
             have BK90011 := n2_
             have HB := n3_
             clear n0_ n1_ n2_ n3_
             have hHeld : w21.cell? ⟨gb90011, 0, none⟩ = some (.int .i64 t90001) ∧ w21.cell? ⟨gb90011, 1, none⟩ = some (.int .i64 t90004) ∧ w21.cell? ⟨gb90011, 2, none⟩ = some (.int .i64 t90005) ∧ w21.cell? ⟨gb90011, 3, none⟩ = some (.int .i64 t90006) := hS_
             refine norm_ (a' := ?_) ?_ ?_
             rotate_left
             ·simp only [putAll, Act.put, List.setIfInBounds_toArray, List.set_cons_zero, List.set_cons_succ]
              rfl
             refine two_ (i := 5) (j := 10) (Ni := some 25) (Nj := some 6) #[true, true, true, true, true, true, true, true, true, false, false, false] #[true, true, true, true, true, false, true, true, true, false, true, false] rfl rfl rfl rfl (two_of HT_.out (by kernel_rfl)) (by decide) (by decide) (fun K hK => ?_) (fun K hK => ?_)
             ·skip
              refine Kd.R_make_step (Kd.int .i64) _ 3 (by rfl) (N := 25) rfl 23 _ _ rfl t90002 rfl rfl Try.underlying23 (.int .i64 0) 8 info3 rfl (by decide) (by omega) 0 (ok := fun _ => True) (okp := fun _ => True) rfl (fun _ hk => hk) trivial (of_decide_eq_true (by first | (with_reducible assumption) | assumption)) (Nat.le_trans (Nat.mul_le_mul_right _ (of_decide_eq_true (by first | (with_reducible assumption) | assumption) : t90002.toNat ≤ 35184372088832)) (by omega)) (Below.refl _ _) (Nat.le_refl _) ?_
              intro v90013 w22 ho23 hb hg_ hnew_
              clear hg_ hnew_
              (first | rw [← Ny90008.out] at ho23 | (simp only [Int.reduceToNat] at ho23; rw [← Ny90008.out] at ho23))
              have n0_ := Aside0.mk (Kd.R_elder' (by (with_reducible repeat (first | apply Kd.R_alloc | apply Kd.R_drewN | apply Kd.R_drew)); exact HO90016.out) (Kd.R_base ho23) hb)
              have n1_ := Aside0.mk (Kd.R_lower (Kd.R_new' ho23 (Kd.R_lt (by (with_reducible repeat (first | apply Kd.R_alloc | apply Kd.R_drewN | apply Kd.R_drew)); exact HO90016.out))) (below_size (by repeat (first | (with_reducible first | exact HB.out | apply below_alloc | apply pw_below_drewN | apply below_drew1 | refine below_set ?_ GE90010.out | refine below_set ?_ GE90011.out) | exact HB.out))))
              have n2_ := Aside0.mk (blk_below (g := gb90010) (o := .cells #[.int .i64 0, .int .i64 0, .slice none 0 0, .slice none 0 0] 25 (0, 0)) (by (with_reducible repeat (first | refine blk_drewN ?_ _ | refine blk_drew ?_ | refine blk_alloc ?_ _)); exact BK90010.out) hb)
              have n3_ := Aside0.mk (blk_below (g := gb90011) (o := .cells #[.int .i64 t90001, .int .i64 t90004, .int .i64 t90005, .int .i64 t90006] 88 (0, 0)) (by (with_reducible repeat (first | refine blk_drewN ?_ _ | refine blk_drew ?_ | refine blk_alloc ?_ _)); exact BK90011.out) hb)
              have n4_ := Aside0.mk (below_step (by repeat (first | (with_reducible first | exact HB.out | apply below_alloc | apply pw_below_drewN | apply below_drew1 | refine below_set ?_ GE90010.out | refine below_set ?_ GE90011.out) | exact HB.out)) hb)
              clear HO90016
              clear BK90010
              clear BK90011
              clear HB
              have HO90016 := n0_
              have HO90014 := n1_
              have BK90010 := n2_
              have BK90011 := n3_
              have HB := n4_
              clear n0_ n1_ n2_ n3_ n4_
              clear hb ho23
              obtain ⟨Ao24, co24, eo24⟩ := Kd.R_slice HO90016.out
              (first | subst eo24 | (injection eo24 with f1_ f2_ f3_; have f4_ := f1_.symm; have f5_ := f3_.symm; clear f1_ f2_ f3_; subst f4_; subst f5_))
              obtain ⟨Ao25, co25, eo25⟩ := Kd.R_slice HO90014.out
              (first | subst eo25 | (injection eo25 with f1_ f2_ f3_; have f4_ := f1_.symm; have f5_ := f3_.symm; clear f1_ f2_ f3_; subst f4_; subst f5_))
              refine hK.out _ _ ⟨(blk_cell BK90011.out 0).trans rfl, (blk_cell BK90011.out 1).trans rfl, (blk_cell BK90011.out 2).trans rfl, (blk_cell BK90011.out 3).trans rfl⟩ (fun hHeld => ?_)
              clear hK K
              refine norm_ (a' := ?_) ?_ ?_
              rotate_left
              ·show Act.put _ (some 25) _ = _
               simp only [Act.put, List.setIfInBounds_toArray, List.set_cons_zero, List.set_cons_succ, i64_w, i32_w]
               rfl
              refine pure_ (i := 9) (N := some 29) (v := ?_) (a' := ?_) #[true, true, true, true, true, true, true, true, true, true, false, false] rfl rfl (any_of HT_.out (by kernel_rfl)) (fun _ _ _ h => h) (Or.inl ⟨by rfl, ?_⟩) ?_ ?_
              rotate_left
              ·intro w'
               go_simp
               with_reducible rfl
              rotate_left
              ·simp only [Act.put, List.setIfInBounds_toArray, List.set_cons_zero, List.set_cons_succ, i64_w, i32_w]
               rfl
              exact norm_ (by first | (simp only [putAll, Act.put, List.setIfInBounds_toArray, List.set_cons_zero, List.set_cons_succ]; done) | (simp only [putAll, Act.put, List.setIfInBounds_toArray, List.set_cons_zero, List.set_cons_succ]; rfl)) (hJ4_5_7_8 (.slice Ao25 y90008.length co25, .slice Ao24 y90009.length co24) _ ⟨hHeld, (by (with_reducible repeat (first | apply Kd.R_alloc | apply Kd.R_drewN | apply Kd.R_drew)); exact Kd.R_mono HO90014.out (fun _ hk => hk.2)), (by (with_reducible repeat (first | apply Kd.R_alloc | apply Kd.R_drewN | apply Kd.R_drew)); exact Kd.R_mono HO90016.out (fun _ hk => hk.2)), (by (with_reducible repeat (first | refine blk_drewN ?_ _ | refine blk_drew ?_ | refine blk_alloc ?_ _)); exact BK90010.out), (by (with_reducible repeat (first | refine blk_drewN ?_ _ | refine blk_drew ?_ | refine blk_alloc ?_ _)); exact BK90011.out), (by repeat (first | (with_reducible first | exact HB.out | apply below_alloc | apply pw_below_drewN | apply below_drew1 | refine below_set ?_ GE90010.out | refine below_set ?_ GE90011.out) | exact HB.out))⟩)
             ·skip
              refine box_step ?hg (N := 6) ?hd (cs := #[.int .i64 0, .int .i64 0, .slice none 0 0, .slice none 0 0]) (t := 25) ?hr ?_; (case hd => rfl); (case hg => rfl); (case hr => first | (go_simp; done) | (go_simp; rfl))
              intro gb90012 hg w22 hbox hb
              have n0_ := Aside0.mk (Kd.R_below (by (with_reducible repeat (first | apply Kd.R_alloc | apply Kd.R_drewN | apply Kd.R_drew)); exact HO90016.out) hb)
              have n1_ := Aside0.mk (blk_below (g := gb90010) (o := .cells #[.int .i64 0, .int .i64 0, .slice none 0 0, .slice none 0 0] 25 (0, 0)) (by (with_reducible repeat (first | refine blk_drewN ?_ _ | refine blk_drew ?_ | refine blk_alloc ?_ _)); exact BK90010.out) hb)
              have n2_ := Aside0.mk (blk_below (g := gb90011) (o := .cells #[.int .i64 t90001, .int .i64 t90004, .int .i64 t90005, .int .i64 t90006] 88 (0, 0)) (by (with_reducible repeat (first | refine blk_drewN ?_ _ | refine blk_drew ?_ | refine blk_alloc ?_ _)); exact BK90011.out) hb)
              have n3_ := Aside0.mk (below_step (by repeat (first | (with_reducible first | exact HB.out | apply below_alloc | apply pw_below_drewN | apply below_drew1 | refine below_set ?_ GE90010.out | refine below_set ?_ GE90011.out) | exact HB.out)) hb)
              have n4_ := Aside0.mk (hbox)
              have n5_ := Aside0.mk ((by rw [hg]; exact (below_size (by repeat (first | (with_reducible first | exact HB.out | apply below_alloc | apply pw_below_drewN | apply below_drew1 | refine below_set ?_ GE90010.out | refine below_set ?_ GE90011.out) | exact HB.out))) : w.heap.size ≤ gb90012))
              have n6_ := Aside0.mk ((by rw [hg]; exact (below_size (by repeat (first | (with_reducible first | exact HB.out | apply below_alloc | apply pw_below_drewN | apply below_drew1 | refine below_set ?_ GE90010.out | refine below_set ?_ GE90011.out) | exact HB.out))) : w.heap.size ≤ gb90012))
              have n7_ := Aside0.mk ((by rw [hg]; exact Nat.ne_of_lt (blk_lt (g := gb90010) (o := .cells #[.int .i64 0, .int .i64 0, .slice none 0 0, .slice none 0 0] 25 (0, 0)) (by (with_reducible repeat (first | refine blk_drewN ?_ _ | refine blk_drew ?_ | refine blk_alloc ?_ _)); exact BK90010.out)) : gb90010 ≠ gb90012))
              have n8_ := Aside0.mk ((by rw [hg]; exact Nat.ne_of_gt (blk_lt (g := gb90010) (o := .cells #[.int .i64 0, .int .i64 0, .slice none 0 0, .slice none 0 0] 25 (0, 0)) (by (with_reducible repeat (first | refine blk_drewN ?_ _ | refine blk_drew ?_ | refine blk_alloc ?_ _)); exact BK90010.out)) : gb90012 ≠ gb90010))
              have n9_ := Aside0.mk ((by rw [hg]; exact Nat.ne_of_lt (blk_lt (g := gb90011) (o := .cells #[.int .i64 t90001, .int .i64 t90004, .int .i64 t90005, .int .i64 t90006] 88 (0, 0)) (by (with_reducible repeat (first | refine blk_drewN ?_ _ | refine blk_drew ?_ | refine blk_alloc ?_ _)); exact BK90011.out)) : gb90011 ≠ gb90012))
              have n10_ := Aside0.mk ((by rw [hg]; exact Nat.ne_of_gt (blk_lt (g := gb90011) (o := .cells #[.int .i64 t90001, .int .i64 t90004, .int .i64 t90005, .int .i64 t90006] 88 (0, 0)) (by (with_reducible repeat (first | refine blk_drewN ?_ _ | refine blk_drew ?_ | refine blk_alloc ?_ _)); exact BK90011.out)) : gb90012 ≠ gb90011))
              clear HO90016
              clear BK90010
              clear BK90011
              clear HB
              have HO90016 := n0_
              have BK90010 := n1_
              have BK90011 := n2_
              have HB := n3_
              have BK90012 := n4_
              have GW90012 := n5_
              have GE90012 := n6_
              have NB90010_90012 := n7_
              have NB90012_90010 := n8_
              have NB90011_90012 := n9_
              have NB90012_90011 := n10_
              clear n0_ n1_ n2_ n3_ n4_ n5_ n6_ n7_ n8_ n9_ n10_
              clear hb hbox hg
              refine hK.out _ _ ⟨(blk_cell BK90011.out 0).trans rfl, (blk_cell BK90011.out 1).trans rfl, (blk_cell BK90011.out 2).trans rfl, (blk_cell BK90011.out 3).trans rfl⟩ (fun hHeld => ?_)
              clear hK K
              refine norm_ (a' := ?_) ?_ ?_
              rotate_left
              ·show Act.put _ (some 6) _ = _
               simp only [Act.put, List.setIfInBounds_toArray, List.set_cons_zero, List.set_cons_succ, i64_w, i32_w]
               rfl
              exact norm_ (by first | (simp only [putAll, Act.put, List.setIfInBounds_toArray, List.set_cons_zero, List.set_cons_succ]; done) | (simp only [putAll, Act.put, List.setIfInBounds_toArray, List.set_cons_zero, List.set_cons_succ]; rfl)) (hJ4_7_8_10 (v90015, gb90012) _ ⟨hHeld, (by (with_reducible repeat (first | apply Kd.R_alloc | apply Kd.R_drewN | apply Kd.R_drew)); exact HO90016.out), (by (with_reducible repeat (first | refine blk_drewN ?_ _ | refine blk_drew ?_ | refine blk_alloc ?_ _)); exact BK90010.out), (by (with_reducible repeat (first | refine blk_drewN ?_ _ | refine blk_drew ?_ | refine blk_alloc ?_ _)); exact BK90011.out), (by (with_reducible repeat (first | refine blk_drewN ?_ _ | refine blk_drew ?_ | refine blk_alloc ?_ _)); exact BK90012.out), GW90012.out, GE90012.out, NB90010_90012.out, NB90012_90010.out, NB90011_90012.out, NB90012_90011.out, (by repeat (first | (with_reducible first | exact HB.out | apply below_alloc | apply pw_below_drewN | apply below_drew1 | refine below_set ?_ GE90010.out | refine below_set ?_ GE90011.out | refine below_set ?_ GE90012.out) | exact HB.out))⟩)
           ·skip
            rintro ⟨v90013, gb90012⟩ w21 ⟨hS_, h0_, h1_, h2_, h3_, h4_, h5_, h6_, h7_, h8_, h9_, h10_⟩
            have n0_ : Aside0 (Kd.R (Kd.int .i64) 3 w21 w.heap.size (fun _ => True) v90013 y90008) := ⟨h0_⟩
            have n1_ : Aside0 (w21.heap[gb90010]? = some (.cells #[.int .i64 0, .int .i64 0, .slice none 0 0, .slice none 0 0] 25 (0, 0))) := ⟨h1_⟩
            have n2_ : Aside0 (w21.heap[gb90011]? = some (.cells #[.int .i64 t90001, .int .i64 t90004, .int .i64 t90005, .int .i64 t90006] 88 (0, 0))) := ⟨h2_⟩
            have n3_ : Aside0 (w21.heap[gb90012]? = some (.cells #[.int .i64 0, .int .i64 0, .slice none 0 0, .slice none 0 0] 25 (0, 0))) := ⟨h3_⟩
            have n4_ : Aside0 (w.heap.size ≤ gb90012) := ⟨h4_⟩
            have n5_ : Aside0 (w.heap.size ≤ gb90012) := ⟨h5_⟩
            have n6_ : Aside0 (gb90010 ≠ gb90012) := ⟨h6_⟩
            have n7_ : Aside0 (gb90012 ≠ gb90010) := ⟨h7_⟩
            have n8_ : Aside0 (gb90011 ≠ gb90012) := ⟨h8_⟩
            have n9_ : Aside0 (gb90012 ≠ gb90011) := ⟨h9_⟩
            have n10_ : Aside0 (Below w.heap.size w w21) := ⟨h10_⟩
            clear BK90010
            clear BK90011
            clear HB
            clear h0_ h1_ h2_ h3_ h4_ h5_ h6_ h7_ h8_ h9_ h10_
            have HO90014 := n0_
            have BK90010 := n1_
            have BK90011 := n2_
            have BK90012 := n3_
            have GW90012 := n4_
            have GE90012 := n5_
            have NB90010_90012 := n6_
            have NB90012_90010 := n7_
            have NB90011_90012 := n8_
            have NB90012_90011 := n9_
            have HB := n10_
            clear n0_ n1_ n2_ n3_ n4_ n5_ n6_ n7_ n8_ n9_ n10_
            have hHeld : w21.cell? ⟨gb90011, 0, none⟩ = some (.int .i64 t90001) ∧ w21.cell? ⟨gb90011, 1, none⟩ = some (.int .i64 t90004) ∧ w21.cell? ⟨gb90011, 2, none⟩ = some (.int .i64 t90005) ∧ w21.cell? ⟨gb90011, 3, none⟩ = some (.int .i64 t90006) := hS_
            refine norm_ (a' := ?_) ?_ ?_
            rotate_left
            ·simp only [putAll, Act.put, List.setIfInBounds_toArray, List.set_cons_zero, List.set_cons_succ]
             rfl
            refine one_ (i := 7) (N := some 27) #[true, true, true, true, true, true, true, true, false, false, true, false] rfl rfl (one_of HT_.out (by kernel_rfl)) (by decide) (fun K hK => ?_)
            refine goes_ Try.func53 (by kernel_rfl) rfl #[.agg #[.int .i64 t90001, .int .i64 t90004, .int .i64 t90005, .int .i64 t90006]] (by rfl) rfl rfl (by (try simp only [List.map_toArray, List.map_cons, List.map_nil]); first | done | rfl | (simp only [List.length_drop, List.length_take]; rfl)) ?_
            with_reducible refine (book_kind_many.calls k t90001 t90004 t90005 t90006 t90003 _ A7.out).mono ?_
            rintro e w22 ⟨rfl, hb⟩
            refine ⟨_, rfl, ?_⟩
            have n0_ := Aside0.mk (Kd.R_below (by (with_reducible repeat (first | apply Kd.R_alloc | apply Kd.R_drewN | apply Kd.R_drew)); exact HO90014.out) hb)
            have n1_ := Aside0.mk (blk_below (g := gb90010) (o := .cells #[.int .i64 0, .int .i64 0, .slice none 0 0, .slice none 0 0] 25 (0, 0)) (by (with_reducible repeat (first | refine blk_drewN ?_ _ | refine blk_drew ?_ | refine blk_alloc ?_ _)); exact BK90010.out) hb)
            have n2_ := Aside0.mk (blk_below (g := gb90011) (o := .cells #[.int .i64 t90001, .int .i64 t90004, .int .i64 t90005, .int .i64 t90006] 88 (0, 0)) (by (with_reducible repeat (first | refine blk_drewN ?_ _ | refine blk_drew ?_ | refine blk_alloc ?_ _)); exact BK90011.out) hb)
            have n3_ := Aside0.mk (blk_below (g := gb90012) (o := .cells #[.int .i64 0, .int .i64 0, .slice none 0 0, .slice none 0 0] 25 (0, 0)) (by (with_reducible repeat (first | refine blk_drewN ?_ _ | refine blk_drew ?_ | refine blk_alloc ?_ _)); exact BK90012.out) hb)
            have n4_ := Aside0.mk (below_step (by repeat (first | (with_reducible first | exact HB.out | apply below_alloc | apply pw_below_drewN | apply below_drew1 | refine below_set ?_ GE90010.out | refine below_set ?_ GE90011.out | refine below_set ?_ GE90012.out) | exact HB.out)) hb)
            clear HO90014
            clear BK90010
            clear BK90011
            clear BK90012
            clear HB
            have HO90014 := n0_
            have BK90010 := n1_
            have BK90011 := n2_
            have BK90012 := n3_
            have HB := n4_
            clear n0_ n1_ n2_ n3_ n4_
            (try clear hb)
            (try clear hb2)
            (try clear hk)
            (try clear hi)
            refine hK.out _ _ ⟨(blk_cell BK90011.out 0).trans rfl, (blk_cell BK90011.out 1).trans rfl, (blk_cell BK90011.out 2).trans rfl, (blk_cell BK90011.out 3).trans rfl⟩ (fun hHeld => ?_)
            clear hK K
            refine norm_ (a' := ?_) ?_ ?_
            rotate_left
            ·show Act.put _ (some 27) _ = _
             simp only [Act.put, List.setIfInBounds_toArray, List.set_cons_zero, List.set_cons_succ, i64_w, i32_w]
             rfl
            exact norm_ (by first | (simp only [putAll, Act.put, List.setIfInBounds_toArray, List.set_cons_zero, List.set_cons_succ]; done) | (simp only [putAll, Act.put, List.setIfInBounds_toArray, List.set_cons_zero, List.set_cons_succ]; rfl)) (hJ4_5_7_10 (v90013, gb90012) _ ⟨hHeld, (by (with_reducible repeat (first | apply Kd.R_alloc | apply Kd.R_drewN | apply Kd.R_drew)); exact HO90014.out), (by (with_reducible repeat (first | refine blk_drewN ?_ _ | refine blk_drew ?_ | refine blk_alloc ?_ _)); exact BK90010.out), (by (with_reducible repeat (first | refine blk_drewN ?_ _ | refine blk_drew ?_ | refine blk_alloc ?_ _)); exact BK90011.out), (by (with_reducible repeat (first | refine blk_drewN ?_ _ | refine blk_drew ?_ | refine blk_alloc ?_ _)); exact BK90012.out), GW90012.out, GE90012.out, NB90010_90012.out, NB90012_90010.out, NB90011_90012.out, NB90012_90011.out, (by repeat (first | (with_reducible first | exact HB.out | apply below_alloc | apply pw_below_drewN | apply below_drew1 | refine below_set ?_ GE90010.out | refine below_set ?_ GE90011.out | refine below_set ?_ GE90012.out) | exact HB.out))⟩)
          ·skip
           rintro v90013 w21 ⟨hS_, h0_, h1_, h2_, h3_⟩
           have n0_ : Aside0 (Kd.R (Kd.int .i64) 3 w21 w.heap.size (fun _ => True) v90013 y90008) := ⟨h0_⟩
           have n1_ : Aside0 (w21.heap[gb90010]? = some (.cells #[.int .i64 0, .int .i64 0, .slice none 0 0, .slice none 0 0] 25 (0, 0))) := ⟨h1_⟩
           have n2_ : Aside0 (w21.heap[gb90011]? = some (.cells #[.int .i64 t90001, .int .i64 t90004, .int .i64 t90005, .int .i64 t90006] 88 (0, 0))) := ⟨h2_⟩
           have n3_ : Aside0 (Below w.heap.size w w21) := ⟨h3_⟩
           clear BK90010
           clear BK90011
           clear HB
           clear h0_ h1_ h2_ h3_
           have HO90014 := n0_
           have BK90010 := n1_
           have BK90011 := n2_
           have HB := n3_
           clear n0_ n1_ n2_ n3_
           have hHeld : w21.cell? ⟨gb90011, 0, none⟩ = some (.int .i64 t90001) ∧ w21.cell? ⟨gb90011, 1, none⟩ = some (.int .i64 t90004) ∧ w21.cell? ⟨gb90011, 2, none⟩ = some (.int .i64 t90005) ∧ w21.cell? ⟨gb90011, 3, none⟩ = some (.int .i64 t90006) := hS_
           refine norm_ (a' := ?_) ?_ ?_
           rotate_left
           ·simp only [putAll, Act.put, List.setIfInBounds_toArray, List.set_cons_zero, List.set_cons_succ]
            rfl
           refine two_ (i := 8) (j := 10) (Ni := some 28) (Nj := some 6) #[true, true, true, true, true, true, true, true, true, false, false, false] #[true, true, true, true, true, true, true, true, false, false, true, false] rfl rfl rfl rfl (two_of HT_.out (by kernel_rfl)) (by decide) (by decide) (fun K hK => ?_) (fun K hK => ?_)
           ·skip
            refine Kd.R_make_step (Kd.int .i64) _ 3 (by rfl) (N := 28) rfl 23 _ _ rfl t90003 rfl rfl Try.underlying23 (.int .i64 0) 8 info3 rfl (by decide) (by omega) 0 (ok := fun _ => True) (okp := fun _ => True) rfl (fun _ hk => hk) trivial (of_decide_eq_true (by first | (with_reducible assumption) | assumption)) (Nat.le_trans (Nat.mul_le_mul_right _ (of_decide_eq_true (by first | (with_reducible assumption) | assumption) : t90003.toNat ≤ 35184372088832)) (by omega)) (Below.refl _ _) (Nat.le_refl _) ?_
            intro v90015 w22 ho23 hb hg_ hnew_
            clear hg_ hnew_
            (first | rw [← Ny90009.out] at ho23 | (simp only [Int.reduceToNat] at ho23; rw [← Ny90009.out] at ho23))
            have n0_ := Aside0.mk (Kd.R_elder' (by (with_reducible repeat (first | apply Kd.R_alloc | apply Kd.R_drewN | apply Kd.R_drew)); exact HO90014.out) (Kd.R_base ho23) hb)
            have n1_ := Aside0.mk (Kd.R_lower (Kd.R_new' ho23 (Kd.R_lt (by (with_reducible repeat (first | apply Kd.R_alloc | apply Kd.R_drewN | apply Kd.R_drew)); exact HO90014.out))) (below_size (by repeat (first | (with_reducible first | exact HB.out | apply below_alloc | apply pw_below_drewN | apply below_drew1 | refine below_set ?_ GE90010.out | refine below_set ?_ GE90011.out) | exact HB.out))))
            have n2_ := Aside0.mk (blk_below (g := gb90010) (o := .cells #[.int .i64 0, .int .i64 0, .slice none 0 0, .slice none 0 0] 25 (0, 0)) (by (with_reducible repeat (first | refine blk_drewN ?_ _ | refine blk_drew ?_ | refine blk_alloc ?_ _)); exact BK90010.out) hb)
            have n3_ := Aside0.mk (blk_below (g := gb90011) (o := .cells #[.int .i64 t90001, .int .i64 t90004, .int .i64 t90005, .int .i64 t90006] 88 (0, 0)) (by (with_reducible repeat (first | refine blk_drewN ?_ _ | refine blk_drew ?_ | refine blk_alloc ?_ _)); exact BK90011.out) hb)
            have n4_ := Aside0.mk (below_step (by repeat (first | (with_reducible first | exact HB.out | apply below_alloc | apply pw_below_drewN | apply below_drew1 | refine below_set ?_ GE90010.out | refine below_set ?_ GE90011.out) | exact HB.out)) hb)
            clear HO90014
            clear BK90010
            clear BK90011
            clear HB
            have HO90014 := n0_
            have HO90016 := n1_
            have BK90010 := n2_
            have BK90011 := n3_
            have HB := n4_
            clear n0_ n1_ n2_ n3_ n4_
            clear hb ho23
            obtain ⟨Ao24, co24, eo24⟩ := Kd.R_slice HO90016.out
            (first | subst eo24 | (injection eo24 with f1_ f2_ f3_; have f4_ := f1_.symm; have f5_ := f3_.symm; clear f1_ f2_ f3_; subst f4_; subst f5_))
            obtain ⟨Ao25, co25, eo25⟩ := Kd.R_slice HO90014.out
            (first | subst eo25 | (injection eo25 with f1_ f2_ f3_; have f4_ := f1_.symm; have f5_ := f3_.symm; clear f1_ f2_ f3_; subst f4_; subst f5_))
            refine hK.out _ _ ⟨(blk_cell BK90011.out 0).trans rfl, (blk_cell BK90011.out 1).trans rfl, (blk_cell BK90011.out 2).trans rfl, (blk_cell BK90011.out 3).trans rfl⟩ (fun hHeld => ?_)
            clear hK K
            refine norm_ (a' := ?_) ?_ ?_
            rotate_left
            ·show Act.put _ (some 28) _ = _
             simp only [Act.put, List.setIfInBounds_toArray, List.set_cons_zero, List.set_cons_succ, i64_w, i32_w]
             rfl
            refine pure_ (i := 9) (N := some 29) (v := ?_) (a' := ?_) #[true, true, true, true, true, true, true, true, true, true, false, false] rfl rfl (any_of HT_.out (by kernel_rfl)) (fun _ _ _ h => h) (Or.inl ⟨by rfl, ?_⟩) ?_ ?_
            rotate_left
            ·intro w'
             go_simp
             with_reducible rfl
            rotate_left
            ·simp only [Act.put, List.setIfInBounds_toArray, List.set_cons_zero, List.set_cons_succ, i64_w, i32_w]
             rfl
            exact norm_ (by first | (simp only [putAll, Act.put, List.setIfInBounds_toArray, List.set_cons_zero, List.set_cons_succ]; done) | (simp only [putAll, Act.put, List.setIfInBounds_toArray, List.set_cons_zero, List.set_cons_succ]; rfl)) (hJ4_5_7_8 (.slice Ao25 y90008.length co25, .slice Ao24 y90009.length co24) _ ⟨hHeld, (by (with_reducible repeat (first | apply Kd.R_alloc | apply Kd.R_drewN | apply Kd.R_drew)); exact Kd.R_mono HO90014.out (fun _ hk => hk.2)), (by (with_reducible repeat (first | apply Kd.R_alloc | apply Kd.R_drewN | apply Kd.R_drew)); exact Kd.R_mono HO90016.out (fun _ hk => hk.2)), (by (with_reducible repeat (first | refine blk_drewN ?_ _ | refine blk_drew ?_ | refine blk_alloc ?_ _)); exact BK90010.out), (by (with_reducible repeat (first | refine blk_drewN ?_ _ | refine blk_drew ?_ | refine blk_alloc ?_ _)); exact BK90011.out), (by repeat (first | (with_reducible first | exact HB.out | apply below_alloc | apply pw_below_drewN | apply below_drew1 | refine below_set ?_ GE90010.out | refine below_set ?_ GE90011.out) | exact HB.out))⟩)
           ·skip
            refine box_step ?hg (N := 6) ?hd (cs := #[.int .i64 0, .int .i64 0, .slice none 0 0, .slice none 0 0]) (t := 25) ?hr ?_; (case hd => rfl); (case hg => rfl); (case hr => first | (go_simp; done) | (go_simp; rfl))
            intro gb90012 hg w22 hbox hb
            have n0_ := Aside0.mk (Kd.R_below (by (with_reducible repeat (first | apply Kd.R_alloc | apply Kd.R_drewN | apply Kd.R_drew)); exact HO90014.out) hb)
            have n1_ := Aside0.mk (blk_below (g := gb90010) (o := .cells #[.int .i64 0, .int .i64 0, .slice none 0 0, .slice none 0 0] 25 (0, 0)) (by (with_reducible repeat (first | refine blk_drewN ?_ _ | refine blk_drew ?_ | refine blk_alloc ?_ _)); exact BK90010.out) hb)
            have n2_ := Aside0.mk (blk_below (g := gb90011) (o := .cells #[.int .i64 t90001, .int .i64 t90004, .int .i64 t90005, .int .i64 t90006] 88 (0, 0)) (by (with_reducible repeat (first | refine blk_drewN ?_ _ | refine blk_drew ?_ | refine blk_alloc ?_ _)); exact BK90011.out) hb)
            have n3_ := Aside0.mk (below_step (by repeat (first | (with_reducible first | exact HB.out | apply below_alloc | apply pw_below_drewN | apply below_drew1 | refine below_set ?_ GE90010.out | refine below_set ?_ GE90011.out) | exact HB.out)) hb)
            have n4_ := Aside0.mk (hbox)
            have n5_ := Aside0.mk ((by rw [hg]; exact (below_size (by repeat (first | (with_reducible first | exact HB.out | apply below_alloc | apply pw_below_drewN | apply below_drew1 | refine below_set ?_ GE90010.out | refine below_set ?_ GE90011.out) | exact HB.out))) : w.heap.size ≤ gb90012))
            have n6_ := Aside0.mk ((by rw [hg]; exact (below_size (by repeat (first | (with_reducible first | exact HB.out | apply below_alloc | apply pw_below_drewN | apply below_drew1 | refine below_set ?_ GE90010.out | refine below_set ?_ GE90011.out) | exact HB.out))) : w.heap.size ≤ gb90012))
            have n7_ := Aside0.mk ((by rw [hg]; exact Nat.ne_of_lt (blk_lt (g := gb90010) (o := .cells #[.int .i64 0, .int .i64 0, .slice none 0 0, .slice none 0 0] 25 (0, 0)) (by (with_reducible repeat (first | refine blk_drewN ?_ _ | refine blk_drew ?_ | refine blk_alloc ?_ _)); exact BK90010.out)) : gb90010 ≠ gb90012))
            have n8_ := Aside0.mk ((by rw [hg]; exact Nat.ne_of_gt (blk_lt (g := gb90010) (o := .cells #[.int .i64 0, .int .i64 0, .slice none 0 0, .slice none 0 0] 25 (0, 0)) (by (with_reducible repeat (first | refine blk_drewN ?_ _ | refine blk_drew ?_ | refine blk_alloc ?_ _)); exact BK90010.out)) : gb90012 ≠ gb90010))
            have n9_ := Aside0.mk ((by rw [hg]; exact Nat.ne_of_lt (blk_lt (g := gb90011) (o := .cells #[.int .i64 t90001, .int .i64 t90004, .int .i64 t90005, .int .i64 t90006] 88 (0, 0)) (by (with_reducible repeat (first | refine blk_drewN ?_ _ | refine blk_drew ?_ | refine blk_alloc ?_ _)); exact BK90011.out)) : gb90011 ≠ gb90012))
            have n10_ := Aside0.mk ((by rw [hg]; exact Nat.ne_of_gt (blk_lt (g := gb90011) (o := .cells #[.int .i64 t90001, .int .i64 t90004, .int .i64 t90005, .int .i64 t90006] 88 (0, 0)) (by (with_reducible repeat (first | refine blk_drewN ?_ _ | refine blk_drew ?_ | refine blk_alloc ?_ _)); exact BK90011.out)) : gb90012 ≠ gb90011))
            clear HO90014
            clear BK90010
            clear BK90011
            clear HB
            have HO90014 := n0_
            have BK90010 := n1_
            have BK90011 := n2_
            have HB := n3_
            have BK90012 := n4_
            have GW90012 := n5_
            have GE90012 := n6_
            have NB90010_90012 := n7_
            have NB90012_90010 := n8_
            have NB90011_90012 := n9_
            have NB90012_90011 := n10_
            clear n0_ n1_ n2_ n3_ n4_ n5_ n6_ n7_ n8_ n9_ n10_
            clear hb hbox hg
            refine hK.out _ _ ⟨(blk_cell BK90011.out 0).trans rfl, (blk_cell BK90011.out 1).trans rfl, (blk_cell BK90011.out 2).trans rfl, (blk_cell BK90011.out 3).trans rfl⟩ (fun hHeld => ?_)
            clear hK K
            refine norm_ (a' := ?_) ?_ ?_
            rotate_left
            ·show Act.put _ (some 6) _ = _
             simp only [Act.put, List.setIfInBounds_toArray, List.set_cons_zero, List.set_cons_succ, i64_w, i32_w]
             rfl
            exact norm_ (by first | (simp only [putAll, Act.put, List.setIfInBounds_toArray, List.set_cons_zero, List.set_cons_succ]; done) | (simp only [putAll, Act.put, List.setIfInBounds_toArray, List.set_cons_zero, List.set_cons_succ]; rfl)) (hJ4_5_7_10 (v90013, gb90012) _ ⟨hHeld, (by (with_reducible repeat (first | apply Kd.R_alloc | apply Kd.R_drewN | apply Kd.R_drew)); exact HO90014.out), (by (with_reducible repeat (first | refine blk_drewN ?_ _ | refine blk_drew ?_ | refine blk_alloc ?_ _)); exact BK90010.out), (by (with_reducible repeat (first | refine blk_drewN ?_ _ | refine blk_drew ?_ | refine blk_alloc ?_ _)); exact BK90011.out), (by (with_reducible repeat (first | refine blk_drewN ?_ _ | refine blk_drew ?_ | refine blk_alloc ?_ _)); exact BK90012.out), GW90012.out, GE90012.out, NB90010_90012.out, NB90012_90010.out, NB90011_90012.out, NB90012_90011.out, (by repeat (first | (with_reducible first | exact HB.out | apply below_alloc | apply pw_below_drewN | apply below_drew1 | refine below_set ?_ GE90010.out | refine below_set ?_ GE90011.out | refine below_set ?_ GE90012.out) | exact HB.out))⟩)
         ·skip
          rintro ⟨v90015, gb90012⟩ w22 ⟨hS_, h0_, h1_, h2_, h3_, h4_, h5_, h6_, h7_, h8_, h9_, h10_⟩
          have n0_ : Aside0 (Kd.R (Kd.int .i64) 3 w22 w.heap.size (fun _ => True) v90015 y90009) := ⟨h0_⟩
          have n1_ : Aside0 (w22.heap[gb90010]? = some (.cells #[.int .i64 0, .int .i64 0, .slice none 0 0, .slice none 0 0] 25 (0, 0))) := ⟨h1_⟩
          have n2_ : Aside0 (w22.heap[gb90011]? = some (.cells #[.int .i64 t90001, .int .i64 t90004, .int .i64 t90005, .int .i64 t90006] 88 (0, 0))) := ⟨h2_⟩
          have n3_ : Aside0 (w22.heap[gb90012]? = some (.cells #[.int .i64 0, .int .i64 0, .slice none 0 0, .slice none 0 0] 25 (0, 0))) := ⟨h3_⟩
          have n4_ : Aside0 (w.heap.size ≤ gb90012) := ⟨h4_⟩
          have n5_ : Aside0 (w.heap.size ≤ gb90012) := ⟨h5_⟩
          have n6_ : Aside0 (gb90010 ≠ gb90012) := ⟨h6_⟩
          have n7_ : Aside0 (gb90012 ≠ gb90010) := ⟨h7_⟩
          have n8_ : Aside0 (gb90011 ≠ gb90012) := ⟨h8_⟩
          have n9_ : Aside0 (gb90012 ≠ gb90011) := ⟨h9_⟩
          have n10_ : Aside0 (Below w.heap.size w w22) := ⟨h10_⟩
          clear BK90010
          clear BK90011
          clear HB
          clear h0_ h1_ h2_ h3_ h4_ h5_ h6_ h7_ h8_ h9_ h10_
          have HO90016 := n0_
          have BK90010 := n1_
          have BK90011 := n2_
          have BK90012 := n3_
          have GW90012 := n4_
          have GE90012 := n5_
          have NB90010_90012 := n6_
          have NB90012_90010 := n7_
          have NB90011_90012 := n8_
          have NB90012_90011 := n9_
          have HB := n10_
          clear n0_ n1_ n2_ n3_ n4_ n5_ n6_ n7_ n8_ n9_ n10_
          have hHeld : w22.cell? ⟨gb90011, 0, none⟩ = some (.int .i64 t90001) ∧ w22.cell? ⟨gb90011, 1, none⟩ = some (.int .i64 t90004) ∧ w22.cell? ⟨gb90011, 2, none⟩ = some (.int .i64 t90005) ∧ w22.cell? ⟨gb90011, 3, none⟩ = some (.int .i64 t90006) := hS_
          refine norm_ (a' := ?_) ?_ ?_
          rotate_left
          ·simp only [putAll, Act.put, List.setIfInBounds_toArray, List.set_cons_zero, List.set_cons_succ]
           rfl
          refine one_ (i := 5) (N := some 25) #[true, true, true, true, true, true, true, true, true, false, true, false] rfl rfl (one_of HT_.out (by kernel_rfl)) (by decide) (fun K hK => ?_)
          refine Kd.R_make_step (Kd.int .i64) _ 3 (by rfl) (N := 25) rfl 23 _ _ rfl t90002 rfl rfl Try.underlying23 (.int .i64 0) 8 info3 rfl (by decide) (by omega) 0 (ok := fun _ => True) (okp := fun _ => True) rfl (fun _ hk => hk) trivial (of_decide_eq_true (by first | (with_reducible assumption) | assumption)) (Nat.le_trans (Nat.mul_le_mul_right _ (of_decide_eq_true (by first | (with_reducible assumption) | assumption) : t90002.toNat ≤ 35184372088832)) (by omega)) (Below.refl _ _) (Nat.le_refl _) ?_
          intro v90013 w23 ho24 hb hg_ hnew_
          clear hg_ hnew_
          (first | rw [← Ny90008.out] at ho24 | (simp only [Int.reduceToNat] at ho24; rw [← Ny90008.out] at ho24))
          have n0_ := Aside0.mk (Kd.R_elder' (by (with_reducible repeat (first | apply Kd.R_alloc | apply Kd.R_drewN | apply Kd.R_drew)); exact HO90016.out) (Kd.R_base ho24) hb)
          have n1_ := Aside0.mk (Kd.R_lower (Kd.R_new' ho24 (Kd.R_lt (by (with_reducible repeat (first | apply Kd.R_alloc | apply Kd.R_drewN | apply Kd.R_drew)); exact HO90016.out))) (below_size (by repeat (first | (with_reducible first | exact HB.out | apply below_alloc | apply pw_below_drewN | apply below_drew1 | refine below_set ?_ GE90010.out | refine below_set ?_ GE90011.out | refine below_set ?_ GE90012.out) | exact HB.out))))
          have n2_ := Aside0.mk (blk_below (g := gb90010) (o := .cells #[.int .i64 0, .int .i64 0, .slice none 0 0, .slice none 0 0] 25 (0, 0)) (by (with_reducible repeat (first | refine blk_drewN ?_ _ | refine blk_drew ?_ | refine blk_alloc ?_ _)); exact BK90010.out) hb)
          have n3_ := Aside0.mk (blk_below (g := gb90011) (o := .cells #[.int .i64 t90001, .int .i64 t90004, .int .i64 t90005, .int .i64 t90006] 88 (0, 0)) (by (with_reducible repeat (first | refine blk_drewN ?_ _ | refine blk_drew ?_ | refine blk_alloc ?_ _)); exact BK90011.out) hb)
          have n4_ := Aside0.mk (blk_below (g := gb90012) (o := .cells #[.int .i64 0, .int .i64 0, .slice none 0 0, .slice none 0 0] 25 (0, 0)) (by (with_reducible repeat (first | refine blk_drewN ?_ _ | refine blk_drew ?_ | refine blk_alloc ?_ _)); exact BK90012.out) hb)
          have n5_ := Aside0.mk (below_step (by repeat (first | (with_reducible first | exact HB.out | apply below_alloc | apply pw_below_drewN | apply below_drew1 | refine below_set ?_ GE90010.out | refine below_set ?_ GE90011.out | refine below_set ?_ GE90012.out) | exact HB.out)) hb)
          clear HO90016
          clear BK90010
          clear BK90011
          clear BK90012
          clear HB
          have HO90016 := n0_
          have HO90014 := n1_
          have BK90010 := n2_
          have BK90011 := n3_
          have BK90012 := n4_
          have HB := n5_
          clear n0_ n1_ n2_ n3_ n4_ n5_
          clear hb ho24
          obtain ⟨Ao25, co25, eo25⟩ := Kd.R_slice HO90016.out
          (first | subst eo25 | (injection eo25 with f1_ f2_ f3_; have f4_ := f1_.symm; have f5_ := f3_.symm; clear f1_ f2_ f3_; subst f4_; subst f5_))
          obtain ⟨Ao26, co26, eo26⟩ := Kd.R_slice HO90014.out
          (first | subst eo26 | (injection eo26 with f1_ f2_ f3_; have f4_ := f1_.symm; have f5_ := f3_.symm; clear f1_ f2_ f3_; subst f4_; subst f5_))
          refine hK.out _ _ ⟨(blk_cell BK90011.out 0).trans rfl, (blk_cell BK90011.out 1).trans rfl, (blk_cell BK90011.out 2).trans rfl, (blk_cell BK90011.out 3).trans rfl⟩ (fun hHeld => ?_)
          clear hK K
          refine norm_ (a' := ?_) ?_ ?_
          rotate_left
          ·show Act.put _ (some 25) _ = _
           simp only [Act.put, List.setIfInBounds_toArray, List.set_cons_zero, List.set_cons_succ, i64_w, i32_w]
           rfl
          refine pure_ (i := 9) (N := some 29) (v := ?_) (a' := ?_) #[true, true, true, true, true, true, true, true, true, true, true, false] rfl rfl (any_of HT_.out (by kernel_rfl)) (fun _ _ _ h => h) (Or.inl ⟨by rfl, ?_⟩) ?_ ?_
          rotate_left
          ·intro w'
           go_simp
           with_reducible rfl
          rotate_left
          ·simp only [Act.put, List.setIfInBounds_toArray, List.set_cons_zero, List.set_cons_succ, i64_w, i32_w]
           rfl
          exact norm_ (by first | (simp only [putAll, Act.put, List.setIfInBounds_toArray, List.set_cons_zero, List.set_cons_succ]; done) | (simp only [putAll, Act.put, List.setIfInBounds_toArray, List.set_cons_zero, List.set_cons_succ]; rfl)) (hJ4_5_7_8_10 (.slice Ao26 y90008.length co26, .slice Ao25 y90009.length co25, gb90012) _ ⟨hHeld, (by (with_reducible repeat (first | apply Kd.R_alloc | apply Kd.R_drewN | apply Kd.R_drew)); exact Kd.R_mono HO90014.out (fun _ hk => hk.2)), (by (with_reducible repeat (first | apply Kd.R_alloc | apply Kd.R_drewN | apply Kd.R_drew)); exact Kd.R_mono HO90016.out (fun _ hk => hk.2)), (by (with_reducible repeat (first | refine blk_drewN ?_ _ | refine blk_drew ?_ | refine blk_alloc ?_ _)); exact BK90010.out), (by (with_reducible repeat (first | refine blk_drewN ?_ _ | refine blk_drew ?_ | refine blk_alloc ?_ _)); exact BK90011.out), (by (with_reducible repeat (first | refine blk_drewN ?_ _ | refine blk_drew ?_ | refine blk_alloc ?_ _)); exact BK90012.out), GW90012.out, GE90012.out, NB90010_90012.out, NB90012_90010.out, NB90011_90012.out, NB90012_90011.out, (by repeat (first | (with_reducible first | exact HB.out | apply below_alloc | apply pw_below_drewN | apply below_drew1 | refine below_set ?_ GE90010.out | refine below_set ?_ GE90011.out | refine below_set ?_ GE90012.out) | exact HB.out))⟩)
        ·skip
         rintro ⟨v90013, gb90012⟩ w22 ⟨hS_, h0_, h1_, h2_, h3_, h4_, h5_, h6_, h7_, h8_, h9_, h10_⟩
         have n0_ : Aside0 (Kd.R (Kd.int .i64) 3 w22 w.heap.size (fun _ => True) v90013 y90008) := ⟨h0_⟩
         have n1_ : Aside0 (w22.heap[gb90010]? = some (.cells #[.int .i64 0, .int .i64 0, .slice none 0 0, .slice none 0 0] 25 (0, 0))) := ⟨h1_⟩
         have n2_ : Aside0 (w22.heap[gb90011]? = some (.cells #[.int .i64 t90001, .int .i64 t90004, .int .i64 t90005, .int .i64 t90006] 88 (0, 0))) := ⟨h2_⟩
         have n3_ : Aside0 (w22.heap[gb90012]? = some (.cells #[.int .i64 0, .int .i64 0, .slice none 0 0, .slice none 0 0] 25 (0, 0))) := ⟨h3_⟩
         have n4_ : Aside0 (w.heap.size ≤ gb90012) := ⟨h4_⟩
         have n5_ : Aside0 (w.heap.size ≤ gb90012) := ⟨h5_⟩
         have n6_ : Aside0 (gb90010 ≠ gb90012) := ⟨h6_⟩
         have n7_ : Aside0 (gb90012 ≠ gb90010) := ⟨h7_⟩
         have n8_ : Aside0 (gb90011 ≠ gb90012) := ⟨h8_⟩
         have n9_ : Aside0 (gb90012 ≠ gb90011) := ⟨h9_⟩
         have n10_ : Aside0 (Below w.heap.size w w22) := ⟨h10_⟩
         clear BK90010
         clear BK90011
         clear HB
         clear h0_ h1_ h2_ h3_ h4_ h5_ h6_ h7_ h8_ h9_ h10_
         have HO90014 := n0_
         have BK90010 := n1_
         have BK90011 := n2_
         have BK90012 := n3_
         have GW90012 := n4_
         have GE90012 := n5_
         have NB90010_90012 := n6_
         have NB90012_90010 := n7_
         have NB90011_90012 := n8_
         have NB90012_90011 := n9_
         have HB := n10_
         clear n0_ n1_ n2_ n3_ n4_ n5_ n6_ n7_ n8_ n9_ n10_
         have hHeld : w22.cell? ⟨gb90011, 0, none⟩ = some (.int .i64 t90001) ∧ w22.cell? ⟨gb90011, 1, none⟩ = some (.int .i64 t90004) ∧ w22.cell? ⟨gb90011, 2, none⟩ = some (.int .i64 t90005) ∧ w22.cell? ⟨gb90011, 3, none⟩ = some (.int .i64 t90006) := hS_
         refine norm_ (a' := ?_) ?_ ?_
         rotate_left
         ·simp only [putAll, Act.put, List.setIfInBounds_toArray, List.set_cons_zero, List.set_cons_succ]
          rfl
         refine one_ (i := 8) (N := some 28) #[true, true, true, true, true, true, true, true, true, false, true, false] rfl rfl (one_of HT_.out (by kernel_rfl)) (by decide) (fun K hK => ?_)
         refine Kd.R_make_step (Kd.int .i64) _ 3 (by rfl) (N := 28) rfl 23 _ _ rfl t90003 rfl rfl Try.underlying23 (.int .i64 0) 8 info3 rfl (by decide) (by omega) 0 (ok := fun _ => True) (okp := fun _ => True) rfl (fun _ hk => hk) trivial (of_decide_eq_true (by first | (with_reducible assumption) | assumption)) (Nat.le_trans (Nat.mul_le_mul_right _ (of_decide_eq_true (by first | (with_reducible assumption) | assumption) : t90003.toNat ≤ 35184372088832)) (by omega)) (Below.refl _ _) (Nat.le_refl _) ?_
         intro v90015 w23 ho24 hb hg_ hnew_
         clear hg_ hnew_
         (first | rw [← Ny90009.out] at ho24 | (simp only [Int.reduceToNat] at ho24; rw [← Ny90009.out] at ho24))
         have n0_ := Aside0.mk (Kd.R_elder' (by (with_reducible repeat (first | apply Kd.R_alloc | apply Kd.R_drewN | apply Kd.R_drew)); exact HO90014.out) (Kd.R_base ho24) hb)
         have n1_ := Aside0.mk (Kd.R_lower (Kd.R_new' ho24 (Kd.R_lt (by (with_reducible repeat (first | apply Kd.R_alloc | apply Kd.R_drewN | apply Kd.R_drew)); exact HO90014.out))) (below_size (by repeat (first | (with_reducible first | exact HB.out | apply below_alloc | apply pw_below_drewN | apply below_drew1 | refine below_set ?_ GE90010.out | refine below_set ?_ GE90011.out | refine below_set ?_ GE90012.out) | exact HB.out))))
         have n2_ := Aside0.mk (blk_below (g := gb90010) (o := .cells #[.int .i64 0, .int .i64 0, .slice none 0 0, .slice none 0 0] 25 (0, 0)) (by (with_reducible repeat (first | refine blk_drewN ?_ _ | refine blk_drew ?_ | refine blk_alloc ?_ _)); exact BK90010.out) hb)
         have n3_ := Aside0.mk (blk_below (g := gb90011) (o := .cells #[.int .i64 t90001, .int .i64 t90004, .int .i64 t90005, .int .i64 t90006] 88 (0, 0)) (by (with_reducible repeat (first | refine blk_drewN ?_ _ | refine blk_drew ?_ | refine blk_alloc ?_ _)); exact BK90011.out) hb)
         have n4_ := Aside0.mk (blk_below (g := gb90012) (o := .cells #[.int .i64 0, .int .i64 0, .slice none 0 0, .slice none 0 0] 25 (0, 0)) (by (with_reducible repeat (first | refine blk_drewN ?_ _ | refine blk_drew ?_ | refine blk_alloc ?_ _)); exact BK90012.out) hb)
         have n5_ := Aside0.mk (below_step (by repeat (first | (with_reducible first | exact HB.out | apply below_alloc | apply pw_below_drewN | apply below_drew1 | refine below_set ?_ GE90010.out | refine below_set ?_ GE90011.out | refine below_set ?_ GE90012.out) | exact HB.out)) hb)
         clear HO90014
         clear BK90010
         clear BK90011
         clear BK90012
         clear HB
         have HO90014 := n0_
         have HO90016 := n1_
         have BK90010 := n2_
         have BK90011 := n3_
         have BK90012 := n4_
         have HB := n5_
         clear n0_ n1_ n2_ n3_ n4_ n5_
         clear hb ho24
         obtain ⟨Ao25, co25, eo25⟩ := Kd.R_slice HO90016.out
         (first | subst eo25 | (injection eo25 with f1_ f2_ f3_; have f4_ := f1_.symm; have f5_ := f3_.symm; clear f1_ f2_ f3_; subst f4_; subst f5_))
         obtain ⟨Ao26, co26, eo26⟩ := Kd.R_slice HO90014.out
         (first | subst eo26 | (injection eo26 with f1_ f2_ f3_; have f4_ := f1_.symm; have f5_ := f3_.symm; clear f1_ f2_ f3_; subst f4_; subst f5_))
         refine hK.out _ _ ⟨(blk_cell BK90011.out 0).trans rfl, (blk_cell BK90011.out 1).trans rfl, (blk_cell BK90011.out 2).trans rfl, (blk_cell BK90011.out 3).trans rfl⟩ (fun hHeld => ?_)
         clear hK K
         refine norm_ (a' := ?_) ?_ ?_
         rotate_left
         ·show Act.put _ (some 28) _ = _
          simp only [Act.put, List.setIfInBounds_toArray, List.set_cons_zero, List.set_cons_succ, i64_w, i32_w]
          rfl
         refine pure_ (i := 9) (N := some 29) (v := ?_) (a' := ?_) #[true, true, true, true, true, true, true, true, true, true, true, false] rfl rfl (any_of HT_.out (by kernel_rfl)) (fun _ _ _ h => h) (Or.inl ⟨by rfl, ?_⟩) ?_ ?_
         rotate_left
         ·intro w'
          go_simp
          with_reducible rfl
         rotate_left
         ·simp only [Act.put, List.setIfInBounds_toArray, List.set_cons_zero, List.set_cons_succ, i64_w, i32_w]
          rfl
         exact norm_ (by first | (simp only [putAll, Act.put, List.setIfInBounds_toArray, List.set_cons_zero, List.set_cons_succ]; done) | (simp only [putAll, Act.put, List.setIfInBounds_toArray, List.set_cons_zero, List.set_cons_succ]; rfl)) (hJ4_5_7_8_10 (.slice Ao26 y90008.length co26, .slice Ao25 y90009.length co25, gb90012) _ ⟨hHeld, (by (with_reducible repeat (first | apply Kd.R_alloc | apply Kd.R_drewN | apply Kd.R_drew)); exact Kd.R_mono HO90014.out (fun _ hk => hk.2)), (by (with_reducible repeat (first | apply Kd.R_alloc | apply Kd.R_drewN | apply Kd.R_drew)); exact Kd.R_mono HO90016.out (fun _ hk => hk.2)), (by (with_reducible repeat (first | refine blk_drewN ?_ _ | refine blk_drew ?_ | refine blk_alloc ?_ _)); exact BK90010.out), (by (with_reducible repeat (first | refine blk_drewN ?_ _ | refine blk_drew ?_ | refine blk_alloc ?_ _)); exact BK90011.out), (by (with_reducible repeat (first | refine blk_drewN ?_ _ | refine blk_drew ?_ | refine blk_alloc ?_ _)); exact BK90012.out), GW90012.out, GE90012.out, NB90010_90012.out, NB90012_90010.out, NB90011_90012.out, NB90012_90011.out, (by repeat (first | (with_reducible first | exact HB.out | apply below_alloc | apply pw_below_drewN | apply below_drew1 | refine below_set ?_ GE90010.out | refine below_set ?_ GE90011.out | refine below_set ?_ GE90012.out) | exact HB.out))⟩)
       ·skip
        rintro ⟨v90013, v90015⟩ w25 ⟨hS_, h0_, h1_, h2_, h3_, h4_⟩
        have n0_ : Aside0 (Kd.R (Kd.int .i64) 3 w25 w.heap.size (fun k_ => some k_ ≠ (v90015 : Value).ownBlock) v90013 y90008) := ⟨h0_⟩
        have n1_ : Aside0 (Kd.R (Kd.int .i64) 3 w25 w.heap.size (fun k_ => some k_ ≠ (v90013 : Value).ownBlock) v90015 y90009) := ⟨h1_⟩
        have n2_ : Aside0 (w25.heap[gb90010]? = some (.cells #[.int .i64 0, .int .i64 0, .slice none 0 0, .slice none 0 0] 25 (0, 0))) := ⟨h2_⟩
        have n3_ : Aside0 (w25.heap[gb90011]? = some (.cells #[.int .i64 t90001, .int .i64 t90004, .int .i64 t90005, .int .i64 t90006] 88 (0, 0))) := ⟨h3_⟩
        have n4_ : Aside0 (Below w.heap.size w w25) := ⟨h4_⟩
        clear BK90010
        clear BK90011
        clear HB
        clear h0_ h1_ h2_ h3_ h4_
        have HO90014 := n0_
        have HO90016 := n1_
        have BK90010 := n2_
        have BK90011 := n3_
        have HB := n4_
        clear n0_ n1_ n2_ n3_ n4_
        have hHeld : w25.cell? ⟨gb90011, 0, none⟩ = some (.int .i64 t90001) ∧ w25.cell? ⟨gb90011, 1, none⟩ = some (.int .i64 t90004) ∧ w25.cell? ⟨gb90011, 2, none⟩ = some (.int .i64 t90005) ∧ w25.cell? ⟨gb90011, 3, none⟩ = some (.int .i64 t90006) := hS_
        obtain ⟨Ao26, co26, eo26⟩ := Kd.R_slice HO90016.out
        (first | subst eo26 | (injection eo26 with f1_ f2_ f3_; have f4_ := f1_.symm; have f5_ := f3_.symm; clear f1_ f2_ f3_; subst f4_; subst f5_))
        obtain ⟨Ao27, co27, eo27⟩ := Kd.R_slice HO90014.out
        (first | subst eo27 | (injection eo27 with f1_ f2_ f3_; have f4_ := f1_.symm; have f5_ := f3_.symm; clear f1_ f2_ f3_; subst f4_; subst f5_))
        refine norm_ (a' := ?_) ?_ ?_
        rotate_left
        ·simp only [putAll, Act.put, List.setIfInBounds_toArray, List.set_cons_zero, List.set_cons_succ]
         rfl
        refine one_ (i := 10) (N := some 6) #[true, true, true, true, true, true, true, true, true, true, true, false] rfl rfl (one_of HT_.out (by kernel_rfl)) (by decide) (fun K hK => ?_)
        refine box_step ?hg (N := 6) ?hd (cs := #[.int .i64 0, .int .i64 0, .slice none 0 0, .slice none 0 0]) (t := 25) ?hr ?_; (case hd => rfl); (case hg => rfl); (case hr => first | (go_simp; done) | (go_simp; rfl))
        intro gb90012 hg w28 hbox hb
        have n0_ := Aside0.mk (Kd.R_below (by (with_reducible repeat (first | apply Kd.R_alloc | apply Kd.R_drewN | apply Kd.R_drew)); exact HO90014.out) hb)
        have n1_ := Aside0.mk (Kd.R_below (by (with_reducible repeat (first | apply Kd.R_alloc | apply Kd.R_drewN | apply Kd.R_drew)); exact HO90016.out) hb)
        have n2_ := Aside0.mk (blk_below (g := gb90010) (o := .cells #[.int .i64 0, .int .i64 0, .slice none 0 0, .slice none 0 0] 25 (0, 0)) (by (with_reducible repeat (first | refine blk_drewN ?_ _ | refine blk_drew ?_ | refine blk_alloc ?_ _)); exact BK90010.out) hb)
        have n3_ := Aside0.mk (blk_below (g := gb90011) (o := .cells #[.int .i64 t90001, .int .i64 t90004, .int .i64 t90005, .int .i64 t90006] 88 (0, 0)) (by (with_reducible repeat (first | refine blk_drewN ?_ _ | refine blk_drew ?_ | refine blk_alloc ?_ _)); exact BK90011.out) hb)
        have n4_ := Aside0.mk (below_step (by repeat (first | (with_reducible first | exact HB.out | apply below_alloc | apply pw_below_drewN | apply below_drew1 | refine below_set ?_ GE90010.out | refine below_set ?_ GE90011.out) | exact HB.out)) hb)
        have n5_ := Aside0.mk (hbox)
        have n6_ := Aside0.mk ((by rw [hg]; exact (below_size (by repeat (first | (with_reducible first | exact HB.out | apply below_alloc | apply pw_below_drewN | apply below_drew1 | refine below_set ?_ GE90010.out | refine below_set ?_ GE90011.out) | exact HB.out))) : w.heap.size ≤ gb90012))
        have n7_ := Aside0.mk ((by rw [hg]; exact (below_size (by repeat (first | (with_reducible first | exact HB.out | apply below_alloc | apply pw_below_drewN | apply below_drew1 | refine below_set ?_ GE90010.out | refine below_set ?_ GE90011.out) | exact HB.out))) : w.heap.size ≤ gb90012))
        have n8_ := Aside0.mk ((by rw [hg]; exact Nat.ne_of_lt (blk_lt (g := gb90010) (o := .cells #[.int .i64 0, .int .i64 0, .slice none 0 0, .slice none 0 0] 25 (0, 0)) (by (with_reducible repeat (first | refine blk_drewN ?_ _ | refine blk_drew ?_ | refine blk_alloc ?_ _)); exact BK90010.out)) : gb90010 ≠ gb90012))
        have n9_ := Aside0.mk ((by rw [hg]; exact Nat.ne_of_gt (blk_lt (g := gb90010) (o := .cells #[.int .i64 0, .int .i64 0, .slice none 0 0, .slice none 0 0] 25 (0, 0)) (by (with_reducible repeat (first | refine blk_drewN ?_ _ | refine blk_drew ?_ | refine blk_alloc ?_ _)); exact BK90010.out)) : gb90012 ≠ gb90010))
        have n10_ := Aside0.mk ((by rw [hg]; exact Nat.ne_of_lt (blk_lt (g := gb90011) (o := .cells #[.int .i64 t90001, .int .i64 t90004, .int .i64 t90005, .int .i64 t90006] 88 (0, 0)) (by (with_reducible repeat (first | refine blk_drewN ?_ _ | refine blk_drew ?_ | refine blk_alloc ?_ _)); exact BK90011.out)) : gb90011 ≠ gb90012))
        have n11_ := Aside0.mk ((by rw [hg]; exact Nat.ne_of_gt (blk_lt (g := gb90011) (o := .cells #[.int .i64 t90001, .int .i64 t90004, .int .i64 t90005, .int .i64 t90006] 88 (0, 0)) (by (with_reducible repeat (first | refine blk_drewN ?_ _ | refine blk_drew ?_ | refine blk_alloc ?_ _)); exact BK90011.out)) : gb90012 ≠ gb90011))
        clear HO90014
        clear HO90016
        clear BK90010
        clear BK90011
        clear HB
        have HO90014 := n0_
        have HO90016 := n1_
        have BK90010 := n2_
        have BK90011 := n3_
        have HB := n4_
        have BK90012 := n5_
        have GW90012 := n6_
        have GE90012 := n7_
        have NB90010_90012 := n8_
        have NB90012_90010 := n9_
        have NB90011_90012 := n10_
        have NB90012_90011 := n11_
        clear n0_ n1_ n2_ n3_ n4_ n5_ n6_ n7_ n8_ n9_ n10_ n11_
        clear hb hbox hg
        refine hK.out _ _ ⟨(blk_cell BK90011.out 0).trans rfl, (blk_cell BK90011.out 1).trans rfl, (blk_cell BK90011.out 2).trans rfl, (blk_cell BK90011.out 3).trans rfl⟩ (fun hHeld => ?_)
        clear hK K
        refine norm_ (a' := ?_) ?_ ?_
        rotate_left
        ·show Act.put _ (some 6) _ = _
         simp only [Act.put, List.setIfInBounds_toArray, List.set_cons_zero, List.set_cons_succ, i64_w, i32_w]
         rfl
        exact norm_ (by first | (simp only [putAll, Act.put, List.setIfInBounds_toArray, List.set_cons_zero, List.set_cons_succ]; done) | (simp only [putAll, Act.put, List.setIfInBounds_toArray, List.set_cons_zero, List.set_cons_succ]; rfl)) (hJ4_5_7_8_10 (.slice Ao27 y90008.length co27, .slice Ao26 y90009.length co26, gb90012) _ ⟨hHeld, (by (with_reducible repeat (first | apply Kd.R_alloc | apply Kd.R_drewN | apply Kd.R_drew)); exact HO90014.out), (by (with_reducible repeat (first | apply Kd.R_alloc | apply Kd.R_drewN | apply Kd.R_drew)); exact HO90016.out), (by (with_reducible repeat (first | refine blk_drewN ?_ _ | refine blk_drew ?_ | refine blk_alloc ?_ _)); exact BK90010.out), (by (with_reducible repeat (first | refine blk_drewN ?_ _ | refine blk_drew ?_ | refine blk_alloc ?_ _)); exact BK90011.out), (by (with_reducible repeat (first | refine blk_drewN ?_ _ | refine blk_drew ?_ | refine blk_alloc ?_ _)); exact BK90012.out), GW90012.out, GE90012.out, NB90010_90012.out, NB90012_90010.out, NB90011_90012.out, NB90012_90011.out, (by repeat (first | (with_reducible first | exact HB.out | apply below_alloc | apply pw_below_drewN | apply below_drew1 | refine below_set ?_ GE90010.out | refine below_set ?_ GE90011.out | refine below_set ?_ GE90012.out) | exact HB.out))⟩)
      rintro ⟨v90013, v90015, gb90012⟩ w26 ⟨hS_, h0_, h1_, h2_, h3_, h4_, h5_, h6_, h7_, h8_, h9_, h10_, h11_⟩
      have n0_ : Aside0 (Kd.R (Kd.int .i64) 3 w26 w.heap.size (fun k_ => some k_ ≠ (v90015 : Value).ownBlock) v90013 y90008) := ⟨h0_⟩
      have n1_ : Aside0 (Kd.R (Kd.int .i64) 3 w26 w.heap.size (fun k_ => some k_ ≠ (v90013 : Value).ownBlock) v90015 y90009) := ⟨h1_⟩
      have n2_ : Aside0 (w26.heap[gb90010]? = some (.cells #[.int .i64 0, .int .i64 0, .slice none 0 0, .slice none 0 0] 25 (0, 0))) := ⟨h2_⟩
      have n3_ : Aside0 (w26.heap[gb90011]? = some (.cells #[.int .i64 t90001, .int .i64 t90004, .int .i64 t90005, .int .i64 t90006] 88 (0, 0))) := ⟨h3_⟩
      have n4_ : Aside0 (w26.heap[gb90012]? = some (.cells #[.int .i64 0, .int .i64 0, .slice none 0 0, .slice none 0 0] 25 (0, 0))) := ⟨h4_⟩
      have n5_ : Aside0 (w.heap.size ≤ gb90012) := ⟨h5_⟩
      have n6_ : Aside0 (w.heap.size ≤ gb90012) := ⟨h6_⟩
      have n7_ : Aside0 (gb90010 ≠ gb90012) := ⟨h7_⟩
      have n8_ : Aside0 (gb90012 ≠ gb90010) := ⟨h8_⟩
      have n9_ : Aside0 (gb90011 ≠ gb90012) := ⟨h9_⟩
      have n10_ : Aside0 (gb90012 ≠ gb90011) := ⟨h10_⟩
      have n11_ : Aside0 (Below w.heap.size w w26) := ⟨h11_⟩
      clear BK90010
      clear BK90011
      clear HB
      clear h0_ h1_ h2_ h3_ h4_ h5_ h6_ h7_ h8_ h9_ h10_ h11_
      have HO90014 := n0_
      have HO90016 := n1_
      have BK90010 := n2_
      have BK90011 := n3_
      have BK90012 := n4_
      have GW90012 := n5_
      have GE90012 := n6_
      have NB90010_90012 := n7_
      have NB90012_90010 := n8_
      have NB90011_90012 := n9_
      have NB90012_90011 := n10_
      have HB := n11_
      clear n0_ n1_ n2_ n3_ n4_ n5_ n6_ n7_ n8_ n9_ n10_ n11_
      have hHeld : w26.cell? ⟨gb90011, 0, none⟩ = some (.int .i64 t90001) ∧ w26.cell? ⟨gb90011, 1, none⟩ = some (.int .i64 t90004) ∧ w26.cell? ⟨gb90011, 2, none⟩ = some (.int .i64 t90005) ∧ w26.cell? ⟨gb90011, 3, none⟩ = some (.int .i64 t90006) := hS_
      obtain ⟨Ao27, co27, eo27⟩ := Kd.R_slice HO90016.out
      (first | subst eo27 | (injection eo27 with f1_ f2_ f3_; have f4_ := f1_.symm; have f5_ := f3_.symm; clear f1_ f2_ f3_; subst f4_; subst f5_))
      obtain ⟨Ao28, co28, eo28⟩ := Kd.R_slice HO90014.out
      (first | subst eo28 | (injection eo28 with f1_ f2_ f3_; have f4_ := f1_.symm; have f5_ := f3_.symm; clear f1_ f2_ f3_; subst f4_; subst f5_))
      refine norm_ (a' := ?_) ?_ ?_
      rotate_left
      ·simp only [putAll, Act.put, List.setIfInBounds_toArray, List.set_cons_zero, List.set_cons_succ]
       rfl
      refine one_ (i := 11) (N := none) #[true, true, true, true, true, true, true, true, true, true, true, true] rfl rfl (one_of HT_.out (by kernel_rfl)) (by decide) (fun K hK => ?_)
      have hs29 : w26.cell? ⟨gb90012, 0, none⟩ = some (.int .i64 0) := (blk_cell BK90012.out 0).trans rfl
      have hfs29 := blk_frozen BK90012.out 0
      have hns29_0 := NB90010_90012.out
      have hns29_1 := NB90011_90012.out
      have hms29_0 := NB90012_90010.out
      have hms29_1 := NB90012_90011.out
      have hs30 : w26.cell? ⟨gb90012, 1, none⟩ = some (.int .i64 0) := (blk_cell BK90012.out 1).trans rfl
      have hfs30 := blk_frozen BK90012.out 1
      have hns30_0 := NB90010_90012.out
      have hns30_1 := NB90011_90012.out
      have hms30_0 := NB90012_90010.out
      have hms30_1 := NB90012_90011.out
      have hs31 : w26.cell? ⟨gb90012, 2, none⟩ = some (.slice none 0 0) := (blk_cell BK90012.out 2).trans rfl
      have hfs31 := blk_frozen BK90012.out 2
      have hns31_0 := NB90010_90012.out
      have hns31_1 := NB90011_90012.out
      have hms31_0 := NB90012_90010.out
      have hms31_1 := NB90012_90011.out
      have hs32 : w26.cell? ⟨gb90012, 3, none⟩ = some (.slice none 0 0) := (blk_cell BK90012.out 3).trans rfl
      have hfs32 := blk_frozen BK90012.out 3
      have hns32_0 := NB90010_90012.out
      have hns32_1 := NB90011_90012.out
      have hms32_0 := NB90012_90010.out
      have hms32_1 := NB90012_90011.out
      refine skip_ (w1 := ?_) (by rfl) rfl ?_ ?_
      rotate_left
      ·go_simp
       rfl
      refine hK.out _ _ ⟨((cell_far (p := ⟨gb90012, _, none⟩) NB90011_90012.out _).trans (((cell_far (p := ⟨gb90012, _, none⟩) NB90011_90012.out _).trans (((cell_far (p := ⟨gb90012, _, none⟩) NB90011_90012.out _).trans (((cell_far (p := ⟨gb90012, _, none⟩) NB90011_90012.out _).trans (hHeld.1)))))))), ((cell_far (p := ⟨gb90012, _, none⟩) NB90011_90012.out _).trans (((cell_far (p := ⟨gb90012, _, none⟩) NB90011_90012.out _).trans (((cell_far (p := ⟨gb90012, _, none⟩) NB90011_90012.out _).trans (((cell_far (p := ⟨gb90012, _, none⟩) NB90011_90012.out _).trans (hHeld.2.1)))))))), ((cell_far (p := ⟨gb90012, _, none⟩) NB90011_90012.out _).trans (((cell_far (p := ⟨gb90012, _, none⟩) NB90011_90012.out _).trans (((cell_far (p := ⟨gb90012, _, none⟩) NB90011_90012.out _).trans (((cell_far (p := ⟨gb90012, _, none⟩) NB90011_90012.out _).trans (hHeld.2.2.1)))))))), ((cell_far (p := ⟨gb90012, _, none⟩) NB90011_90012.out _).trans (((cell_far (p := ⟨gb90012, _, none⟩) NB90011_90012.out _).trans (((cell_far (p := ⟨gb90012, _, none⟩) NB90011_90012.out _).trans (((cell_far (p := ⟨gb90012, _, none⟩) NB90011_90012.out _).trans (hHeld.2.2.2))))))))⟩ (fun hHeld => ?_)
      clear hK K
      refine done_ (done_of HT_.out (by kernel_rfl)) ?_
      have L1 : y90008.length = many := by rw [HY1.out, List.length_replicate]
      have L2 : y90009.length = many := by rw [HY2.out, List.length_replicate]
      have own1 : w26.ownsRow w.heap.size 3 1 (.slice Ao28 y90008.length co28) y90008.length (nums .i64 y90008) := Kd.own_of_R HO90014.out
      have own2 : w26.ownsRow w.heap.size 3 1 (.slice Ao27 y90009.length co27) y90009.length (nums .i64 y90009) := Kd.own_of_R HO90016.out
      have okb := HO90014.out.1
      rw [L1, HY1.out] at own1
      rw [L2, HY2.out] at own2
      rw [L1, L2] at okb
      rw [L1, L2]
      obtain ⟨eb, tE, rfl, heb, xe, hc1, -, hl1, hmx1⟩ := own_xrow own1 (by omega)
      obtain ⟨rb, tR, rfl, hrb, xr, hc2, -, hl2, hmx2⟩ := own_xrow own2 (by omega)
      have er : eb ≠ rb := by have := okb eb rfl; simpa [Value.ownBlock] using this
      have B26 : ORow w26 gb90010 25 BK0 := BK90010.out
      have K26 : ORow w26 gb90011 88 #[.int .i64 t90001, .int .i64 t90004, .int .i64 t90005, .int .i64 t90006] := BK90011.out
      have G26 : ORow w26 gb90012 25 BK0 := BK90012.out
      have eG : eb ≠ gb90012 := row_ne xe G26 (by decide)
      have eB : eb ≠ gb90010 := row_ne xe B26 (by decide)
      have rG : rb ≠ gb90012 := row_ne xr G26 (by decide)
      have rB : rb ≠ gb90010 := row_ne xr B26 (by decide)
      have HB26 := HB.out
      have hbB : w.heap.size ≤ gb90010 := GE90010.out
      have hbG : w.heap.size ≤ gb90012 := GE90012.out
      have neB := NB90010_90012.out
      have neK := NB90011_90012.out
      obtain ⟨W0, hW0⟩ : ∃ W0, W0 = (((w26.setCell ⟨gb90012, 0, none⟩ (.int .i64 a0)).setCell ⟨gb90012, 1, none⟩ (.int .i64 t90006)).setCell ⟨gb90012, 2, none⟩ (.slice (some ⟨eb, 0, none⟩) many co28)).setCell ⟨gb90012, 3, none⟩ (.slice (some ⟨rb, 0, none⟩) many co27) := ⟨_, rfl⟩
      have OB : ORow W0 gb90010 25 BK0 := by rw [hW0]; exact (((B26.other neB _).other neB _).other neB _).other neB _
      have OK0 : ORow W0 gb90011 88 #[.int .i64 t90001, .int .i64 t90004, .int .i64 t90005, .int .i64 t90006] := by rw [hW0]; exact (((K26.other neK _).other neK _).other neK _).other neK _
      have OG : ORow W0 gb90012 25 (GCv a0 t90006 eb rb many co28 co27) := by rw [hW0]; exact (((G26.set 0 _).set 1 _).set 2 _).set 3 _
      have XE : XRow W0 eb 3 (List.replicate many 0) tE := by rw [hW0]; exact (((xe.other eG _).other eG _).other eG _).other eG _
      have XR : XRow W0 rb 3 (List.replicate many 0) tR := by rw [hW0]; exact (((xr.other rG _).other rG _).other rG _).other rG _
      have HB0 : Below w.heap.size w W0 := by rw [hW0]; exact bsetAt (bsetAt (bsetAt (bsetAt HB26 hbG _) hbG _) hbG _) hbG _
      rw [← hW0]
      clear hW0 B26 K26 G26 xe xr own1 own2 okb HB26 HO90014 HO90016 BK90010 BK90011 BK90012 HB hHeld HT_ HW_ neB neK
      (try clear hs29 hfs29 hns29_0 hns29_1 hms29_0 hms29_1 hs30 hfs30 hns30_0 hns30_1 hms30_0 hms30_1 hs31 hfs31 hns31_0 hns31_1 hms31_0 hms31_1 hs32 hfs32 hns32_0 hns32_1 hms32_0 hms32_1)
      have k0 := OK0.cell 0 _ rfl
      have k1 := OK0.cell 1 _ rfl
      have k2 := OK0.cell 2 _ rfl
      have k3 := OK0.cell 3 _ rfl
      have ltE := XE.lt
      have ltR := XR.lt
      have ltB := OB.lt
      have ltG := OG.lt
      have F0 : Aside0 (ORow W0 gb90010 25 BK0 ∧ ORow W0 gb90012 25 (GCv a0 t90006 eb rb many co28 co27) ∧ XRow W0 eb 3 (List.replicate many 0) tE ∧ XRow W0 rb 3 (List.replicate many 0) tR ∧ Below w.heap.size w W0) := ⟨⟨OB, OG, XE, XR, HB0⟩⟩
      clear OB OK0 OG XE XR HB0
      go_wp2_with (first | (go_at_call 54; refine (sizes_listI t90001 dim many HDIM.out t90004 t90005 t90006 _ OK.out ⟨6, HMF.out⟩).mono ?_; rintro e w5 ⟨S, HS, hSl, rfl, hd5⟩; have HL := Aside0.mk hSl; have hz5 := hd5.size; have GIm : Aside0 (GI w gb90010 gb90012 w5.heap.size eb rb (GCv a0 t90006 eb rb many co28 co27) S (List.replicate many 0) (List.replicate many 0) tE tR ((w5.alloc (.cells Z289 91)).setRow w5.heap.size (nums .u8 S).toArray)) := ⟨⟨((F0.out.1.below hd5 ltB).alloc _).setRow_other (by omega) _, ((F0.out.2.1.below hd5 ltG).alloc _).setRow_other (by omega) _, Go.setRow_heap _ _ _ _ _ (0, 0) (World.alloc_heap_new w5 _), ((F0.out.2.2.1.below hd5 ltE).alloc _).setRow_other (by omega) _, ((F0.out.2.2.2.1.below hd5 ltR).alloc _).setRow_other (by omega) _, below_setRow ((below_then F0.out.2.2.2.2 F0.out.2.2.2.2.size hd5).alloc (by have := F0.out.2.2.2.2.size; omega) _) (by have := F0.out.2.2.2.2.size; omega) _⟩⟩; have cG2 : ((w5.alloc (.cells Z289 91)).setRow w5.heap.size (nums .u8 S).toArray).cell? ⟨gb90012, 2, none⟩ = some (.slice (some ⟨eb, 0, none⟩) many co28) := GIm.out.out.cell 2 _ rfl; clear hd5 hSl k0 k1 k2 k3) | refine wpList_alloc_at rfl 91 rfl _ zeros_run ?_ | refine wpList_store_row rfl 91 _ _ rfl w5.heap.size (nums .u8 S).toArray (by rfl) (by rfl) 91 Z289 (World.alloc_heap_new w5 _) (sz_info _ HL.out) (sz_old _ HL.out) (sz_one _) ?_)
      have gd : GD w gb90010 gb90012 w5.heap.size eb rb := ⟨hbB, heb, hrb, er, eB, eG, by omega, rB, rG, by omega⟩
      clear cG2 F0 hz5 ltE ltR ltB ltG
      generalize (w5.alloc (.cells Z289 91)).setRow w5.heap.size (nums .u8 S).toArray = W1 at GIm ⊢
      generalize w5.heap.size = Z at GIm gd ⊢
      have GDm := Aside0.mk gd
      clear gd
      have mi : (many : Int) ≤ 289 := by omega
      go_loopw [35] (fun i W => ∃ j : Nat, j ≤ many ∧ i = .int .i64 j ∧ GI w gb90010 gb90012 Z eb rb (GCv a0 t90006 eb rb many co28 co27) S (upI many j) (List.replicate many 0) tE tR W) (fun i _ => many - (intOf i).toNat)
      case atStart => exact ⟨0, Nat.zero_le _, rfl, by rw [upI_zero]; exact GIm.out⟩
      case round =>
       clear GIm
       obtain ⟨j, hj, rfl, gi⟩ := hrel
       have cG2 : wr.cell? ⟨gb90012, 2, none⟩ = some (.slice (some ⟨eb, 0, none⟩) many co28) := gi.out.cell 2 _ rfl
       have GIj := Aside0.mk gi
       clear gi
       by_cases hlt : j < many
       ·have hlti : (j : Int) < many := by omega
        have ce := GIj.out.ent.cell j (by rw [upI_length]; exact hlt)
        have fe := GIj.out.ent.frozen j
        go_wp2
        go_roundw
        case rel => exact ⟨j + 1, by omega, by go_num, by rw [← upI_succ many j hlt]; exact GIj.out.setE GDm.out j (by rw [upI_length]; exact hlt) _⟩
        case measure => simp [intOf]; omega
       ·obtain rfl : j = many := by omega
        have GIe : Aside0 (GI w gb90010 gb90012 Z eb rb (GCv a0 t90006 eb rb j co28 co27) S ((rangeE j).map fun x => (x.val : Int)) (List.replicate j 0) tE tR wr) := ⟨by rw [← upI_end j m289]; exact GIj.out⟩
        clear GIj
        have SRT := Aside0.mk (sort_n wr eb co28 Z j (cfS S) (rangeE j).toArray (by simp [rangeE]) (xrow_holds GIe.out.ent) (cmpOk wr eb 0 j Z S HL.out GIe.out.sz GDm.out.eZ.symm) m289)
        go_wp2_with (go_at_call 55; refine SRT.out.mono ?_; rintro e w7 ⟨rfl, q7, hw7⟩; have GI7 : Aside0 (GI w gb90010 gb90012 Z eb rb (GCv a0 t90006 eb rb j co28 co27) S (entV S j) (List.replicate j 0) tE tR w7) := ⟨by rw [hw7]; exact GIe.out.put GDm.out (stab (ltF (cfS S)) j (rangeE j).toArray) q7 (by rw [size_stab]; simp [rangeE])⟩; clear hw7 cG2; have cG2 : w7.cell? ⟨gb90012, 2, none⟩ = some (.slice (some ⟨eb, 0, none⟩) j co28) := GI7.out.out.cell 2 _ rfl)
        clear cG2 SRT GIe
        have EV : Aside0 (entV (szV a0) j = entV S j) := ⟨by rw [HSZ.out, HS.out]⟩
        go_loopw [51] (fun i W => ∃ q : Nat, q ≤ j ∧ i = .int .i64 q ∧ GI w gb90010 gb90012 Z eb rb (GCv a0 t90006 eb rb j co28 co27) S (entV S j) (rkAt (entV S j) j q) tE tR W) (fun i _ => j - (intOf i).toNat)
        case atStart => exact ⟨0, Nat.zero_le _, rfl, GI7.out⟩
        case round =>
         clear GI7
         obtain ⟨q, hq, rfl, gi⟩ := hrel
         have GIq := Aside0.mk gi
         clear gi
         by_cases hlt : q < j
         ·have hlti : (q : Int) < j := by omega
          have ce := GIq.out.ent.cell q (by rw [entV_length]; exact hlt)
          have cG3 : wr.cell? ⟨gb90012, 3, none⟩ = some (.slice (some ⟨rb, 0, none⟩) j co27) := GIq.out.out.cell 3 _ rfl
          have p0 := (entV_bd S j (q : Int)).1
          have p1 : rd (entV S j) (q : Int) < j := by have := HPM.out q hlt; rw [EV.out] at this; exact this
          have RS : Aside0 ((rkAt (entV S j) j q).set (rd (entV S j) (q : Int)).toNat (q : Int) = rkAt (entV S j) j (q + 1)) := ⟨rfl⟩
          obtain ⟨x, hx⟩ : ∃ x : Nat, rd (entV S j) (q : Int) = (x : Int) := ⟨_, (Int.toNat_of_nonneg p0).symm⟩
          rw [hx] at ce p0 p1 RS
          clear hx
          have xj : x < j := by omega
          have cr := GIq.out.rnk.cell x (by rw [rkAt_length]; exact xj)
          have fr := GIq.out.rnk.frozen x
          go_wp2
          go_roundw
          case rel => exact ⟨q + 1, by omega, by go_num, by rw [← RS.out]; exact GIq.out.setR GDm.out x (by rw [rkAt_length]; exact xj) _⟩
          case measure => simp [intOf]; omega
         ·obtain rfl : q = j := by omega
          have g0 := GIq.out.out.cell 0 _ (gcv0 ..)
          have g1 := GIq.out.out.cell 1 _ (gcv1 ..)
          have g2 := GIq.out.out.cell 2 _ (gcv2 ..)
          have g3 := GIq.out.out.cell 3 _ (gcv3 ..)
          go_wp2_with (refine wpList_store_row rfl 25 _ _ rfl gb90010 (GCv a0 t90006 eb rb q co28 co27) (by rfl) (by rfl) 25 BK0 GIq.out.res (gcv_info ..) (gcv_old ..) (gcv_one ..) ?_)
          have O2 := GIq.out.res.setRow (GCv a0 t90006 eb rb q co28 co27)
          have c0 := O2.cell 0 _ (gcv0 ..)
          have c1 := O2.cell 1 _ (gcv1 ..)
          have c2 := O2.cell 2 _ (gcv2 ..)
          have c3 := O2.cell 3 _ (gcv3 ..)
          have E1 := xrow_own (GIq.out.ent.setRow_other GDm.out.eB (GCv a0 t90006 eb rb q co28 co27)) GDm.out.e (by rw [entV_length]; simpa using hl1) hmx1
          have R1 := xrow_own (GIq.out.rnk.setRow_other GDm.out.rB (GCv a0 t90006 eb rb q co28 co27)) GDm.out.r (by rw [rkAt_length]; simpa using hl2) hmx2
          rw [entV_length] at E1
          rw [rkAt_length] at R1
          simp only [GCv] at c0 c1 c2 c3
          refine bodyPost_ret (v := .tuple #[.agg (GCv a0 t90006 eb rb q co28 co27), .int .i64 0]) (by simp [results, Try.results26, go_sem, c0, c1, c2, c3, GCv]) rfl ?_
          rw [EV.out, KDP.out]
          exact ⟨_, _, rfl, Kd.R_of_own (by rw [entV_length]; exact E1) (fun k hk => by simp only [Value.ownBlock, Option.map_some, Option.some.injEq] at hk ⊢; subst hk; exact fun e => GDm.out.er (Option.some.inj e)), Kd.R_of_own (by rw [rkAt_length]; exact R1) (fun k hk => by simp only [Value.ownBlock, Option.map_some, Option.some.injEq] at hk ⊢; subst hk; exact fun e => GDm.out.er.symm (Option.some.inj e)), below_setRow GIq.out.bel GDm.out.b _⟩
     ·rw [if_neg c9] at H
      exact absurd H (by simp)
    ·rw [if_neg c8] at H
     exact absurd H (by simp)
   ·rw [if_neg c6] at H
    exact absurd H (by simp)
  ·rw [if_neg c5] at H
   exact absurd H (by simp)
 ·exfalso
  obtain ⟨ok, hd, hm, hk5, hm0⟩ := kind_ok g1 g2
  have KD : kindV a0 = (t90001, t90004, t90005, t90006, t90007) := Option.some.inj A2.out
  rw [KD] at hk5
  exact c3 hk5
end Go.Proofs.Ytchflniekbhohaa.P
