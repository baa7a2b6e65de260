/- Small laws of ours for walks over iterators: what a round keeps, by blocks. -/
import Derived.RangeFuncNested
import Derived.RangeFuncBound
import Derived.RangeFuncCalls
import Derived.RangeFuncLeaves
import Derived.RangeFuncBox
import Derived.Shelf.Abstract
import Derived.Shelf.RegionOpen
import Derived.OwnWalkIn
import Derived.TacticsInMore
import Derived.LoopNIn
import Derived.LoopIn
import Derived.Sort.QuietIn
import Derived.Sort.CutIn
import Derived.Sort.LoopGhostIn
import Derived.WalkKit
import Derived.Laws.Tables
import Derived.Laws.CopyOwn
import Derived.Test.YtchflniekbhohaaWWordsL

/- Small laws of ours for walks over iterators: what a round keeps, by blocks. -/
namespace Go.Proofs.Ytchflniekbhohaa.Eng
open Go.RowKit Go.Proofs.YtchflniekbhohaaW.PrintWords
set_option linter.unusedVariables false

/-- The blocks of S lie as they lay. -/
structure KeepB (S : Nat → Prop) (W W' : World) : Prop where
 size : W.heap.size ≤ W'.heap.size
 block : ∀ i, S i → i < W.heap.size → W'.heap[i]? = W.heap[i]?
theorem KeepB.refl (S : Nat → Prop) (W : World) : KeepB S W W := ⟨Nat.le_refl _, fun _ _ _ => rfl⟩
theorem KeepB.trans {S : Nat → Prop} {A B C : World} (h : KeepB S A B) (k : KeepB S B C) : KeepB S A C :=
 ⟨Nat.le_trans h.size k.size, fun i hi hl => (k.block i hi (Nat.lt_of_lt_of_le hl h.size)).trans (h.block i hi hl)⟩
theorem KeepB.grown {S : Nat → Prop} {A W W' : World} (h : KeepB S A W) {row : Option Nat} (hg : W.grownBy W' row) (hr : ∀ k, row = some k → ¬ S k) : KeepB S A W' :=
 h.trans ⟨hg.size, fun i hi hl => hg.block i hl (fun e => hr i e.symm hi)⟩
theorem KeepB.drewN {S : Nat → Prop} {A W : World} (h : KeepB S A W) (n : Nat) : KeepB S A (W.drewN n) := ⟨h.size, h.block⟩
theorem KeepB.drew {S : Nat → Prop} {A W : World} (h : KeepB S A W) : KeepB S A W.drew := ⟨h.size, h.block⟩
theorem KeepB.alloc {S : Nat → Prop} {A W : World} (h : KeepB S A W) (o : Obj) : KeepB S A (W.alloc o) := h.grown (World.grownBy_alloc W o none) (fun _ e => by cases e)
theorem KeepB.setCell {S : Nat → Prop} {A W : World} (h : KeepB S A W) (b : Nat) (v : Value) (hb : ¬ S b) : KeepB S A (W.setCell ⟨b, 0, none⟩ v) :=
 h.grown (grownBy_setCell' W b v) (fun k e => by cases e; exact hb)
theorem KeepB.below {S : Nat → Prop} {B : Nat} {A W W' : World} (h : KeepB S A W) (hb : Below B W W') (hS : ∀ i, S i → i < B) : KeepB S A W' :=
 h.trans ⟨hb.size, fun i hi _ => hb.block i (hS i hi)⟩
theorem KeepB.cell {S : Nat → Prop} {W W' : World} (h : KeepB S W W') {p : Addr} (hp : S p.block) (hl : p.block < W.heap.size) : W'.cell? p = W.cell? p := World.cell?_of_block (w := W) (h.block p.block hp hl)
theorem keepK_t {S : Nat → Prop} {A B C : World} (h : KeepB S A B) (k : KeepB S B C) : KeepB S A C := h.trans k
theorem keepK_b {S : Nat → Prop} {w : World} (hn : ∀ i, S i → i < w.heap.size) (W : World) (l : Nat) (o o' : Obj) (hl : w.heap.size ≤ l) (h : W.heap[l]? = some o) (_ : o.isCells = false) (_ : o.isWalk = false) : KeepB S W (W.putObj l o') :=
 (KeepB.refl S W).grown (grownBy_putObj' W l o') (fun k e => by cases e; intro hk; have := hn _ hk; omega)
theorem Boxed.drewN {W : World} {B : Nat} {t : TypeId} {v : Value} (h : Boxed W B t v) (n : Nat) : Boxed (W.drewN n) B t v := h
theorem Boxed.drew {W : World} {B : Nat} {t : TypeId} {v : Value} (h : Boxed W B t v) : Boxed W.drew B t v := h
theorem Boxed.below {W W' : World} {B n : Nat} {t : TypeId} {v : Value} (h : Boxed W B t v) (hb : Below n W W') (hn : B < n) : Boxed W' B t v := (hb.block B hn).trans h
theorem Boxed.putObj {W : World} {B D : Nat} {t : TypeId} {v : Value} (h : Boxed W B t v) (o : Obj) (hne : B ≠ D) : Boxed (W.putObj D o) B t v := h.kept (grownBy_putObj' W D o) (fun e => hne (by cases e; rfl))
theorem below_drewN' {B : Nat} {w W : World} (h : Below B w W) (n : Nat) : Below B w (W.drewN n) := ⟨h.os, h.tape, h.output, h.size, h.block⟩

/-! ### A block of whole numbers (an array's, or a struct's) -/
/-- Block b holds the whole numbers xs. -/
def IRow (W : World) (b : Nat) (e : TypeId) (k : IntKind) (xs : List Int) : Prop := W.heap[b]? = some (.cells (nums k xs).toArray e (0, 0))
section
variable {W W' : World} {b e : Nat} {k : IntKind} {xs : List Int}
theorem IRow.lt (h : IRow W b e k xs) : b < W.heap.size := (Array.getElem?_eq_some_iff.1 h).1
theorem IRow.cell (h : IRow W b e k xs) (i : Nat) (hi : i < xs.length) : W.cell? ⟨b, i, none⟩ = some (.int k (rd xs i)) := by
 simp [World.cell?, show W.heap[b]? = _ from h, nums, rd, List.getElem?_eq_getElem hi, List.getD_eq_getElem?_getD]
theorem IRow.frozen (h : IRow W b e k xs) (i : Nat) : W.frozen? ⟨b, i, none⟩ = false := by simp [World.frozen?, show W.heap[b]? = _ from h]
theorem IRow.new (W : World) (e : TypeId) (k : IntKind) (xs : List Int) : IRow (W.alloc (.cells (nums k xs).toArray e)) W.heap.size e k xs := World.alloc_heap_new W _
theorem IRow.grown {row : Option Nat} (h : IRow W b e k xs) (hg : W.grownBy W' row) (hne : some b ≠ row) : IRow W' b e k xs := (hg.block b h.lt hne).trans h
theorem IRow.alloc (h : IRow W b e k xs) (o : Obj) : IRow (W.alloc o) b e k xs := h.grown (World.grownBy_alloc W o none) (by simp)
theorem IRow.below {n : Nat} (h : IRow W b e k xs) (hb : Below n W W') (hn : b < n) : IRow W' b e k xs := (hb.block b hn).trans h
theorem IRow.drewN (h : IRow W b e k xs) (n : Nat) : IRow (W.drewN n) b e k xs := h
theorem IRow.drew (h : IRow W b e k xs) : IRow W.drew b e k xs := h
theorem IRow.other (h : IRow W b e k xs) {c i : Nat} (hne : b ≠ c) (v : Value) : IRow (W.setCell ⟨c, i, none⟩ v) b e k xs := (Below.heap_setCell W _ _ b hne).trans h
theorem IRow.set (h : IRow W b e k xs) (i : Nat) (x : Int) : IRow (W.setCell ⟨b, i, none⟩ (.int k x)) b e k (xs.set i x) := by
 obtain ⟨hlt, hk⟩ := Array.getElem?_eq_some_iff.1 h
 show (W.heap.modify b _)[b]? = _
 rw [Array.getElem?_eq_getElem (by rw [Array.size_modify]; exact hlt), Array.getElem_modify_self, hk]
 simp [nums, List.map_set]
theorem IRow.keep {S : Nat → Prop} (h : IRow W b e k xs) (hk : KeepB S W W') (hS : S b) : IRow W' b e k xs := (hk.block b hS h.lt).trans h
end
theorem IRow.four {W : World} {b e : Nat} {k : IntKind} {x0 x1 x2 x3 : Int} (h : IRow W b e k [x0, x1, x2, x3]) :
  W.cell? ⟨b, 0, none⟩ = some (.int k x0) ∧ W.cell? ⟨b, 1, none⟩ = some (.int k x1) ∧ W.cell? ⟨b, 2, none⟩ = some (.int k x2) ∧ W.cell? ⟨b, 3, none⟩ = some (.int k x3) ∧
  W.frozen? ⟨b, 0, none⟩ = false ∧ W.frozen? ⟨b, 1, none⟩ = false ∧ W.frozen? ⟨b, 2, none⟩ = false ∧ W.frozen? ⟨b, 3, none⟩ = false :=
 ⟨h.cell 0 (by simp), h.cell 1 (by simp), h.cell 2 (by simp), h.cell 3 (by simp), h.frozen 0, h.frozen 1, h.frozen 2, h.frozen 3⟩
theorem bsetAt {B b i : Nat} {a w : World} (h : Below B a w) (hb : B ≤ b) (u : Value) : Below B a (w.setCell ⟨b, i, none⟩ u) := h.setCell (p := ⟨b, i, none⟩) hb u
theorem wpList_alloc_at {P : Program} {ops : Array Oper} {rest : List Oper} {o : Oper} {a : Act} {w : World} {Q : Exit → Act → World → Prop} (hgd : o.guard = none) (t : TypeId) (ho : o.op = .alloc t) (C : Array Value)
  (hrun : ∀ w, (Instr.alloc t true (.tuple #[])).run P w = .ok (.pointer (some ⟨w.heap.size, 0, none⟩)) (w.alloc (.cells C t)))
  (h : wpList P ops Q rest (a.put o.dst (.pointer (some ⟨w.heap.size, 0, none⟩))) (w.alloc (.cells C t))) : wpList P ops Q (o :: rest) a w :=
 wpList_plain hgd fun _ hK => by
  unfold Oper.wp execOp
  simp only [ho, Sem.run_bind, Sem.run_pure, Result.andThen_ok, hrun]
  exact hK _ _ h

/-! ### A block whose cells are written out -/
def ORow (W : World) (b : Nat) (e : TypeId) (C : Array Value) : Prop := W.heap[b]? = some (.cells C e (0, 0))
section
variable {W W' : World} {b e : Nat} {C : Array Value}
theorem ORow.lt (h : ORow W b e C) : b < W.heap.size := (Array.getElem?_eq_some_iff.1 h).1
theorem ORow.cell (h : ORow W b e C) (i : Nat) (v : Value) (hi : C[i]? = some v) : W.cell? ⟨b, i, none⟩ = some v := by
 simp [World.cell?, show W.heap[b]? = _ from h, hi]
theorem ORow.frozen (h : ORow W b e C) (i : Nat) : W.frozen? ⟨b, i, none⟩ = false := by simp [World.frozen?, show W.heap[b]? = _ from h]
theorem ORow.new (W : World) (e : TypeId) (C : Array Value) : ORow (W.alloc (.cells C e)) W.heap.size e C := World.alloc_heap_new W _
theorem ORow.grown {row : Option Nat} (h : ORow W b e C) (hg : W.grownBy W' row) (hne : some b ≠ row) : ORow W' b e C := (hg.block b h.lt hne).trans h
theorem ORow.alloc (h : ORow W b e C) (o : Obj) : ORow (W.alloc o) b e C := h.grown (World.grownBy_alloc W o none) (by simp)
theorem ORow.below {n : Nat} (h : ORow W b e C) (hb : Below n W W') (hn : b < n) : ORow W' b e C := (hb.block b hn).trans h
theorem ORow.drewN (h : ORow W b e C) (n : Nat) : ORow (W.drewN n) b e C := h
theorem ORow.other (h : ORow W b e C) {c i : Nat} (hne : b ≠ c) (v : Value) : ORow (W.setCell ⟨c, i, none⟩ v) b e C := (Below.heap_setCell W _ _ b hne).trans h
theorem ORow.set (h : ORow W b e C) (i : Nat) (v : Value) : ORow (W.setCell ⟨b, i, none⟩ v) b e (C.setIfInBounds i v) := by
 obtain ⟨hlt, hk⟩ := Array.getElem?_eq_some_iff.1 h
 show (W.heap.modify b _)[b]? = _
 rw [Array.getElem?_eq_getElem (by rw [Array.size_modify]; exact hlt), Array.getElem_modify_self, hk]
 rfl
theorem ORow.setRow (h : ORow W b e C) (D : Array Value) : ORow (W.setRow b D) b e D := Go.setRow_heap W b C D e (0, 0) h
theorem ORow.setRow_other (h : ORow W b e C) {c : Nat} (hne : b ≠ c) (D : Array Value) : ORow (W.setRow c D) b e C := (Go.setRow_other W c b D hne).trans h
end
end Go.Proofs.Ytchflniekbhohaa.Eng
