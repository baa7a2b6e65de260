/- Small laws of ours for walks over iterators: what a round keeps, by blocks. -/
import Derived.RangeFuncNested
import Derived.RangeFuncBound
import Derived.RangeFuncCalls
import Derived.RangeFuncLeaves
import Derived.RangeFuncBox
import Derived.Shelf.Abstract
import Derived.Shelf.RegionOpen
import Derived.OwnWalkIn
import Derived.TacticsInMore
import Derived.LoopNIn
import Derived.LoopIn
import Derived.Sort.QuietIn
import Derived.Sort.CutIn
import Derived.Sort.LoopGhostIn
import Derived.WalkKit
namespace Go.Proofs.Ytlnebmeccgohaaa.Eng
open Go.RowKit

/-- The blocks of S lie as they lay. -/
structure KeepB (S : Nat → Prop) (W W' : World) : Prop where
  size : W.heap.size ≤ W'.heap.size
  block : ∀ i, S i → i < W.heap.size → W'.heap[i]? = W.heap[i]?
theorem KeepB.refl (S : Nat → Prop) (W : World) : KeepB S W W := ⟨Nat.le_refl _, fun _ _ _ => rfl⟩
theorem KeepB.trans {S : Nat → Prop} {A B C : World} (h : KeepB S A B) (k : KeepB S B C) : KeepB S A C :=
  ⟨Nat.le_trans h.size k.size, fun i hi hl => (k.block i hi (Nat.lt_of_lt_of_le hl h.size)).trans (h.block i hi hl)⟩
theorem KeepB.grown {S : Nat → Prop} {A W W' : World} (h : KeepB S A W) {row : Option Nat} (hg : W.grownBy W' row) (hr : ∀ k, row = some k → ¬ S k) : KeepB S A W' :=
  h.trans ⟨hg.size, fun i hi hl => hg.block i hl (fun e => hr i e.symm hi)⟩
theorem KeepB.drewN {S : Nat → Prop} {A W : World} (h : KeepB S A W) (n : Nat) : KeepB S A (W.drewN n) := ⟨h.size, h.block⟩
theorem KeepB.drew {S : Nat → Prop} {A W : World} (h : KeepB S A W) : KeepB S A W.drew := ⟨h.size, h.block⟩
theorem KeepB.alloc {S : Nat → Prop} {A W : World} (h : KeepB S A W) (o : Obj) : KeepB S A (W.alloc o) := h.grown (World.grownBy_alloc W o none) (fun _ e => by cases e)
theorem KeepB.setCell {S : Nat → Prop} {A W : World} (h : KeepB S A W) (b : Nat) (v : Value) (hb : ¬ S b) : KeepB S A (W.setCell ⟨b, 0, none⟩ v) :=
  h.grown (grownBy_setCell' W b v) (fun k e => by cases e; exact hb)
theorem KeepB.below {S : Nat → Prop} {B : Nat} {A W W' : World} (h : KeepB S A W) (hb : Below B W W') (hS : ∀ i, S i → i < B) : KeepB S A W' :=
  h.trans ⟨hb.size, fun i hi _ => hb.block i (hS i hi)⟩
theorem KeepB.cell {S : Nat → Prop} {W W' : World} (h : KeepB S W W') {p : Addr} (hp : S p.block) (hl : p.block < W.heap.size) : W'.cell? p = W.cell? p := World.cell?_of_block (w := W) (h.block p.block hp hl)
theorem keepK_t {S : Nat → Prop} {A B C : World} (h : KeepB S A B) (k : KeepB S B C) : KeepB S A C := h.trans k
theorem keepK_b {S : Nat → Prop} {w : World} (hn : ∀ i, S i → i < w.heap.size) (W : World) (l : Nat) (o o' : Obj) (hl : w.heap.size ≤ l) (h : W.heap[l]? = some o) (_ : o.isCells = false) (_ : o.isWalk = false) : KeepB S W (W.putObj l o') :=
  (KeepB.refl S W).grown (grownBy_putObj' W l o') (fun k e => by cases e; intro hk; have := hn _ hk; omega)
theorem Boxed.drewN {W : World} {B : Nat} {t : TypeId} {v : Value} (h : Boxed W B t v) (n : Nat) : Boxed (W.drewN n) B t v := h
theorem Boxed.drew {W : World} {B : Nat} {t : TypeId} {v : Value} (h : Boxed W B t v) : Boxed W.drew B t v := h
theorem Boxed.below {W W' : World} {B n : Nat} {t : TypeId} {v : Value} (h : Boxed W B t v) (hb : Below n W W') (hn : B < n) : Boxed W' B t v := (hb.block B hn).trans h
theorem abides_drewN {β : Type} {B : Nat} {J : β → World → Prop} (hJ : AbidesFrom B J) {p : β} {X : World} (n : Nat) (h : J p X) : J p (X.drewN n) :=
  hJ p X _ none h ⟨rfl, rfl, rfl, Nat.le_refl _, fun _ _ _ => rfl⟩ (by simp)
theorem Boxed.putObj {W : World} {B D : Nat} {t : TypeId} {v : Value} (h : Boxed W B t v) (o : Obj) (hne : B ≠ D) : Boxed (W.putObj D o) B t v := h.kept (grownBy_putObj' W D o) (fun e => hne (by cases e; rfl))
theorem bput {B D : Nat} {a w : World} (h : Below B a w) (hB : B ≤ w.heap.size) (hD : B ≤ D) (o : Obj) : Below B a (w.putObj D o) := h.grown (grownBy_putObj' w D o) hB (fun k e => by cases e; exact hD)
theorem heap_setCell0 (W : World) (b : Nat) (v : Value) (D : Nat) (h : D ≠ b) : (W.setCell ⟨b, 0, none⟩ v).heap[D]? = W.heap[D]? := Below.heap_setCell _ _ _ _ h
theorem bset {B b : Nat} {a w : World} (h : Below B a w) (hb : B ≤ b) (u : Value) : Below B a (w.setCell ⟨b, 0, none⟩ u) := h.setCell (p := ⟨b, 0, none⟩) hb u
theorem below_drewN' {B : Nat} {w W : World} (h : Below B w W) (n : Nat) : Below B w (W.drewN n) := ⟨h.os, h.tape, h.output, h.size, h.block⟩
end Go.Proofs.Ytlnebmeccgohaaa.Eng
