/- slices.Grow of the nil slice, at bytes: a new row of no bytes (out of the kit's shelf, laid in plain words). -/
import Derived.Test.YtchflniekbhohaaL0a0
import Derived.Shelf.Spec.SlicesGrow
import Derived.Test.YtchflniekbhohaaEngL

/- slices.Grow of the nil slice, at bytes: a new row of no bytes (out of the kit's shelf, laid in plain words). -/
namespace Go.Proofs.Ytchflniekbhohaa.P
open Go.RowKit Go.Shelf Go.Proofs.YtchflniekbhohaaW.PrintWords Go.Proofs.YtchflniekbhohaaW.PrintLast
def rG : Ren := ⟨fun x => if x = 4 then 60 else x, fun x => if x = 25 then 5 else if x = 22 then 22 else x, fun x => x⟩
theorem layG : Lays8.n4 Try.prog rG := by
 constructor <;> first | kernel_rfl | (intro w; kernel_rfl) | (intro w; rfl) | exact ⟨Try.f60.name, by kernel_rfl, by kernel_rfl⟩
def slices_Grow_byte_byte.f (l0 : List Int) (a1 : Int) : Option (List Int) := if l0 = [] ∧ 1 ≤ a1 ∧ a1 ≤ 1073741824 then some [] else none
theorem infoG : ∃ i0, Try.prog.info? (rG.t 25) = some i0 ∧ i0.zero = some (.int .u8 0) ∧ i0.size = 1 ∧ i0.bytes = 1 := by
 have h : (Try.prog.info? 5).map (fun i => (i.zero, i.size, i.bytes)) = some (some (.int .u8 0), 1, 1) := by kernel_rfl
 cases e : Try.prog.info? 5 with
 | none => rw [e] at h; cases h
 | some i => rw [e] at h; simp at h; exact ⟨i, e, h.1, h.2.1, h.2.2⟩
theorem slices_Grow_byte_byte.calls (A0 : Option Addr) (c0 : Nat) (l0 : List Int) (a1 : Int) (r : List Int) (w : World) (hr0 : Kd.C (Kd.int .u8) w A0 l0.length l0) (hc0 : c0 ≤ l0.length) (h : slices_Grow_byte_byte.f l0 a1 = some r) :
  Calls Try.prog 60 #[.slice A0 l0.length c0, .int .i64 a1] w fun e w' => ∃ v0_ : Value, e = .returned (v0_) ∧ Kd.R (Kd.int .u8) 5 w' w.heap.size (fun _ => True) v0_ r ∧ Below w.heap.size w w' := by
 unfold slices_Grow_byte_byte.f at h
 by_cases g : l0 = [] ∧ 1 ≤ a1 ∧ a1 ≤ 1073741824
 ·rw [if_pos g] at h
  obtain ⟨rfl, g1, g2⟩ := g
  obtain rfl := Option.some.inj h
  obtain ⟨n, rfl⟩ : ∃ n : Nat, a1 = (n : Int) := ⟨a1.toNat, by omega⟩
  obtain ⟨i0, hi, hz, hs, hb⟩ := infoG
  obtain rfl : c0 = 0 := by simpa using hc0
  refine (Any8.slices_Grow_grow layG i0 _ hi hz (by omega) A0 0 0 n [] w (Nat.le_refl _) (by omega) (by rw [hb]; omega) (by omega) (by simp) (fun _ => rfl) (by intro a _ j v hj; simp at hj)).mono ?_
  rintro e w' ⟨rfl, rfl⟩
  refine ⟨_, rfl, Kd.R_of_own ⟨rfl, .inr ⟨_, _, _, rfl, Nat.le_refl _, by first | exact World.alloc_heap_new _ _ | (show _ = _; simp [World.alloc]), Nat.zero_le _, ?_, ?_, ?_⟩⟩ (fun _ _ => trivial), below_alloc (below_drew1 (Below.refl _ _)) _⟩
  ·exact grownCap_le_maxLen w _ _ _ (Nat.le_trans (by omega : 0 + n ≤ 1073741824) (by decide))
  ·have hg : 0 + n ≤ grownCap w (0 + n) 0 (rG.t 25) := by first | exact le_grownCap w _ _ _ | exact grownCap_ge w _ _ _ | exact need_le_grownCap w _ _ _
   rw [Nat.zero_add] at hg ⊢
   simp [size_zeroCells, Value.cells]; omega
  ·simp [encs]
 ·rw [if_neg g] at h; cases h
end Go.Proofs.Ytchflniekbhohaa.P
