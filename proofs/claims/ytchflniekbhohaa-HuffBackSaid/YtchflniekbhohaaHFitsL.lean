/- huff.Fits tells whether values fit a book, or an error: for every number and list. -/
import Derived.Test.YtchflniekbhohaaL0a0
import Derived.Test.YtchflniekbhohaaEng2L
import Derived.Shelf.SlicesE.IndexFunc
import Derived.Outline

/- huff.Fits tells whether values fit a book, or an error: for every number and list. -/
namespace Go.Proofs.Ytchflniekbhohaa.P
open Go.RowKit Go.Shelf Go.Proofs.Ytchflniekbhohaa.Eng Go.Proofs.YtchflniekbhohaaW.PrintWords Go.Proofs.YtchflniekbhohaaW.PrintLast
set_option linter.unusedVariables false
set_option linter.unusedSimpArgs false

def rF : Ren := ⟨fun x => if x = 8 then 47 else if x = 6 then 80 else x, fun x => if x = 22 then 23 else if x = 23 then 3 else if x = 25 then 62 else x, fun x => x⟩
theorem layF : SlLaysH.n8 Try.prog rF := by
 constructor
 case f6 => exact ⟨Try.f80.name, by kernel_rfl, by kernel_rfl⟩
 case f8 => exact ⟨Try.f47.name, by kernel_rfl, by kernel_rfl⟩
 all_goals first | kernel_rfl | (intro w; kernel_rfl) | (intro w; rfl)

/-- A book's greatest size. -/
def mostV (id : Int) : Int := if id ≤ 2 then 1 else if id ≤ 4 then 2 else if id ≤ 6 then 4 else if id ≤ 8 then 7 else if id ≤ 10 then 12 else 8191
def dimV (id : Int) : Int := if id < 5 then 4 else 2
def outB (m v : Int) : Bool := decide (m < v) || decide (v < -m)
def fitsV (id : Int) (l : List Int) : Bool × Int :=
 if id < 1 then (false, 2) else if 11 < id then (false, 2) else if (l.length : Int) ≠ dimV id then (false, 4) else (!l.any (outB (mostV id)), 0)
def huff_Fits.f (a0 : Int) (l1 : List Int) : Option (Bool × Int) := some (fitsV a0 l1)

/-- The closure: is a value too great? -/
theorem fitsFn (m x : Int) (a : Addr) (W : World) (hm0 : 0 ≤ m) (hm1 : m ≤ 8191) (hc : W.cell? a = some (.int .i64 m)) :
  Calls Try.prog 48 (#[.int .i64 x] ++ #[.pointer (some a)]) W fun e w' => e = .returned (.bool (outB m x)) ∧ ∃ q, w' = W.drewN q := by
 show Calls Try.prog 48 #[.int .i64 x, .pointer (some a)] W _
 have hneg : wrap64 (-m) = -m := by unfold wrap64; omega
 by_cases h1 : m < x
 ·have e : outB m x = true := by unfold outB; simp [h1]
  rw [e]
  go_enter Try.func48, Try.ntmps48
  go_wp2
  go_ret
  exact ⟨rfl, 0, rfl⟩
 ·by_cases h2 : x < -m
  ·have e : outB m x = true := by unfold outB; simp [h2]
   rw [e]
   go_enter Try.func48, Try.ntmps48
   go_wp2
   go_ret
   exact ⟨rfl, 0, rfl⟩
  ·have e : outB m x = false := by unfold outB; simp [h1]; omega
   rw [e]
   go_enter Try.func48, Try.ntmps48
   go_wp2
   go_ret
   exact ⟨rfl, 0, rfl⟩

theorem mostV_bd (id : Int) : 0 ≤ mostV id ∧ mostV id ≤ 8191 := by unfold mostV; omega
def GC : Array Value := (nums .i64 [0, 1, 1, 2, 2, 4, 4, 7, 7, 12, 12, 8191, 0]).toArray
def Z13 : Array Value := (nums .i64 (List.replicate 13 0)).toArray
theorem zeros13_run : ∀ w, (Instr.alloc 81 true (.tuple #[])).run Try.prog w = .ok (.pointer (some ⟨w.heap.size, 0, none⟩)) (w.alloc (.cells Z13 81)) := fun w => by kernel_rfl
theorem greatest_calls (w : World) : Calls Try.prog 46 #[] w fun e w' => e = .returned (.agg GC) ∧ Below w.heap.size w w' := by
 have hz : (w.alloc (.cells Z13 81)).heap[w.heap.size]? = some (.cells Z13 81 (0, 0)) := World.alloc_heap_new w _
 have HZ := Aside0.mk hz
 clear hz
 go_enter Try.func46, Try.ntmps46
 go_wp2_with (first | refine wpList_alloc_at rfl 81 rfl _ zeros13_run ?_ | refine wpList_build rfl 81 _ rfl (by kernel_rfl) ?_ | refine wpList_store_row rfl 81 _ _ rfl w.heap.size GC (by rfl) (by kernel_rfl) 81 Z13 HZ.out (by kernel_rfl) (by kernel_rfl) (by kernel_rfl) ?_)
 refine bodyPost_ret (results_cell_row rfl _ _ w.heap.size 81 GC (0, 0) _ rfl (setRow_heap _ _ _ _ _ _ HZ.out) Try.underlying81 rfl (by kernel_rfl)) rfl ?_
 exact ⟨rfl, below_setRow ((Below.refl _ w).alloc (Nat.le_refl _) _) (Nat.le_refl _) _⟩

theorem fits_pred (m : Int) (w2 : World) (hm0 : 0 ≤ m) (hm1 : m ≤ 8191) : PredAt Try.prog 48 #[.pointer (some ⟨w2.heap.size, 0, none⟩)] (Value.int .i64) (outB m) (w2.alloc (.cells #[.int .i64 m] 3)) := by
 intro W x hb
 refine fitsFn m x _ W hm0 hm1 ?_
 exact (hb.cell (p := ⟨w2.heap.size, 0, none⟩) (by rw [World.size_alloc]; exact Nat.lt_succ_self _)).trans (Boxed.new w2 3 (.int .i64 m)).cell
set_option maxHeartbeats 1000000 in
theorem fits_at (id m : Int) (A : Option Addr) (c : Nat) (l : List Int) (w : World) (hl : Kd.C (Kd.int .i64) w A l.length l) (h1 : 1 ≤ id) (h2 : id ≤ 11) (hd4 : l.length ≤ 4) (hd0 : 0 < l.length) (hm0 : 0 ≤ m) (hm1 : m ≤ 8191)
  (hdim : huff_dim.f id = some (l.length : Int)) (hix : ∀ w, (Instr.index 81 (.agg GC) (.int .i64 id)).run Try.prog w = .ok (.int .i64 m) w) :
  Calls Try.prog 16 #[.int .i64 id, .slice A l.length c] w fun e w' => e = .returned (.tuple #[.bool (!l.any (outB m)), .int .i64 0]) ∧ Below w.heap.size w w' := by
 have HI := Aside0.mk hix
 obtain ⟨b, off, rfl, hblt, hcell⟩ := ints_cells hl hd0
 have HC := Aside0.mk hcell
 clear hix hl hcell
 have h1' : ¬ id < 1 := by omega
 have h2' : ¬ 11 < id := by omega
 go_enter Try.func16, Try.ntmps16
 go_wp2_with (first
  | (go_at_call 45; refine (huff_dim.calls _ _ _ hdim).mono ?_; rintro e w1 ⟨rfl, hb1⟩)
  | (go_at_call 46; refine (greatest_calls _).mono ?_; rintro e w2 ⟨rfl, hb2⟩; have HB := Aside0.mk (below_then hb1.below hb1.below.size hb2); have HJ := HI.out; clear hb1 hb2)
  | (go_at_call 47; refine (AnyE.slices_ContainsFunc layF (Value.int .i64) (outB m) 48 #[.pointer (some ⟨w2.heap.size, 0, none⟩)] (fun _ _ => by kernel_rfl) b off l.length c l _ (fits_pred m w2 hm0 hm1) (Nat.le_refl _) (by omega) (fun j hj => ((HB.out.alloc HB.out.size _).cell (p := ⟨b, off + j, none⟩) hblt).trans ((HC.out j hj).trans (by rw [getBang])))).mono ?_; rintro e w3 ⟨rfl, q, rfl⟩))
 go_ret2
 exact ⟨rfl, below_drewN' (HB.out.alloc HB.out.size _) q⟩

set_option maxRecDepth 100000 in
/-- **huff.Fits, for every number and list.** -/
theorem huff_Fits.calls (a0 : Int) (A1 : Option Addr) (c1 : Nat) (l1 : List Int) (r1 : Bool) (r2 : Int) (w : World) (hr1 : Kd.C (Kd.int .i64) w A1 l1.length l1) (hc1 : l1.length ≤ c1) (h : huff_Fits.f a0 l1 = some (r1, r2)) :
  Calls Try.prog 16 #[.int .i64 a0, .slice A1 l1.length c1] w fun e w' => e = .returned (.tuple #[.bool r1, .int .i64 r2]) ∧ Below w.heap.size w w' := by
 have hV : fitsV a0 l1 = (r1, r2) := Option.some.inj h
 clear h
 unfold fitsV at hV
 by_cases h1 : a0 < 1
 ·rw [if_pos h1] at hV
  obtain ⟨rfl, rfl⟩ := Prod.mk.inj hV
  go_enter Try.func16, Try.ntmps16
  go_wp2
  go_ret2
  exact ⟨rfl, Below.refl _ _⟩
 rw [if_neg h1] at hV
 by_cases h2 : 11 < a0
 ·rw [if_pos h2] at hV
  obtain ⟨rfl, rfl⟩ := Prod.mk.inj hV
  go_enter Try.func16, Try.ntmps16
  go_wp2
  go_ret2
  exact ⟨rfl, Below.refl _ _⟩
 rw [if_neg h2] at hV
 have hd : huff_dim.f a0 = some (dimV a0) := by unfold huff_dim.f dimV; by_cases g : a0 < 5 <;> simp [g]
 by_cases h3 : (l1.length : Int) ≠ dimV a0
 ·rw [if_pos h3] at hV
  obtain ⟨rfl, rfl⟩ := Prod.mk.inj hV
  have h3b : ((l1.length : Int) != dimV a0) = true := bne_iff_ne.mpr h3
  clear h3 hV
  generalize dimV a0 = dd at hd h3b
  go_enter Try.func16, Try.ntmps16
  go_wp2_with (go_at_call 45; refine (huff_dim.calls _ _ _ hd).mono ?_; rintro e w1 ⟨rfl, hb1⟩)
  go_ret2
  exact ⟨rfl, hb1.below⟩
 ·rw [if_neg h3] at hV
  obtain ⟨rfl, rfl⟩ := Prod.mk.inj hV
  have h3' : dimV a0 = (l1.length : Int) := (Classical.not_not.1 h3).symm
  rw [h3'] at hd
  have hdb : 2 ≤ dimV a0 ∧ dimV a0 ≤ 4 := by unfold dimV; omega
  have hm := mostV_bd a0
  refine fits_at a0 (mostV a0) A1 c1 l1 w hr1 (by omega) (by omega) (by omega) (by omega) hm.1 hm.2 hd ?_
  have : a0 = 1 ∨ a0 = 2 ∨ a0 = 3 ∨ a0 = 4 ∨ a0 = 5 ∨ a0 = 6 ∨ a0 = 7 ∨ a0 = 8 ∨ a0 = 9 ∨ a0 = 10 ∨ a0 = 11 := by omega
  rcases this with rfl | rfl | rfl | rfl | rfl | rfl | rfl | rfl | rfl | rfl | rfl <;> exact fun w => by kernel_rfl
end Go.Proofs.Ytchflniekbhohaa.P
