/- book.of answers a book's kind (dim, low, high, plain) and OK for the numbers 1 to 12, and zeros and ErrArg for all others. -/
import Derived.Test.YtchflniekbhohaaL0a0
import Derived.Test.YtchflniekbhohaaEngL
import Derived.Outline

/- book.of answers a book's kind (dim, low, high, plain) and OK for the numbers 1 to 12, and zeros and ErrArg for all others. -/
namespace Go.Proofs.Ytchflniekbhohaa.P
open Go.RowKit Go.Proofs.Ytchflniekbhohaa.Eng Go.Proofs.YtchflniekbhohaaW.PrintWords Go.Proofs.YtchflniekbhohaaW.PrintLast
set_option linter.unusedVariables false
set_option linter.unusedSimpArgs false

/-- The kinds of the books. -/
def kindV (id : Int) : Int × Int × Int × Int × Int :=
 if id < 1 then (0, 0, 0, 0, 2) else if id > 12 then (0, 0, 0, 0, 2)
 else if id = 1 then (4, -1, 1, 0, 0) else if id = 2 then (4, -1, 1, 1, 0) else if id = 3 then (4, 0, 2, 0, 0) else if id = 4 then (4, 0, 2, 1, 0)
 else if id = 5 then (2, -4, 4, 0, 0) else if id = 6 then (2, -4, 4, 1, 0) else if id = 7 then (2, 0, 7, 1, 0) else if id = 8 then (2, 0, 7, 2, 0)
 else if id = 9 then (2, 0, 12, 1, 0) else if id = 10 then (2, 0, 12, 2, 0) else if id = 11 then (2, 0, 16, 2, 0) else (1, -60, 60, 0, 0)
def book_of.f (a0 : Int) : Option (Int × Int × Int × Int × Int) := some (kindV a0)

def KC : Array Value := (nums .i64 [0, 0, 0, 0, 4, -1, 1, 0, 4, -1, 1, 1, 4, 0, 2, 0, 4, 0, 2, 1, 2, -4, 4, 0, 2, -4, 4, 1, 2, 0, 7, 1, 2, 0, 7, 2, 2, 0, 12, 1, 2, 0, 12, 2, 2, 0, 16, 2, 1, -60, 60, 0]).toArray
def Z52 : Array Value := (nums .i64 (List.replicate 52 0)).toArray
theorem zeros52_run : ∀ w, (Instr.alloc 115 true (.tuple #[])).run Try.prog w = .ok (.pointer (some ⟨w.heap.size, 0, none⟩)) (w.alloc (.cells Z52 115)) := fun w => by kernel_rfl

theorem kinds_calls (w : World) : Calls Try.prog 82 #[] w fun e w' => e = .returned (.agg KC) ∧ Below w.heap.size w w' := by
 have hz : (w.alloc (.cells Z52 115)).heap[w.heap.size]? = some (.cells Z52 115 (0, 0)) := World.alloc_heap_new w _
 have HZ := Aside0.mk hz
 clear hz
 go_enter Try.func82, Try.ntmps82
 go_wp2_with (first | refine wpList_alloc_at rfl 115 rfl _ zeros52_run ?_ | refine wpList_build rfl 115 _ rfl (by kernel_rfl) ?_ | refine wpList_store_row rfl 115 _ _ rfl w.heap.size KC (by rfl) (by kernel_rfl) 115 Z52 HZ.out (by kernel_rfl) (by kernel_rfl) (by kernel_rfl) ?_)
 refine bodyPost_ret (results_cell_row rfl _ _ w.heap.size 115 KC (0, 0) _ rfl (setRow_heap _ _ _ _ _ _ HZ.out) Try.underlying115 rfl (by kernel_rfl)) rfl ?_
 exact ⟨rfl, below_setRow ((Below.refl _ w).alloc (Nat.le_refl _) _) (Nat.le_refl _) _⟩

set_option maxHeartbeats 1000000 in
theorem of_odd (id : Int) (w : World) (h : id < 1 ∨ 12 < id) : Calls Try.prog 52 #[.int .i64 id] w fun e w' => e = .returned (.tuple #[.agg #[.int .i64 0, .int .i64 0, .int .i64 0, .int .i64 0], .int .i64 2]) ∧ Below w.heap.size w w' := by
 rcases h with h | h
 ·go_enter Try.func52, Try.ntmps52
  go_wp2
  exact bodyPost_ret (v := .tuple #[.agg #[.int .i64 0, .int .i64 0, .int .i64 0, .int .i64 0], .int .i64 2]) (by simp [results, Try.results52, go_sem]) rfl ⟨rfl, (Below.refl _ _).alloc (Nat.le_refl _) _⟩
 ·have h' : ¬ id < 1 := by omega
  go_enter Try.func52, Try.ntmps52
  go_wp2
  exact bodyPost_ret (v := .tuple #[.agg #[.int .i64 0, .int .i64 0, .int .i64 0, .int .i64 0], .int .i64 2]) (by simp [results, Try.results52, go_sem]) rfl ⟨rfl, (Below.refl _ _).alloc (Nat.le_refl _) _⟩
set_option maxHeartbeats 1000000 in
theorem of_at (id a b c d : Int) (w : World) (h1 : 1 ≤ id) (h2 : id ≤ 12) (hix : ∀ w, (Instr.index 115 (.agg KC) (.int .i64 id)).run Try.prog w = .ok (.agg #[.int .i64 a, .int .i64 b, .int .i64 c, .int .i64 d]) w) :
  Calls Try.prog 52 #[.int .i64 id] w fun e w' => e = .returned (.tuple #[.agg #[.int .i64 a, .int .i64 b, .int .i64 c, .int .i64 d], .int .i64 0]) ∧ Below w.heap.size w w' := by
 have HI := Aside0.mk hix
 clear hix
 go_enter Try.func52, Try.ntmps52
 go_wp2_with fail
 have k0 := IRow.new w 88 .i64 [0, 0, 0, 0]
 have hB : Below w.heap.size w (w.alloc (.cells (nums .i64 [0, 0, 0, 0]).toArray 88)) := (Below.refl _ _).alloc (Nat.le_refl _) _
 refine (kinds_calls _).mono ?_
 rintro e w4 ⟨rfl, hd4⟩
 have k4 := k0.below hd4 (by simp)
 have hB4 := below_then hB hB.size hd4
 obtain ⟨c0, c1, c2, c3, f0, f1, f2, f3⟩ := k4.four
 have r4 := (((k4.set 0 a).set 1 b).set 2 c).set 3 d
 have hB5 := bsetAt (i := 3) (bsetAt (i := 2) (bsetAt (i := 1) (bsetAt (i := 0) hB4 (Nat.le_refl _) (.int .i64 a)) (Nat.le_refl _) (.int .i64 b)) (Nat.le_refl _) (.int .i64 c)) (Nat.le_refl _) (.int .i64 d)
 have R4 := Aside0.mk r4
 have HB5 := Aside0.mk hB5
 have hix := HI.out
 clear k0 hB hd4 k4 hB4 r4 hB5
 go_wp2
 generalize (((w4.setCell ⟨w.heap.size, 0, none⟩ (.int .i64 a)).setCell ⟨w.heap.size, 1, none⟩ (.int .i64 b)).setCell ⟨w.heap.size, 2, none⟩ (.int .i64 c)).setCell ⟨w.heap.size, 3, none⟩ (.int .i64 d) = w5 at R4 HB5 ⊢
 have r4 : IRow w5 w.heap.size 88 .i64 [a, b, c, d] := R4.out
 obtain ⟨d0, d1, d2, d3, _⟩ := r4.four
 exact bodyPost_ret (v := .tuple #[.agg #[.int .i64 a, .int .i64 b, .int .i64 c, .int .i64 d], .int .i64 0]) (by simp [results, Try.results52, go_sem, d0, d1, d2, d3]) rfl ⟨rfl, HB5.out⟩

/-- **book.of, for every number.** -/
theorem book_of.calls (a0 : Int) (r1 : Int) (r2 : Int) (r3 : Int) (r4 : Int) (r5 : Int) (w : World) (h : book_of.f a0 = some (r1, r2, r3, r4, r5)) :
  Calls Try.prog 52 #[.int .i64 a0] w fun e w' => e = .returned (.tuple #[.agg #[.int .i64 r1, .int .i64 r2, .int .i64 r3, .int .i64 r4], .int .i64 r5]) ∧ Below w.heap.size w w' := by
 have hV : kindV a0 = (r1, r2, r3, r4, r5) := Option.some.inj h
 clear h
 by_cases h1 : a0 < 1
 ·unfold kindV at hV
  rw [if_pos h1] at hV
  simp only [Prod.mk.injEq] at hV
  obtain ⟨rfl, rfl, rfl, rfl, rfl⟩ := hV
  exact of_odd a0 w (.inl h1)
 ·by_cases h2 : a0 > 12
  ·unfold kindV at hV
   rw [if_neg h1, if_pos h2] at hV
   simp only [Prod.mk.injEq] at hV
   obtain ⟨rfl, rfl, rfl, rfl, rfl⟩ := hV
   exact of_odd a0 w (.inr (by omega))
  ·have : a0 = 1 ∨ a0 = 2 ∨ a0 = 3 ∨ a0 = 4 ∨ a0 = 5 ∨ a0 = 6 ∨ a0 = 7 ∨ a0 = 8 ∨ a0 = 9 ∨ a0 = 10 ∨ a0 = 11 ∨ a0 = 12 := by omega
   rcases this with rfl | rfl | rfl | rfl | rfl | rfl | rfl | rfl | rfl | rfl | rfl | rfl <;>
   ·simp [kindV] at hV
    obtain ⟨rfl, rfl, rfl, rfl, rfl⟩ := hV
    exact of_at _ _ _ _ _ w (by omega) (by omega) (fun w => by kernel_rfl)
end Go.Proofs.Ytchflniekbhohaa.P
