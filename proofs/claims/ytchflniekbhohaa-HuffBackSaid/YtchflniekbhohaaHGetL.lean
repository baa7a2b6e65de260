/- book.Get answers a book (its number, plain bits, entries and ranks), or ErrArg: for every number. -/
import Derived.Test.YtchflniekbhohaaHTabL

/- book.Get answers a book (its number, plain bits, entries and ranks), or ErrArg: for every number. -/
namespace Go.Proofs.Ytchflniekbhohaa.P
open Go.RowKit Go.Sort Go.Proofs.Ytchflniekbhohaa.Eng Go.Proofs.YtchflniekbhohaaW.PrintWords Go.Proofs.YtchflniekbhohaaW.PrintLast
set_option linter.unusedVariables false
set_option linter.unusedSimpArgs false

/-- A book: its number, how many plain bits, its entries by rank, its ranks by entry; and an error. -/
def bookV (id : Int) : Int × Int × List Int × List Int × Int :=
 if 1 ≤ id ∧ id ≤ 12 then (id, (kindV id).2.2.2.1, entL id, rnkL id, 0) else (0, 0, [], [], 2)
def book_Get.f (a0 : Int) : Option (Int × Int × List Int × List Int × Int) := some (bookV a0)
theorem entL_lt {id : Int} (h1 : 1 ≤ id) (h2 : id ≤ 12) : ∀ j : Nat, j < (manyV id).toNat → rd (entL id) (j : Int) < manyV id := by
 have H : ∀ (l : List Int) (m : Int), (∀ x ∈ l, x < m) → 0 < m → ∀ j : Nat, rd l (j : Int) < m := by
  intro l m h h0 j
  unfold rd
  rw [Int.toNat_natCast, List.getD_eq_getElem?_getD]
  cases e : l[j]? with
  | none => simpa using h0
  | some x => exact h x (List.mem_of_getElem? e)
 intro j _
 refine H _ _ ?_ ?_ j
 ·rcases kind_cases h1 h2 with rfl | rfl | rfl | rfl | rfl | rfl | rfl | rfl | rfl | rfl | rfl | rfl <;> decide +kernel
 ·rcases kind_cases h1 h2 with rfl | rfl | rfl | rfl | rfl | rfl | rfl | rfl | rfl | rfl | rfl | rfl <;> decide
theorem getF_tab {id : Int} (h1 : 1 ≤ id) (h2 : id ≤ 12) : ∃ r, book_GetF.f 6 id = some r := by
 rcases kind_cases h1 h2 with rfl | rfl | rfl | rfl | rfl | rfl | rfl | rfl | rfl | rfl | rfl | rfl <;> exact Option.isSome_iff_exists.1 (by decide +kernel)

/-- **book.Get, for every number.** -/
theorem book_Get.calls (a0 : Int) (r1 : Int) (r2 : Int) (r3 : List Int) (r4 : List Int) (r5 : Int) (w : World) (h : book_Get.f a0 = some (r1, r2, r3, r4, r5)) :
  Calls Try.prog 26 #[.int .i64 a0] w fun e w' => ∃ v2_ v3_ : Value, e = .returned (.tuple #[.agg #[.int .i64 r1, .int .i64 r2, v2_, v3_], .int .i64 r5]) ∧ Kd.R (Kd.int .i64) 3 w' w.heap.size (fun k_ => some k_ ≠ (v3_ : Value).ownBlock) v2_ r3 ∧ Kd.R (Kd.int .i64) 3 w' w.heap.size (fun k_ => some k_ ≠ (v2_ : Value).ownBlock) v3_ r4 ∧ Below w.heap.size w w' := by
 have hV : bookV a0 = (r1, r2, r3, r4, r5) := Option.some.inj h
 clear h
 unfold bookV at hV
 by_cases g : 1 ≤ a0 ∧ a0 ≤ 12
 ·rw [if_pos g] at hV
  simp only [Prod.mk.injEq] at hV
  obtain ⟨rfl, rfl, rfl, rfl, rfl⟩ := hV
  obtain ⟨⟨s1, s2, s3, s4, s5⟩, hr⟩ := getF_tab g.1 g.2
  have := get_walk 6 a0 s1 s2 s3 s4 s5 w rfl g.1 g.2 (by rw [ent_tab g.1 g.2]; exact entL_lt g.1 g.2) hr
  rw [ent_tab g.1 g.2, rnk_tab g.1 g.2] at this
  exact this
 ·rw [if_neg g] at hV
  simp only [Prod.mk.injEq] at hV
  obtain ⟨rfl, rfl, rfl, rfl, rfl⟩ := hV
  refine (get_bad a0 w g).mono ?_
  rintro e w' ⟨rfl, hb⟩
  exact ⟨_, _, rfl, Kd.R_nil _ _ _ _ _, Kd.R_nil _ _ _ _ _, hb⟩
end Go.Proofs.Ytchflniekbhohaa.P
