/- Numbers that a law's arguments give: a book's number, an entry's. -/
import Derived.Test.YtoeiogefngcdiaaPBookOK

/- Numbers that a law's arguments give: a book's number, an entry's. -/
namespace Go.Proofs.Ytoeiogefngcdiaa.Pure
open Go.RowKit Go.Proofs.Ytoeiogefngcdiaa.P Go.Proofs.YtoeiogefngcdiaaW.PrintWords Go.Proofs.YtoeiogefngcdiaaW.PrintLast
set_option linter.unusedVariables false
set_option linter.unusedSimpArgs false

theorem u8_in {a : Int} (w : (Lit.int .u8 a).wf = true) : 0 ≤ a ∧ a ≤ 255 := by
  have e1 : IntKind.u8.min = 0 := rfl
  have e2 : IntKind.u8.max = 255 := rfl
  simp [Lit.wf] at w; omega
theorem u16_in {a : Int} (w : (Lit.int .u16 a).wf = true) : 0 ≤ a ∧ a ≤ 65535 := by
  have e1 : IntKind.u16.min = 0 := rfl
  have e2 : IntKind.u16.max = 65535 := rfl
  simp [Lit.wf] at w; omega
theorem id_of {a : Int} (w : (Lit.int .u8 a).wf = true) : 1 ≤ wrap64 (Int.tmod (wrap64 a) 12 + 1) ∧ wrap64 (Int.tmod (wrap64 a) 12 + 1) ≤ 12 := by
  have := u8_in w
  rw [w64 (x := a) (by omega) (by omega), Int.tmod_eq_emod_of_nonneg this.1, w64 (by omega) (by omega)]
  omega
theorem tm_of {a n : Int} (w : (Lit.int .u16 a).wf = true) (h : 0 < n) : ∃ r : Nat, Int.tmod (wrap64 a) n = (r : Int) ∧ (r : Int) < n := by
  have := u16_in w
  rw [w64 (x := a) (by omega) (by omega), Int.tmod_eq_emod_of_nonneg this.1]
  have h1 := Int.emod_nonneg a (Int.ne_of_gt h)
  have h2 := Int.emod_lt_of_pos a h
  exact ⟨(a % n).toNat, by omega, by omega⟩
theorem tm_self {n : Int} (r : Nat) (h : (r : Int) < n) (hn : n ≤ 1000) : Int.tmod (wrap64 (r : Int)) n = (r : Int) := by
  rw [w64 (by omega) (by omega), Int.tmod_eq_emod_of_nonneg (by omega)]
  exact Int.emod_eq_of_lt (by omega) h
theorem many_in {id : Int} (h1 : 1 ≤ id) (h2 : id ≤ 12) : 0 < manyV id ∧ manyV id ≤ 289 := by
  rcases kind_cases h1 h2 with rfl | rfl | rfl | rfl | rfl | rfl | rfl | rfl | rfl | rfl | rfl | rfl <;> decide
theorem bookV_at {id : Int} (h1 : 1 ≤ id) (h2 : id ≤ 12) : book_Get.f id = some (id, (kindV id).2.2.2.1, entL id, rnkL id, 0) := by
  show some (bookV id) = _
  unfold bookV; rw [if_pos ⟨h1, h2⟩]
end Go.Proofs.Ytoeiogefngcdiaa.Pure
