/- Numbers that a law's arguments give: a book's number, an entry's. -/
import Derived.Test.YtchflniekbhohaaHGetL
import Derived.Test.YtchflniekbhohaaPLitL

/- Numbers that a law's arguments give: a book's number, an entry's. -/
namespace Go.Proofs.Ytchflniekbhohaa.Pure
open Go.RowKit Go.Proofs.Ytchflniekbhohaa.P Go.Proofs.YtchflniekbhohaaW.PrintWords Go.Proofs.YtchflniekbhohaaW.PrintLast
set_option linter.unusedVariables false
set_option linter.unusedSimpArgs false

theorem u8_in {a : Int} (w : (Lit.int .u8 a).wf = true) : 0 ≤ a ∧ a ≤ 255 := by
 have e1 : IntKind.u8.min = 0 := rfl
 have e2 : IntKind.u8.max = 255 := rfl
 simp [Lit.wf] at w; omega
theorem u8s {l : List Int} (h : ∀ x ∈ l, (Lit.int .u8 x).wf = true) : ∀ x ∈ l, 0 ≤ x ∧ x ≤ 255 := fun x hx => u8_in (h x hx)
theorem bookV_at {id : Int} (h1 : 1 ≤ id) (h2 : id ≤ 12) : book_Get.f id = some (id, (kindV id).2.2.2.1, entL id, rnkL id, 0) := by
 show some (bookV id) = _
 unfold bookV; rw [if_pos ⟨h1, h2⟩]
end Go.Proofs.Ytchflniekbhohaa.Pure
