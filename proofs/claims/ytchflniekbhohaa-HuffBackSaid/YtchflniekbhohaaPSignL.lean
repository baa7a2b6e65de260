/- Which books' entries have signs. -/
import Derived.Test.YtchflniekbhohaaL0a0

/- Which books' entries have signs. -/
namespace Go.Proofs.Ytchflniekbhohaa.Pure
open Go.RowKit Go.Proofs.Ytchflniekbhohaa.P Go.Proofs.YtchflniekbhohaaW.PrintWords Go.Proofs.YtchflniekbhohaaW.PrintLast Go.Proofs.YtchflniekbhohaaW.PrintMore
/-- Has a book entries with signs? -/
def signB (id : Int) : Bool := decide (id < 3) || decide (id = 5) || decide (id = 6)
theorem signed_f (id : Int) : huff_signed.f id = some (signB id) := by
 unfold huff_signed.f signB
 by_cases a : id < 3
 ·rw [if_pos a]; simp [a]
 ·rw [if_neg a]
  by_cases b : id = 5
  ·rw [if_pos b]; simp [b]
  ·rw [if_neg b]; simp only [a, b, decide_false, Bool.false_or]; rfl
end Go.Proofs.Ytchflniekbhohaa.Pure
