/- reedpipelaw08.BookCodes answers true: an entry's code, and the entry of some bits, or the errors, are the document's, for any book, entry, bits and place. -/
import Derived.Test.YtoeiogefngcdiaaPCodeRC
import Derived.Test.YtoeiogefngcdiaaC3a0

/- reedpipelaw08.BookCodes answers true: an entry's code, and the entry of some bits, or the errors, are the document's, for any book, entry, bits and place. -/
namespace Go.Proofs.Ytoeiogefngcdiaa.Pure
open Go.RowKit Go.Proofs.Ytoeiogefngcdiaa.P Go.Proofs.YtoeiogefngcdiaaW.PrintWords Go.Proofs.YtoeiogefngcdiaaW.PrintLast
set_option linter.unusedVariables false
set_option linter.unusedSimpArgs false

theorem BookCodes (a0 a1 : Int) (E R : List Int) (e : Int) (l : List Int) (p : Int) (hb : ∀ x ∈ l, (Lit.int .u8 x).wf = true) : ∃ k, reedpipelaw08_BookCodes.f k a0 a1 E R e l p = some true := by
  have done : ∀ k, reedpipelaw08_BookCodes.j0 (k + 1) e l p true a0 a1 E R = some true := fun k => by
    simp only [reedpipelaw08_BookCodes.j0]; rw [if_pos trivial]
  by_cases g1 : (E.length : Int) > 2000
  · refine ⟨1, ?_⟩
    unfold reedpipelaw08_BookCodes.f reedpiperef08_Great.f
    rw [if_pos g1]
    simp only [Option.bind_some]
    rw [if_pos trivial]; exact done 0
  by_cases g2 : (R.length : Int) > 2000
  · refine ⟨1, ?_⟩
    unfold reedpipelaw08_BookCodes.f reedpiperef08_Great.f
    rw [if_neg g1, decide_eq_true g2]
    simp only [Option.bind_some]
    rw [if_pos trivial]; exact done 0
  have hg : reedpiperef08_Great.f a0 a1 E R = some false := by unfold reedpiperef08_Great.f; rw [if_neg g1, decide_eq_false g2]
  by_cases g3 : (l.length : Int) > 10000
  · refine ⟨1, ?_⟩
    unfold reedpipelaw08_BookCodes.f
    rw [hg, decide_eq_true g3]
    simp only [Option.bind_some]
    rw [if_neg (by decide)]; exact done 0
  have B : Byt l := ⟨by omega, fun x hx => by
    have w := hb x hx
    have e1 : IntKind.u8.min = 0 := rfl
    have e2 : IntKind.u8.max = 255 := rfl
    simp [Lit.wf] at w; omega⟩
  obtain ⟨K1, c1⟩ := code_ev a0 a1 E R e
  obtain ⟨K2, c2⟩ := refCode_ev a0 a1 E R (by omega) (by omega) e
  obtain ⟨K3, c3⟩ := read_ev a0 a1 E R B p
  obtain ⟨K4, c4⟩ := refRead_ev a0 a1 E R (by omega) (by omega) B p
  dsimp only at c1 c2 c3 c4
  refine ⟨K1 + K2 + K3 + K4 + 1, ?_⟩
  unfold reedpipelaw08_BookCodes.f
  rw [hg, decide_eq_false g3]
  simp only [Option.bind_some]
  rw [if_neg (by decide)]
  simp only [reedpipelaw08_BookCodes.j0]
  rw [if_neg (by decide), c1 _ (by omega), c2 _ (by omega), c3 _ (by omega), c4 _ (by omega)]
  simp only [Option.bind_some]
  rw [if_pos trivial, if_pos trivial, if_pos trivial, if_pos trivial, if_pos trivial]
  simp
end Go.Proofs.Ytoeiogefngcdiaa.Pure
