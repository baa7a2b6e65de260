/- reedpipelaw08.BookTells answers true: a book, an entry's values, and the entry of some, or the errors, are the document's, for all numbers and values. -/
import Derived.Test.YtoeiogefngcdiaaPBookJ
import Derived.Test.YtoeiogefngcdiaaPxreedpipelaw08BooktellsJ

/- reedpipelaw08.BookTells answers true: a book, an entry's values, and the entry of some, or the errors, are the document's, for all numbers and values. -/
namespace Go.Proofs.Ytoeiogefngcdiaa.Pure
open Go.RowKit Go.Proofs.Ytoeiogefngcdiaa.P Go.Proofs.YtoeiogefngcdiaaW.PrintWords Go.Proofs.YtoeiogefngcdiaaW.PrintLast
set_option linter.unusedVariables false
set_option linter.unusedSimpArgs false

theorem same_self (a b : Int) (l m : List Int) (hl : l.length ≤ 289) (hm : m.length ≤ 289) : Ev (fun k => reedpiperef08_Same.f k a b l m a b l m) true := by
  refine Ev.congr (f := fun k => (reedpiperef06_Ints.f k l l).bind fun t => if t = true then (reedpiperef06_Ints.f k m m).bind fun t => some t else some false) (fun k => ?_) (Ev.bind (ints_self l (by omega)) ?_)
  · unfold reedpiperef08_Same.f; rw [if_pos rfl, if_pos rfl]
  · exact Ev.congr (f := fun k => (reedpiperef06_Ints.f k m m).bind fun t => some t) (fun k => by rw [if_pos rfl]) (Ev.bind (ints_self m (by omega)) (Ev.now _))
theorem valuesV_len (id e : Int) : (valuesV id e).1.length ≤ 60 := by
  unfold valuesV
  by_cases g : 1 ≤ id ∧ id ≤ 12 ∧ 0 ≤ e ∧ e < manyV id
  · rw [if_pos g]
    have : (kindV id).1.toNat ≤ 4 := (kind_ok g.1 g.2.1).1.d4
    simp [valL]; omega
  · rw [if_neg g]; simp
theorem BookTells : reedpipelaw08_BookTells.Pure := by
  intro id e l _ _ _ hl _
  by_cases h : (l.length : Int) > 1000
  · exact ⟨0, by unfold reedpipelaw08_BookTells.f; rw [if_pos h]⟩
  · obtain ⟨r, ⟨K1, e1⟩, ⟨K2, e2⟩⟩ := entry_ev id l (by omega)
    obtain ⟨⟨K3, v1⟩, ⟨K4, v2⟩⟩ := values_ev id e
    obtain ⟨K5, g2⟩ := refGet_ev id
    have hb := bookV_len id
    obtain ⟨K6, s1⟩ := same_self (bookV id).1 (bookV id).2.1 (bookV id).2.2.1 (bookV id).2.2.2.1 hb.1 hb.2
    obtain ⟨K7, i1⟩ := ints_self (valuesV id e).1 (by have := valuesV_len id e; omega)
    obtain ⟨K8, i2⟩ := ints_self l (by omega)
    dsimp only at e1 e2 v1 v2 g2 s1 i1 i2
    refine ⟨K1 + K2 + K3 + K4 + K5 + K6 + K7 + K8, ?_⟩
    unfold reedpipelaw08_BookTells.f
    rw [if_neg h]
    simp only [Option.bind_some, List.length_nil, List.nil_append]
    rw [if_pos (by omega)]
    rw [show book_Get.f id = some (bookV id) from rfl]
    simp only [Option.bind_some]
    rw [g2 _ (by omega)]
    simp only [Option.bind_some]
    rw [v1 _ (by omega), v2 _ (by omega)]
    simp only [Option.bind_some]
    rw [e1 _ (by omega), e2 _ (by omega)]
    simp only [Option.bind_some]
    rw [s1 _ (by omega)]
    simp only [Option.bind_some, if_true]
    rw [i1 _ (by omega)]
    simp only [Option.bind_some, if_true]
    rw [i2 _ (by omega)]
    rfl
end Go.Proofs.Ytoeiogefngcdiaa.Pure
