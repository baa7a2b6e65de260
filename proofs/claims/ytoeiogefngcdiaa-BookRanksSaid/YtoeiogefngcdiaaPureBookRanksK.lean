/- reedpipelaw08.BookRanks answers true: ranks and entries of a book are told by one another, by the sums of their values' sizes. -/
import Derived.Test.YtoeiogefngcdiaaPArgsK
import Derived.Test.YtoeiogefngcdiaaPxreedpipelaw08BookranksK

/- reedpipelaw08.BookRanks answers true: ranks and entries of a book are told by one another, by the sums of their values' sizes. -/
namespace Go.Proofs.Ytoeiogefngcdiaa.Pure
open Go.RowKit Go.Proofs.Ytoeiogefngcdiaa.P Go.Proofs.YtoeiogefngcdiaaW.PrintWords Go.Proofs.YtoeiogefngcdiaaW.PrintLast
set_option linter.unusedVariables false
set_option linter.unusedSimpArgs false

def ranksOk (id : Int) : Bool := (List.range (manyV id).toNat).all fun r => decide (reedpipelaw08_BookRanks.j0 20 (r : Int) false id (kindV id).2.2.2.1 (entL id) (rnkL id) = some true)
set_option maxRecDepth 100000 in
theorem ranksOk_all {id : Int} (h1 : 1 ≤ id) (h2 : id ≤ 12) : ranksOk id = true := by
  rcases kind_cases h1 h2 with rfl | rfl | rfl | rfl | rfl | rfl | rfl | rfl | rfl | rfl | rfl | rfl <;> decide +kernel
theorem BookRanks : reedpipelaw08_BookRanks.Pure := by
  intro a0 a1 w0 w1
  apply Ev.rounds (g := fun k => reedpipelaw08_BookRanks.f k a0 a1)
  obtain ⟨h1, h2⟩ := id_of w0
  refine Ev.congr (f := fun k => (reedpipelaw08_alive.f k).bind fun t440 => ((book_Get.f (wrap64 ((Int.tmod (wrap64 (a0)) 12) + 1))).bind fun bt441 => (if bt441.2.2.2.2 = 0 then (if t440 = true then (reedpipelaw08_BookRanks.j0 k a1 ((bt441.2.2.1.length : Int) != (bt441.2.2.2.1.length : Int)) bt441.1 bt441.2.1 bt441.2.2.1 bt441.2.2.2.1) else (reedpipelaw08_BookRanks.j0 k a1 true bt441.1 bt441.2.1 bt441.2.2.1 bt441.2.2.2.1)) else (reedpipelaw08_BookRanks.j0 k a1 true bt441.1 bt441.2.1 bt441.2.2.1 bt441.2.2.2.1)))) (fun k => rfl) ?_
  generalize wrap64 (Int.tmod (wrap64 a0) 12 + 1) = id at h1 h2 ⊢
  refine Ev.bind alive_ev ?_
  have hv : bookV id = (id, (kindV id).2.2.2.1, entL id, rnkL id, 0) := by unfold bookV; rw [if_pos ⟨h1, h2⟩]
  have hl := len_tab h1 h2
  have hm := many_in h1 h2
  refine Ev.congr (f := fun k => reedpipelaw08_BookRanks.j0 k a1 false id (kindV id).2.2.2.1 (entL id) (rnkL id)) (fun k => ?_) ?_
  · rw [show book_Get.f id = some (bookV id) from rfl, hv]
    simp only [Option.bind_some]
    rw [if_pos trivial, if_pos trivial, show (((entL id).length : Int) != ((rnkL id).length : Int)) = false by rw [hl.1, hl.2]; simp]
  · obtain ⟨r, hr, hrl⟩ := tm_of w1 (n := ((entL id).length : Int)) (by omega)
    have hs := tm_self (n := ((entL id).length : Int)) r hrl (by omega)
    have hj := List.all_eq_true.1 (ranksOk_all h1 h2) r (List.mem_range.2 (by omega))
    rw [decide_eq_true_eq] at hj
    refine Ev.of (g := fun k => reedpipelaw08_BookRanks.j0 k a1 false id (kindV id).2.2.2.1 (entL id) (rnkL id)) (fun k => (reedpipelaw08_BookRanks.mono_l k).1 _ _ _ _ _ _) (k := 20) ?_
    rw [← hj]
    simp only [reedpipelaw08_BookRanks.j0, hr, hs]
end Go.Proofs.Ytoeiogefngcdiaa.Pure
