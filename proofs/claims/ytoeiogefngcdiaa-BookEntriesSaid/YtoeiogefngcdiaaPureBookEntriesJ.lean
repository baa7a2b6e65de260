/- reedpipelaw08.BookEntries answers true: values and entries are told by one another, for all numbers, entries and values. -/
import Derived.Test.YtoeiogefngcdiaaPBookJ
import Derived.Test.YtoeiogefngcdiaaPxreedpipelaw08BookentriesJ

/- reedpipelaw08.BookEntries answers true: values and entries are told by one another, for all numbers, entries and values. -/
namespace Go.Proofs.Ytoeiogefngcdiaa.Pure
open Go.RowKit Go.Proofs.Ytoeiogefngcdiaa.P Go.Proofs.YtoeiogefngcdiaaW.PrintWords Go.Proofs.YtoeiogefngcdiaaW.PrintLast
set_option linter.unusedVariables false
set_option linter.unusedSimpArgs false

def tuples (low : Int) (m : Nat) : Nat → List (List Int)
  | 0 => [[]]
  | n + 1 => (List.range m).flatMap fun (i : Nat) => (tuples low m n).map fun t => (low + (i : Int)) :: t
theorem tuples_mem (low : Int) (m : Nat) : ∀ (l : List Int), (∀ x ∈ l, low ≤ x ∧ x < low + m) → l ∈ tuples low m l.length
  | [], _ => by simp [tuples]
  | x :: l, h => by
    have hx := h x (by simp)
    have ih := tuples_mem low m l (fun y hy => h y (by simp [hy]))
    simp only [List.length_cons, tuples, List.mem_flatMap, List.mem_range, List.mem_map]
    exact ⟨(x - low).toNat, by omega, l, ih, by congr 1; omega⟩
def tupOk (id : Int) : Bool := (tuples (kindV id).2.1 ((kindV id).2.2.1 - (kindV id).2.1 + 1).toNat (kindV id).1.toNat).all fun l => (List.range (manyV id).toNat).any fun e => decide (valL id e = l)
set_option maxRecDepth 100000 in
theorem tupOk_all {id : Int} (h1 : 1 ≤ id) (h2 : id ≤ 12) : tupOk id = true := by
  rcases kind_cases h1 h2 with rfl | rfl | rfl | rfl | rfl | rfl | rfl | rfl | rfl | rfl | rfl | rfl <;> decide +kernel
/-- Values that may be are an entry's. -/
theorem is_entry {id : Int} (h1 : 1 ≤ id) (h2 : id ≤ 12) (l : List Int) (hl : (l.length : Int) = (kindV id).1) (h : ∀ x ∈ l, (kindV id).2.1 ≤ x ∧ x ≤ (kindV id).2.2.1) : ∃ e : Nat, (e : Int) < manyV id ∧ valL id e = l := by
  have hk := kind_ok h1 h2
  have m0 := hk.2.2.2.2
  have hlo := hk.1.l2
  have hhi := hk.1.h2
  have hm := tuples_mem (kindV id).2.1 ((kindV id).2.2.1 - (kindV id).2.1 + 1).toNat l (fun x hx => by have := h x hx; omega)
  rw [show l.length = (kindV id).1.toNat by omega] at hm
  have := List.all_eq_true.1 (tupOk_all h1 h2) l hm
  obtain ⟨e, he, hv⟩ := List.any_eq_true.1 this
  exact ⟨e, by have := List.mem_range.1 he; omega, of_decide_eq_true hv⟩
theorem entry_bad {id : Int} (h1 : 1 ≤ id) (h2 : id ≤ 12) (l : List Int) (hl : l.length ≤ 140737488355328) (d : Nat) : ∀ (i : Nat) (n : Int), i + d = l.length →
    (∃ j : Nat, i ≤ j ∧ j < l.length ∧ ¬ ((kindV id).2.1 ≤ rd l (j : Int) ∧ rd l (j : Int) ≤ (kindV id).2.2.1)) →
    Ev (fun k => book_Entry.l0 k n l (l.length : Int) (i : Int) (kindV id).1 (kindV id).2.1 (kindV id).2.2.1 (kindV id).2.2.2.1) (0, 2) := by
  induction d with
  | zero => rintro i n hi ⟨j, a, b, _⟩; omega
  | succ d ih =>
    rintro i n hi ⟨j, hj1, hj2, hj⟩
    by_cases a : rd l (i : Int) < (kindV id).2.1
    · refine Ev.step (f := fun _ => some (0, 2)) (fun k => ?_) (Ev.now _)
      simp only [book_Entry.l0]; rw [if_pos (by omega), if_pos (by omega), if_pos (by omega), if_pos a]
    · by_cases b : rd l (i : Int) > (kindV id).2.2.1
      · refine Ev.step (f := fun _ => some (0, 2)) (fun k => ?_) (Ev.now _)
        simp only [book_Entry.l0]; rw [if_pos (by omega), if_pos (by omega), if_pos (by omega), if_neg a, if_pos b]
      · have hij : i ≠ j := by rintro rfl; exact hj ⟨by omega, by omega⟩
        refine Ev.step (fun k => ?_) (ih (i + 1) (wrap64 ((wrap64 ((wrap64 (n * (wrap64 ((wrap64 ((kindV id).2.2.1 - (kindV id).2.1)) + 1)))) + (rd l (i : Int)))) - (kindV id).2.1)) (by omega) ⟨j, by omega, hj2, hj⟩)
        simp only [book_Entry.l0]
        rw [if_pos (by omega), if_pos (by omega), if_pos (by omega), if_neg a, if_neg b]
        simp only [book_kind_wide.f, Option.bind_some]
        rw [w64 (x := (i : Int) + 1) (by omega) (by omega)]
        rfl
/-- The entry of values: of those that may be it has them; else it is 0, with an error. -/
theorem entry_spec (id : Int) (l : List Int) (hl : l.length ≤ 140737488355328) :
    (∃ e : Nat, 1 ≤ id ∧ id ≤ 12 ∧ (e : Int) < manyV id ∧ valL id e = l ∧ Ev (fun k => book_Entry.f k id l) ((e : Int), 0)) ∨ ∃ c, c ≠ 0 ∧ Ev (fun k => book_Entry.f k id l) (0, c) := by
  by_cases g : 1 ≤ id ∧ id ≤ 12
  · obtain ⟨h1, h2⟩ := g
    have hof : book_of.f id = some ((kindV id).1, (kindV id).2.1, (kindV id).2.2.1, (kindV id).2.2.2.1, 0) := by
      show some (kindV id) = _
      have := (kind_ok h1 h2).2.2.2.1
      rw [← this]
    by_cases e : (l.length : Int) = (kindV id).1
    · by_cases h : ∀ x ∈ l, (kindV id).2.1 ≤ x ∧ x ≤ (kindV id).2.2.1
      · obtain ⟨n, hn, hv⟩ := is_entry h1 h2 l e h
        have := (val_at h1 h2 n hn).2.2.1
        rw [hv] at this
        exact .inl ⟨n, h1, h2, hn, hv, Ev.of (book_Entry.mono id l) this⟩
      · refine .inr ⟨2, by decide, ?_⟩
        refine Ev.congr (fun k => ?_) (entry_bad h1 h2 l hl l.length 0 0 (by omega) ?_)
        · unfold book_Entry.f; rw [hof]; simp only [Option.bind_some]; rw [if_pos trivial, if_pos e]; rfl
        · simp only [Classical.not_forall] at h
          obtain ⟨x, hx, hb⟩ := h
          obtain ⟨j, hj, rfl⟩ := List.getElem_of_mem hx
          refine ⟨j, Nat.zero_le _, hj, ?_⟩
          unfold rd
          simpa [List.getD_eq_getElem?_getD, hj] using hb
    · refine .inr ⟨4, by decide, Ev.congr (f := fun _ => some (0, 4)) (fun k => ?_) (Ev.now _)⟩
      unfold book_Entry.f; rw [hof]; simp only [Option.bind_some]; rw [if_pos trivial, if_neg e]
  · refine .inr ⟨2, by decide, Ev.congr (f := fun _ => some (0, 2)) (fun k => ?_) (Ev.now _)⟩
    unfold book_Entry.f
    rw [show book_of.f id = some (0, 0, 0, 0, 2) from congrArg some (kind_odd g)]
    simp only [Option.bind_some]
    rw [if_neg (by decide)]

theorem entries_j1 (id : Int) (l : List Int) (hl : l.length ≤ 140737488355328) : Ev (fun k => reedpipelaw08_BookEntries.j1 k id l) true := by
  rcases entry_spec id l hl with ⟨e, h1, h2, he, hv, ev⟩ | ⟨c, hc, ev⟩
  · refine Ev.step (fun k => ?_) (Ev.bind ev (f := fun k bt => if bt.2 = 0 then ((book_Values.f k id bt.1).bind fun bt404 => (if bt404.2 = 0 then ((reedpiperef06_Ints.f k bt404.1 l).bind fun t408 => (some t408)) else (some false))) else (some (bt.1 == 0))) ?_)
    · simp only [reedpipelaw08_BookEntries.j1]
    · have hval : valuesV id (e : Int) = (l, 0) := by unfold valuesV; rw [if_pos ⟨h1, h2, by omega, he⟩, Int.toNat_natCast, hv]
      have v1 := (values_ev id (e : Int)).1
      rw [hval] at v1
      refine Ev.congr (f := fun k => (book_Values.f k id (e : Int)).bind fun bt404 => (if bt404.2 = 0 then ((reedpiperef06_Ints.f k bt404.1 l).bind fun t408 => (some t408)) else (some false))) (fun k => by rw [if_pos rfl]) (Ev.bind v1 ?_)
      exact Ev.congr (f := fun k => (reedpiperef06_Ints.f k l l).bind fun t => some t) (fun k => by rw [if_pos rfl]) (Ev.bind (ints_self l hl) (Ev.now _))
  · refine Ev.step (fun k => ?_) (Ev.bind ev (f := fun k bt => if bt.2 = 0 then ((book_Values.f k id bt.1).bind fun bt404 => (if bt404.2 = 0 then ((reedpiperef06_Ints.f k bt404.1 l).bind fun t408 => (some t408)) else (some false))) else (some (bt.1 == 0))) ?_)
    · simp only [reedpipelaw08_BookEntries.j1]
    · exact Ev.congr (f := fun _ => some true) (fun k => by rw [if_neg hc]; rfl) (Ev.now _)
theorem BookEntries : reedpipelaw08_BookEntries.Pure := by
  intro id a l _ _ _ hl _
  apply Ev.rounds (g := fun k => reedpipelaw08_BookEntries.f k id a l)
  refine Ev.bind alive_ev (f := fun k t395 => if (l.length : Int) > 1000 then (reedpipelaw08_BookEntries.j0 k id a l t395 true) else (reedpipelaw08_BookEntries.j0 k id a l t395 (!t395))) ?_
  by_cases h : (l.length : Int) > 1000
  · refine Ev.congr (f := fun k => reedpipelaw08_BookEntries.j0 k id a l true true) (fun k => by rw [if_pos h]) (Ev.step (f := fun _ => some true) (fun k => ?_) (Ev.now _))
    simp only [reedpipelaw08_BookEntries.j0]; rw [if_pos trivial]
  · refine Ev.congr (f := fun k => reedpipelaw08_BookEntries.j0 k id a l true false) (fun k => by rw [if_neg h]; rfl) ?_
    refine Ev.step (fun k => ?_) (Ev.bind (values_ev id a).1 (f := fun k bt396 => (if bt396.2 = 0 then ((book_Entry.f k id bt396.1).bind fun bt400 => (if bt400.2 = 0 then (if bt400.1 = a then (reedpipelaw08_BookEntries.j1 k id l) else (some false)) else (some false))) else (reedpipelaw08_BookEntries.j1 k id l))) ?_)
    · simp only [reedpipelaw08_BookEntries.j0]; rw [if_neg (by decide)]
    · by_cases g : 1 ≤ id ∧ id ≤ 12 ∧ 0 ≤ a ∧ a < manyV id
      · have hval : valuesV id a = (valL id a.toNat, 0) := by unfold valuesV; rw [if_pos g]
        obtain ⟨n, rfl⟩ : ∃ n : Nat, a = (n : Int) := ⟨a.toNat, by omega⟩
        rw [hval, Int.toNat_natCast]
        refine Ev.congr (f := fun k => (book_Entry.f k id (valL id n)).bind fun bt400 => (if bt400.2 = 0 then (if bt400.1 = (n : Int) then (reedpipelaw08_BookEntries.j1 k id l) else (some false)) else (some false))) (fun k => by rw [if_pos rfl]) (Ev.bind (Ev.of (book_Entry.mono id _) (val_at g.1 g.2.1 n g.2.2.2).2.2.1) ?_)
        exact Ev.congr (fun k => by rw [if_pos rfl, if_pos rfl]) (entries_j1 id l (by omega))
      · have hval : valuesV id a = ([], 2) := by unfold valuesV; rw [if_neg g]
        rw [hval]
        exact Ev.congr (fun k => by rw [if_neg (by decide)]) (entries_j1 id l (by omega))
end Go.Proofs.Ytoeiogefngcdiaa.Pure
