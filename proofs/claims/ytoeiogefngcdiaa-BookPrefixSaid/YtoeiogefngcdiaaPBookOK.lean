/- Plain laws of the books, without the program: what Get, Values and Entry answer. -/
import Derived.Test.YtoeiogefngcdiaaK6abc0
import Derived.Test.YtoeiogefngcdiaaK0abc0
import Derived.Test.YtoeiogefngcdiaaHGetK

/- Plain laws of the books, without the program: what Get, Values and Entry answer. -/
namespace Go.Proofs.Ytoeiogefngcdiaa.Pure
open Go.RowKit Go.Proofs.Ytoeiogefngcdiaa.P Go.Proofs.YtoeiogefngcdiaaW.PrintWords Go.Proofs.YtoeiogefngcdiaaW.PrintLast
set_option linter.unusedVariables false
set_option linter.unusedSimpArgs false

theorem w64 {x : Int} (h0 : -9223372036854775808 ≤ x) (h1 : x ≤ 9223372036854775807) : wrap64 x = x := by unfold wrap64; omega
set_option maxRecDepth 100000 in
theorem alive_ok : reedpipelaw08_alive.f 12 = some true := by decide +kernel
theorem alive_ev : Ev (fun k => reedpipelaw08_alive.f k) true := Ev.of reedpipelaw08_alive.mono alive_ok
/-- An entry's values. -/
def valL (id : Int) (e : Nat) : List Int := (List.range (kindV id).1.toNat).map fun i => ((e / ((kindV id).2.2.1 - (kindV id).2.1 + 1).toNat ^ ((kindV id).1.toNat - 1 - i) % ((kindV id).2.2.1 - (kindV id).2.1 + 1).toNat : Nat) : Int) + (kindV id).2.1
def valOk (id : Int) : Bool := (List.range (manyV id).toNat).all fun e =>
  decide (book_Values.f 12 id (e : Int) = some (valL id e, 0)) && decide (book_Entry.f 12 id (valL id e) = some ((e : Int), 0)) && decide (reedpipelaw08_size.f 12 (valL id e) = some (rd (szV id) (e : Int)))
set_option maxRecDepth 100000 in
theorem valOk_all {id : Int} (h1 : 1 ≤ id) (h2 : id ≤ 12) : valOk id = true := by
  rcases kind_cases h1 h2 with rfl | rfl | rfl | rfl | rfl | rfl | rfl | rfl | rfl | rfl | rfl | rfl <;> decide +kernel
theorem val_own {id : Int} (h1 : 1 ≤ id) (h2 : id ≤ 12) (e : Nat) (he : (e : Int) < manyV id) :
    book_Values.f 12 id (e : Int) = some (valL id e, 0) ∧ book_Entry.f 12 id (valL id e) = some ((e : Int), 0) ∧ reedpipelaw08_size.f 12 (valL id e) = some (rd (szV id) (e : Int)) := by
  have := List.all_eq_true.1 (valOk_all h1 h2) e (List.mem_range.2 (by omega))
  simp only [Bool.and_eq_true, decide_eq_true_eq] at this
  obtain ⟨⟨a, b⟩, c⟩ := this
  exact ⟨a, b, c⟩
/-! ### Lists that are the same -/
theorem ints_go (l : List Int) (hl : l.length ≤ 140737488355328) (d : Nat) : ∀ (i : Nat), i + d = l.length → Ev (fun k => reedpiperef06_Ints.l0 k l l (i : Int)) true := by
  induction d with
  | zero =>
    intro i hi
    refine Ev.step (f := fun _ => some true) (fun k => ?_) (Ev.now _)
    simp only [reedpiperef06_Ints.l0]
    rw [if_neg (by omega)]
  | succ d ih =>
    intro i hi
    refine Ev.step (fun k => ?_) (ih (i + 1) (by omega))
    simp only [reedpiperef06_Ints.l0]
    rw [if_pos (by omega), if_pos (by omega), if_pos (by omega), if_pos trivial, w64 (by omega) (by omega)]
    rfl
theorem ints_self (l : List Int) (hl : l.length ≤ 140737488355328) : Ev (fun k => reedpiperef06_Ints.f k l l) true := by
  refine Ev.congr (fun k => ?_) (ints_go l hl l.length 0 (by omega))
  unfold reedpiperef06_Ints.f
  rw [if_pos rfl]; rfl
theorem len_tab {id : Int} (h1 : 1 ≤ id) (h2 : id ≤ 12) : ((entL id).length : Int) = manyV id ∧ ((rnkL id).length : Int) = manyV id := by
  rcases kind_cases h1 h2 with rfl | rfl | rfl | rfl | rfl | rfl | rfl | rfl | rfl | rfl | rfl | rfl <;> decide +kernel
theorem bookV_len (id : Int) : (bookV id).2.2.1.length ≤ 289 ∧ (bookV id).2.2.2.1.length ≤ 289 := by
  unfold bookV
  by_cases g : 1 ≤ id ∧ id ≤ 12
  · rw [if_pos g]
    have := len_tab g.1 g.2
    have hm : manyV id ≤ 289 := by
      rcases kind_cases g.1 g.2 with rfl | rfl | rfl | rfl | rfl | rfl | rfl | rfl | rfl | rfl | rfl | rfl <;> decide
    dsimp only
    omega
  · rw [if_neg g]; simp
theorem many_ev {id : Int} (h1 : 1 ≤ id) (h2 : id ≤ 12) : Ev (fun k => book_kind_many.f k (kindV id).1 (kindV id).2.1 (kindV id).2.2.1 (kindV id).2.2.2.1) (manyV id) := Ev.of (book_kind_many.mono _ _ _ _) (many_f h1 h2)
/-- The values of an entry, or an error. -/
def valuesV (id e : Int) : List Int × Int := if 1 ≤ id ∧ id ≤ 12 ∧ 0 ≤ e ∧ e < manyV id then (valL id e.toNat, 0) else ([], 2)
theorem ownValues_ev (id e : Int) : Ev (fun k => book_Values.f k id e) (valuesV id e) := by
  by_cases g : 1 ≤ id ∧ id ≤ 12
  · obtain ⟨h1, h2⟩ := g
    have hof : book_of.f id = some ((kindV id).1, (kindV id).2.1, (kindV id).2.2.1, (kindV id).2.2.2.1, 0) := by
      show some (kindV id) = _
      have := (kind_ok h1 h2).2.2.2.1
      rw [← this]
    by_cases e0 : e < 0
    · have hv : valuesV id e = ([], 2) := by unfold valuesV; rw [if_neg (by omega)]
      rw [hv]
      refine Ev.congr (f := fun _ => some ([], 2)) (fun k => ?_) (Ev.now _)
      unfold book_Values.f; rw [hof]; simp only [Option.bind_some]; rw [if_pos trivial, if_pos e0]
    · by_cases e1 : e ≥ manyV id
      · have hv : valuesV id e = ([], 2) := by unfold valuesV; rw [if_neg (by omega)]
        rw [hv]
        refine Ev.congr (f := fun k => (book_kind_many.f k (kindV id).1 (kindV id).2.1 (kindV id).2.2.1 (kindV id).2.2.2.1).bind fun t => if e ≥ t then some ([], 2) else (book_kind_values.f k (kindV id).1 (kindV id).2.1 (kindV id).2.2.1 (kindV id).2.2.2.1 e).bind fun t => some (t, 0)) (fun k => ?_) (Ev.bind (many_ev h1 h2) ?_)
        · unfold book_Values.f; rw [hof]; simp only [Option.bind_some]; rw [if_pos trivial, if_neg e0]
        · exact Ev.congr (f := fun _ => some ([], 2)) (fun k => by rw [if_pos e1]) (Ev.now _)
      · have hv : valuesV id e = (valL id e.toNat, 0) := by unfold valuesV; rw [if_pos ⟨h1, h2, by omega, by omega⟩]
        obtain ⟨n, rfl⟩ : ∃ n : Nat, e = (n : Int) := ⟨e.toNat, by omega⟩
        rw [hv, Int.toNat_natCast]
        exact Ev.of (book_Values.mono id _) (val_own h1 h2 n (by omega)).1
  · have hv : valuesV id e = ([], 2) := by unfold valuesV; rw [if_neg (by omega)]
    rw [hv]
    refine Ev.congr (f := fun _ => some ([], 2)) (fun k => ?_) (Ev.now _)
    unfold book_Values.f
    rw [show book_of.f id = some (0, 0, 0, 0, 2) from congrArg some (kind_odd g)]
    simp only [Option.bind_some]
    rw [if_neg (by decide)]
end Go.Proofs.Ytoeiogefngcdiaa.Pure
