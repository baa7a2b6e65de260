/- slices.Concat of lists of bytes: they stand one behind the other. -/
import Derived.Test.YtchflniekbhohaaPLitL
import Derived.Test.YtchflniekbhohaaL2a0

/- slices.Concat of lists of bytes: they stand one behind the other. -/
namespace Go.Proofs.Ytchflniekbhohaa.Pure
open Go.RowKit Go.Proofs.Ytchflniekbhohaa.P Go.Proofs.YtchflniekbhohaaW.PrintWords Go.Proofs.YtchflniekbhohaaW.PrintLast Go.Proofs.YtchflniekbhohaaW.PrintMore
set_option linter.unusedVariables false
set_option linter.unusedSimpArgs false

/-! ### Lists one behind the other -/
def allLen (ls : List (List Int)) : Nat := (ls.map List.length).sum
theorem allLen_cons (x : List Int) (ls : List (List Int)) : allLen (x :: ls) = x.length + allLen ls := by simp [allLen]
theorem rdL2_at (ls : List (List Int)) (i : Nat) (h : i < ls.length) : rd_L2 ls (i : Int) = ls[i] := by
 unfold rd_L2; rw [Int.toNat_natCast, List.getD_eq_getElem?_getD, List.getElem?_eq_getElem h]; rfl
theorem concat_put (ls : List (List Int)) (hn : ls.length ≤ 1000) (ht : allLen ls ≤ 1073741824) (d : Nat) : ∀ (i : Nat) (acc : List Int), i + d = ls.length → acc.length + allLen (ls.drop i) ≤ 1073741824 →
  Ev (fun k => slices_Concat_byte_byte.l1 k acc ls (ls.length : Int) (i : Int)) (acc ++ (ls.drop i).flatten) := by
 induction d with
 | zero =>
  intro i acc hi ha
  refine Ev.step (f := fun _ => some acc) (fun k => ?_) ?_
  ·simp only [slices_Concat_byte_byte.l1]; rw [if_neg (by omega)]
  ·rw [List.drop_eq_nil_of_le (by omega)]; simp only [List.flatten_nil, List.append_nil]; exact Ev.now _
 | succ d ih =>
  intro i acc hi ha
  have hlt : i < ls.length := by omega
  rw [List.drop_eq_getElem_cons hlt] at ha ⊢
  rw [allLen_cons] at ha
  have := ih (i + 1) (acc ++ ls[i]) (by omega) (by rw [List.length_append]; omega)
  refine Ev.step (fun k => ?_) (by rw [List.flatten_cons, ← List.append_assoc]; exact this)
  simp only [slices_Concat_byte_byte.l1]
  rw [if_pos (by omega), if_pos (by omega), if_pos (by omega), rdL2_at ls i hlt, if_pos (by omega), w64 (by omega) (by omega)]
  rfl
theorem concat_go (ls : List (List Int)) (hn : ls.length ≤ 1000) (h1 : 1 ≤ allLen ls) (ht : allLen ls ≤ 1073741824) (d : Nat) : ∀ (i n : Nat), i + d = ls.length → n + allLen (ls.drop i) = allLen ls →
  Ev (fun k => slices_Concat_byte_byte.l0 k ls (n : Int) ls (ls.length : Int) (i : Int)) ls.flatten := by
 induction d with
 | zero =>
  intro i n hi ha
  rw [List.drop_eq_nil_of_le (by omega)] at ha
  have hz : allLen ([] : List (List Int)) = 0 := rfl
  have := concat_put ls hn ht ls.length 0 [] (by omega) (by simpa using ht)
  refine Ev.step (fun k => ?_) this
  simp only [slices_Concat_byte_byte.l0]
  rw [if_neg (by omega), show slices_Grow_byte_byte.f [] (n : Int) = some [] by unfold slices_Grow_byte_byte.f; rw [if_pos ⟨rfl, by omega, by omega⟩]]
  rfl
 | succ d ih =>
  intro i n hi ha
  have hlt : i < ls.length := by omega
  rw [List.drop_eq_getElem_cons hlt, allLen_cons] at ha
  have := ih (i + 1) (n + ls[i].length) (by omega) (by omega)
  refine Ev.step (fun k => ?_) this
  simp only [slices_Concat_byte_byte.l0]
  rw [if_pos (by omega), if_pos (by omega), if_pos (by omega), rdL2_at ls i hlt, w64 (x := (n : Int) + (ls[i].length : Int)) (by omega) (by omega), if_neg (by omega), w64 (by omega) (by omega)]
  rfl
theorem concat_ev (ls : List (List Int)) (hn : ls.length ≤ 1000) (h1 : 1 ≤ allLen ls) (ht : allLen ls ≤ 1073741824) : Ev (fun k => slices_Concat_byte_byte.f k ls) ls.flatten :=
 concat_go ls hn h1 ht ls.length 0 0 (by omega) (by simp)
end Go.Proofs.Ytchflniekbhohaa.Pure
