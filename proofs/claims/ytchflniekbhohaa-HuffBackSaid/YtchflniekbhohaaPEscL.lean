/- Escapes, signs and values that a reader gets, as functions of lists. -/
import Derived.Test.YtchflniekbhohaaL6a0
import Derived.Test.YtchflniekbhohaaHRGetL
import Derived.Test.YtchflniekbhohaaPReadL
import Derived.Test.YtchflniekbhohaaPValL
import Derived.Test.YtchflniekbhohaaPSignL

/- Escapes, signs and values that a reader gets, as functions of lists. -/
namespace Go.Proofs.Ytchflniekbhohaa.Pure
open Go.RowKit Go.Proofs.Ytchflniekbhohaa.P Go.Proofs.YtchflniekbhohaaW.PrintWords Go.Proofs.YtchflniekbhohaaW.PrintLast Go.Proofs.YtchflniekbhohaaW.PrintMore
set_option linter.unusedVariables false
set_option linter.unusedSimpArgs false

/-! ### The size of an escape -/
def escL (l : List Int) : Nat → Nat → Int → Int → Nat × Int × Int
 | 0, m, p, e => (m, p, e)
 | d + 1, m, p, e => if (rgetV l p e 1).1 = 1 ∧ (rgetV l p e 1).2.2 = 0 then (if 8 < m + 1 then escL l d (m + 1) (rgetV l p e 1).2.1 8 else escL l d (m + 1) (rgetV l p e 1).2.1 (rgetV l p e 1).2.2)
   else (m, (rgetV l p e 1).2.1, (rgetV l p e 1).2.2)
def escT (l : List Int) (t : Nat × Int × Int) : Int × Int × Int :=
 (2 ^ (t.1 + 4) + (rgetV l t.2.1 t.2.2 ((t.1 : Int) + 4)).1, (rgetV l t.2.1 t.2.2 ((t.1 : Int) + 4)).2.1, (rgetV l t.2.1 t.2.2 ((t.1 : Int) + 4)).2.2)
def rescV (l : List Int) (p e : Int) : Int × Int × Int := escT l (escL l 10 0 p e)
theorem shl_big {m : Nat} (h : m ≤ 60) : shl .i64 1 (m : Int) = 2 ^ m := by
 have h1 : (2 : Int) ^ m ≤ 2 ^ 60 := pow_le h
 have h0 := pow_ge m
 unfold shl
 rw [Int.toNat_natCast, show min m IntKind.i64.bits = m from Nat.min_eq_left (Nat.le_trans h (by decide)), IntKind.wrap_i64]
 omega
theorem rget_some {l : List Int} (B : Byt l) (p e m : Int) : huff_reader_get.f l p e m = some (rgetV l p e m) := by
 unfold huff_reader_get.f; rw [if_pos (byt_bytB B)]
theorem rget_bd {l : List Int} (B : Byt l) (p e : Int) (m : Nat) (hm : m ≤ 31) : 0 ≤ (rgetV l p e (m : Int)).1 ∧ (rgetV l p e (m : Int)).1 < 2 ^ m := by
 have h1 := pow_ge m
 unfold rgetV
 by_cases he : e ≠ 0
 ·rw [if_pos he]; exact ⟨Int.le_refl _, by show (0 : Int) < 2 ^ m; omega⟩
 ·rw [if_neg he]
  by_cases g : (getV l p (m : Int)).2.2 = 0
  ·rw [if_pos g]
   have o := getV_ok B (getV_eta g)
   rw [Int.toNat_natCast] at o
   exact ⟨o.2.2.2.2.2.2.1, o.2.2.2.2.2.2.2⟩
  ·rw [if_neg g]
   have : (getV l p (m : Int)).1 = 0 := by
    unfold getV at g ⊢
    by_cases a : 0 ≤ (m : Int) ∧ (m : Int) ≤ 31 ∧ 0 ≤ p ∧ p ≤ (l.length : Int)
    ·rw [if_pos a] at g ⊢
     by_cases b : (l.length : Int) - p < (m : Int)
     ·rw [if_pos b]
     ·rw [if_neg b] at g ⊢
      cases c : gv l (m : Int).toNat p.toNat 0 with
      | none => rfl
      | some v => rw [c] at g; exact absurd rfl g
    ·rw [if_neg a]
   rw [this]; exact ⟨Int.le_refl _, by show (0 : Int) < 2 ^ m; omega⟩
theorem esc_end {l : List Int} (B : Byt l) (m : Nat) (hm : m ≤ 9) (p e : Int) : Ev (fun k => huff_reader_escaped.j1 k (m : Int) false l p e) (escT l (m, p, e)) := by
 have hb := rget_bd B p e (m + 4) (by omega)
 have h2 : (2 : Int) ^ (m + 4) ≤ 2 ^ 13 := pow_le (by omega)
 have h1 := pow_ge (m + 4)
 refine Ev.step (f := fun _ => some (escT l (m, p, e))) (fun k => ?_) (Ev.now _)
 simp only [huff_reader_escaped.j1]
 have ec : ((m + 4 : Nat) : Int) = (m : Int) + 4 := by omega
 rw [if_neg (by decide), w64 (x := (m : Int) + 4) (by omega) (by omega), if_pos (by omega), rget_some B]
 simp only [Option.bind_some]
 rw [← ec, shl_big (by omega : m + 4 ≤ 60), w64 (by omega) (by omega)]
 unfold escT
 rw [← ec]
theorem esc_go {l : List Int} (B : Byt l) (d : Nat) : ∀ (m : Nat) (p e : Int), m + d = 10 → 1 ≤ d → (9 ≤ m → e ≠ 0) → Ev (fun k => huff_reader_escaped.l0 k (m : Int) l p e) (escT l (escL l d m p e)) := by
 induction d with
 | zero => intro m p e _ h; omega
 | succ d ih =>
  intro m p e hm _ h9
  simp only [escL]
  have hz : 9 ≤ m → (rgetV l p e 1).1 = 0 := fun h => by unfold rgetV; rw [if_pos (h9 h)]
  by_cases g1 : (rgetV l p e 1).1 = 1
  ·have hm8 : m ≤ 8 := by
    rcases Nat.lt_or_ge m 9 with h | h
    ·omega
    ·rw [hz h] at g1; omega
   by_cases g2 : (rgetV l p e 1).2.2 = 0
   ·rw [if_pos ⟨g1, g2⟩]
    refine Ev.step (f := fun k => huff_reader_escaped.j1 k (m : Int) true l (rgetV l p e 1).2.1 (rgetV l p e 1).2.2) (fun k => ?_) ?_
    ·simp only [huff_reader_escaped.l0]; rw [rget_some B]; simp only [Option.bind_some]; rw [if_pos g1, g2]; rfl
    by_cases g3 : 8 < m + 1
    ·rw [if_pos g3]
     refine Ev.step (fun k => ?_) (ih (m + 1) (rgetV l p e 1).2.1 8 (by omega) (by omega) (fun _ => by decide))
     simp only [huff_reader_escaped.j1]; rw [if_pos trivial, w64 (by omega) (by omega), if_pos (by omega)]; rfl
    ·rw [if_neg g3]
     refine Ev.step (fun k => ?_) (ih (m + 1) (rgetV l p e 1).2.1 (rgetV l p e 1).2.2 (by omega) (by omega) (fun h => by omega))
     simp only [huff_reader_escaped.j1]; rw [if_pos trivial, w64 (by omega) (by omega), if_neg (by omega)]; rfl
   ·rw [if_neg (fun h => g2 h.2)]
    refine Ev.step (fun k => ?_) (esc_end B m (by omega) (rgetV l p e 1).2.1 (rgetV l p e 1).2.2)
    simp only [huff_reader_escaped.l0]; rw [rget_some B]; simp only [Option.bind_some]; rw [if_pos g1, show ((rgetV l p e 1).2.2 == 0) = false by simpa using g2]
  ·rw [if_neg (fun h => g1 h.1)]
   refine Ev.step (fun k => ?_) (esc_end B m (by omega) (rgetV l p e 1).2.1 (rgetV l p e 1).2.2)
   simp only [huff_reader_escaped.l0]; rw [rget_some B]; simp only [Option.bind_some]; rw [if_neg g1]
theorem resc_ev {l : List Int} (B : Byt l) (p e : Int) : Ev (fun k => huff_reader_escaped.f k l p e) (rescV l p e) := esc_go B 10 0 p e rfl (by decide) (fun h => by omega)
theorem escL_le (l : List Int) (d : Nat) : ∀ (m : Nat) (p e : Int), (escL l d m p e).1 ≤ m + d := by
 induction d with
 | zero => intro m p e; exact Nat.le_refl _
 | succ d ih =>
  intro m p e
  simp only [escL]
  split
  ·split
   ·have := ih (m + 1) (rgetV l p e 1).2.1 8; omega
   ·have := ih (m + 1) (rgetV l p e 1).2.1 (rgetV l p e 1).2.2; omega
  ·show m ≤ m + (d + 1); omega
theorem resc_bd {l : List Int} (B : Byt l) (p e : Int) : 0 ≤ (rescV l p e).1 ∧ (rescV l p e).1 ≤ 1000000 := by
 have hle := escL_le l 10 0 p e
 generalize ht : escL l 10 0 p e = t at hle
 obtain ⟨m, q, f⟩ := t
 dsimp only at hle
 have hb := rget_bd B q f (m + 4) (by omega)
 have h2 : (2 : Int) ^ (m + 4) ≤ 2 ^ 14 := pow_le (by omega)
 have h1 := pow_ge (m + 4)
 have ec : ((m + 4 : Nat) : Int) = (m : Int) + 4 := by omega
 unfold rescV escT
 rw [ht]
 dsimp only
 rw [← ec]
 omega
/-! ### Signs and values -/
def sgV (l : List Int) : List Int → Int → Int → List Int × Int × Int
 | [], p, e => ([], p, e)
 | v :: r, p, e => if v ≠ 0 then ((rgetV l p e 1).1 :: (sgV l r (rgetV l p e 1).2.1 (rgetV l p e 1).2.2).1, (sgV l r (rgetV l p e 1).2.1 (rgetV l p e 1).2.2).2) else (0 :: (sgV l r p e).1, (sgV l r p e).2)
def escOne (l : List Int) (id v p e : Int) : Int × Int × Int := if id = 11 ∧ v = 16 then rescV l p e else (v, p, e)
def vlV (l : List Int) (id : Int) : List Int → List Int → Int → Int → List Int × Int × Int
 | v :: r, s :: q, p, e => ((if s = 1 then -(escOne l id v p e).1 else (escOne l id v p e).1) :: (vlV l id r q (escOne l id v p e).2.1 (escOne l id v p e).2.2).1, (vlV l id r q (escOne l id v p e).2.1 (escOne l id v p e).2.2).2)
 | _, _, p, e => ([], p, e)
def readerV (l : List Int) (id : Int) (vs : List Int) (p : Int) : List Int × Int × Int :=
 if (vlV l id vs (sgV l vs p 0).1 (sgV l vs p 0).2.1 (sgV l vs p 0).2.2).2.2 ≠ 0 then ([], 0, (vlV l id vs (sgV l vs p 0).1 (sgV l vs p 0).2.1 (sgV l vs p 0).2.2).2.2)
 else ((vlV l id vs (sgV l vs p 0).1 (sgV l vs p 0).2.1 (sgV l vs p 0).2.2).1, (vlV l id vs (sgV l vs p 0).1 (sgV l vs p 0).2.1 (sgV l vs p 0).2.2).2.1, 0)
/-- The values of some bits by a book, and the place behind, or an error. -/
def hgetV (l : List Int) (p id pl : Int) (E R : List Int) : List Int × Int × Int :=
 if 11 < id then ([], 0, if isB id pl E R then 2 else 8)
 else if (readV id pl E R l p).2.2 ≠ 0 then ([], 0, (readV id pl E R l p).2.2)
 else if signB id = true then (valL id (readV id pl E R l p).1.toNat, (readV id pl E R l p).2.1, 0)
 else readerV l id (valL id (readV id pl E R l p).1.toNat) (readV id pl E R l p).2.1
end Go.Proofs.Ytchflniekbhohaa.Pure
