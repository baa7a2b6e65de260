/- Codes and books: a right book is the one of its number; an entry's code; what is read. -/
import Derived.Test.YtchflniekbhohaaPBitsL
import Derived.Test.YtchflniekbhohaaL3a2
import Derived.Test.YtchflniekbhohaaL3a0

/- Codes and books: a right book is the one of its number; an entry's code; what is read. -/
namespace Go.Proofs.Ytchflniekbhohaa.Pure
open Go.RowKit Go.Proofs.Ytchflniekbhohaa.P Go.Proofs.YtchflniekbhohaaW.PrintWords Go.Proofs.YtchflniekbhohaaW.PrintLast Go.Proofs.YtchflniekbhohaaW.PrintMore
set_option linter.unusedVariables false
set_option linter.unusedSimpArgs false

theorem rd_at (l : List Int) (i : Nat) (h : i < l.length) : rd l (i : Int) = l[i] := by
 unfold rd; rw [Int.toNat_natCast, List.getD_eq_getElem?_getD, List.getElem?_eq_getElem h]; rfl
/-! ### A right book is the one of its number -/
/-- Is a book the one of its number? -/
def isB (id plain : Int) (E R : List Int) : Prop := (1 ≤ id ∧ id ≤ 12) ∧ plain = (kindV id).2.2.2.1 ∧ E = entL id ∧ R = rnkL id
instance (id plain : Int) (E R : List Int) : Decidable (isB id plain E R) := by unfold isB; infer_instance
/-! ### The tables: ranks go by sizes, then entries -/
def keyOf (id : Int) (e : Int) : Int := rd (szV id) e * 512 + e
def tabOk (id : Int) : Bool := rightV id (kindV id).2.2.2.1 (entL id) (rnkL id) && (List.range (manyV id).toNat).all fun e => decide (0 ≤ rd (rnkL id) (e : Int)) && decide (rd (rnkL id) (e : Int) < manyV id) && decide (rd (entL id) (rd (rnkL id) (e : Int)) = (e : Int)) && decide (0 ≤ rd (szV id) (e : Int))
set_option maxRecDepth 100000 in
theorem tabOk_all {id : Int} (h1 : 1 ≤ id) (h2 : id ≤ 12) : tabOk id = true := by
 rcases kind_cases h1 h2 with rfl | rfl | rfl | rfl | rfl | rfl | rfl | rfl | rfl | rfl | rfl | rfl <;> decide +kernel
theorem right_yes {id : Int} (h1 : 1 ≤ id) (h2 : id ≤ 12) : rightV id (kindV id).2.2.2.1 (entL id) (rnkL id) = true := by
 have := tabOk_all h1 h2
 unfold tabOk at this
 simp only [Bool.and_eq_true] at this
 exact this.1
theorem rnk_at {id : Int} (h1 : 1 ≤ id) (h2 : id ≤ 12) (e : Int) (h0 : 0 ≤ e) (he : e < manyV id) : 0 ≤ rd (rnkL id) e ∧ rd (rnkL id) e < manyV id ∧ rd (entL id) (rd (rnkL id) e) = e ∧ 0 ≤ rd (szV id) e := by
 have := tabOk_all h1 h2
 unfold tabOk at this
 simp only [Bool.and_eq_true] at this
 have := List.all_eq_true.1 this.2 e.toNat (List.mem_range.2 (by omega))
 simp only [Bool.and_eq_true, decide_eq_true_eq] at this
 rw [Int.toNat_of_nonneg h0] at this
 exact ⟨this.1.1.1, this.1.1.2, this.1.2, this.2⟩
theorem right_all {id plain : Int} {E R : List Int} (h : rightV id plain E R = true) : (1 ≤ id ∧ id ≤ 12) ∧ plain = (kindV id).2.2.2.1 ∧ (E.length : Int) = manyV id ∧ (R.length : Int) = manyV id ∧ ∀ j : Nat, j < E.length → okAt id E R j = true := by
 unfold rightV at h
 simp only [Bool.and_eq_true, decide_eq_true_eq] at h
 obtain ⟨⟨⟨⟨⟨a, b⟩, c⟩, d⟩, e⟩, f⟩ := h
 exact ⟨⟨a, b⟩, c, d, e, fun j hj => List.all_eq_true.1 f j (List.mem_range.2 hj)⟩
/-- Less by size, then by number. -/
def Ls (id a b : Int) : Prop := rd (szV id) a < rd (szV id) b ∨ (rd (szV id) a = rd (szV id) b ∧ a < b)
theorem ok_at {id : Int} {E R : List Int} {j : Nat} (h : okAt id E R j = true) : 0 ≤ rd E (j : Int) ∧ rd E (j : Int) < (R.length : Int) ∧ rd R (rd E (j : Int)) = (j : Int) := by
 unfold okAt at h
 simp only [Bool.and_eq_true, decide_eq_true_eq] at h
 exact ⟨h.1.1.1, h.1.1.2, h.1.2⟩
theorem ok_step {id : Int} {E R : List Int} {j : Nat} (h : okAt id E R j = true) (h' : okAt id E R (j + 1) = true) : Ls id (rd E (j : Int)) (rd E ((j + 1 : Nat) : Int)) := by
 have a := (ok_at h).2.2
 have b := (ok_at h').2.2
 unfold okAt at h'
 simp only [Bool.and_eq_true, Bool.or_eq_true, Bool.not_eq_true', Bool.and_eq_false_iff, decide_eq_true_eq, decide_eq_false_iff_not, Nat.add_eq_zero_iff, show ((j + 1 : Nat) : Int) - 1 = (j : Int) by omega] at h'
 have c := h'.2
 have d : rd E (j : Int) ≠ rd E ((j + 1 : Nat) : Int) := fun e => by rw [e, b] at a; omega
 unfold Ls
 generalize rd (szV id) (rd E (j : Int)) = x at c ⊢
 generalize rd (szV id) (rd E ((j + 1 : Nat) : Int)) = y at c ⊢
 omega
theorem ls_trans {id a b c : Int} (h : Ls id a b) (k : Ls id b c) : Ls id a c := by unfold Ls at *; omega
theorem ls_far {id plain : Int} {E R : List Int} (h : ∀ j : Nat, j < E.length → okAt id E R j = true) (i : Nat) : ∀ d : Nat, i + d + 1 < E.length → Ls id (rd E (i : Int)) (rd E ((i + d + 1 : Nat) : Int)) := by
 intro d
 induction d with
 | zero => intro hd; exact ok_step (h _ (by omega)) (h _ (by omega))
 | succ d ih => intro hd; exact ls_trans (ih (by omega)) (ok_step (h _ (by omega)) (h _ (by omega)))
theorem rises (f : Nat → Int) (n : Nat) (hf : ∀ j, j + 1 < n → f j < f (j + 1)) (h0 : ∀ j, j < n → 0 ≤ f j) (h1 : ∀ j, j < n → f j < (n : Int)) : ∀ j, j < n → f j = (j : Int) := by
 have lo : ∀ j, j < n → (j : Int) ≤ f j := by
  intro j
  induction j with
  | zero => intro h; exact h0 0 h
  | succ j ih => intro h; have := ih (by omega); have := hf j h; omega
 have hi : ∀ d j, j + d + 1 = n → f j ≤ (j : Int) := by
  intro d
  induction d with
  | zero => intro j h; have := h1 j (by omega); omega
  | succ d ih => intro j h; have := ih (j + 1) (by omega); have := hf j (by omega); omega
 intro j hj
 have := lo j hj
 have := hi (n - 1 - j) j (by omega)
 omega
theorem right_isB {id plain : Int} {E R : List Int} (h : rightV id plain E R = true) : isB id plain E R := by
 obtain ⟨⟨h1, h2⟩, hp, hE, hR, ho⟩ := right_all h
 obtain ⟨-, -, hE', hR', ho'⟩ := right_all (right_yes h1 h2)
 have hm := (kind_ok h1 h2).2.2.2.2
 have hf := rises (fun j => rd (rnkL id) (rd E (j : Int))) E.length (fun j hj => ?_) (fun j hj => ?_) (fun j hj => ?_)
 ·have hEe : ∀ j : Nat, j < E.length → rd E (j : Int) = rd (entL id) (j : Int) := fun j hj => by
   have o := ok_at (ho j hj)
   have := (rnk_at h1 h2 (rd E (j : Int)) o.1 (by omega)).2.2.1
   rw [hf j hj] at this
   exact this.symm
  have e1 : E = entL id := List.ext_getElem (by omega) fun i a b => by rw [← rd_at E i a, ← rd_at (entL id) i b]; exact hEe i a
  refine ⟨⟨h1, h2⟩, hp, e1, List.ext_getElem (by omega) fun i a b => ?_⟩
  have r := rnk_at h1 h2 (i : Int) (by omega) (by omega)
  rw [← rd_at R i a, ← rd_at (rnkL id) i b]
  obtain ⟨j, hj⟩ : ∃ j : Nat, rd (rnkL id) (i : Int) = (j : Int) := ⟨(rd (rnkL id) (i : Int)).toNat, by omega⟩
  have hjl : j < E.length := by omega
  have o := (ok_at (ho j hjl)).2.2
  rw [hEe j hjl, ← hj, r.2.2.1] at o
  exact o
 ·have a := ok_at (ho j (by omega))
  have b := ok_at (ho (j + 1) hj)
  have l := ok_step (ho j (by omega)) (ho (j + 1) hj)
  have ra := rnk_at h1 h2 _ a.1 (by omega)
  have rb := rnk_at h1 h2 _ b.1 (by omega)
  refine Classical.byContradiction fun hn => ?_
  by_cases e : rd (rnkL id) (rd E (j : Int)) = rd (rnkL id) (rd E ((j + 1 : Nat) : Int))
  ·have := ra.2.2.1
   rw [e, rb.2.2.1] at this
   rw [this] at l
   unfold Ls at l; omega
  ·obtain ⟨x, hx⟩ : ∃ x : Nat, rd (rnkL id) (rd E ((j + 1 : Nat) : Int)) = (x : Int) := ⟨_, (Int.toNat_of_nonneg rb.1).symm⟩
   obtain ⟨y, hy⟩ : ∃ y : Nat, rd (rnkL id) (rd E (j : Int)) = (y : Int) := ⟨_, (Int.toNat_of_nonneg ra.1).symm⟩
   have l2 := ls_far (plain := plain) ho' x (y - x - 1) (by omega)
   rw [show x + (y - x - 1) + 1 = y by omega, ← hx, ← hy, ra.2.2.1, rb.2.2.1] at l2
   unfold Ls at l l2; omega
 ·have a := ok_at (ho j hj)
  exact (rnk_at h1 h2 _ a.1 (by omega)).1
 ·have a := ok_at (ho j hj)
  have := (rnk_at h1 h2 _ a.1 (by omega)).2.1
  omega
theorem right_ev (id plain : Int) (E R : List Int) : rightV id plain E R = decide (isB id plain E R) := by
 by_cases h : isB id plain E R
 ·rw [decide_eq_true h]
  obtain ⟨⟨h1, h2⟩, rfl, rfl, rfl⟩ := h
  exact right_yes h1 h2
 ·rw [decide_eq_false h]
  cases e : rightV id plain E R with
  | false => rfl
  | true => exact absurd (right_isB e) h
/-! ### What is read -/
def plV (id : Int) : Int := (kindV id).2.2.2.1
theorem plain_in {id : Int} (h1 : 1 ≤ id) (h2 : id ≤ 12) : 0 ≤ plV id ∧ plV id ≤ 2 := by
 rcases kind_cases h1 h2 with rfl | rfl | rfl | rfl | rfl | rfl | rfl | rfl | rfl | rfl | rfl | rfl <;> decide
def rankV (m : Nat) (h pl w : Int) : Int := (2 ^ m + h - 1) * 2 ^ pl.toNat + w
def tailV (id : Int) (l : List Int) (m : Nat) (p : Int) : Int × Int × Int :=
 if (getV l p (m : Int)).2.2 = 0 then
  (if (getV l (getV l p (m : Int)).2.1 (plV id)).2.2 = 0 then
   (if rankV m (getV l p (m : Int)).1 (plV id) (getV l (getV l p (m : Int)).2.1 (plV id)).1 ≥ ((entL id).length : Int) then (0, 0, 8)
    else (rd (entL id) (rankV m (getV l p (m : Int)).1 (plV id) (getV l (getV l p (m : Int)).2.1 (plV id)).1), (getV l (getV l p (m : Int)).2.1 (plV id)).2.1, 0))
   else (0, 0, (getV l (getV l p (m : Int)).2.1 (plV id)).2.2))
  else (0, 0, (getV l p (m : Int)).2.2)
def readL (id : Int) (l : List Int) : Nat → Nat → Int → Int × Int × Int
 | 0, _, _ => (0, 0, 8)
 | d + 1, m, p => if (getV l p 1).2.2 = 0 then (if (getV l p 1).1 = 0 then readL id l d (m + 1) (getV l p 1).2.1 else tailV id l m (getV l p 1).2.1) else (0, 0, (getV l p 1).2.2)
theorem getV_eta {l : List Int} {p s : Int} (h : (getV l p s).2.2 = 0) : getV l p s = ((getV l p s).1, (getV l p s).2.1, 0) := by rw [← h]
theorem shl_two {m : Nat} (h : m ≤ 9) : shl .i64 1 (m : Int) = 2 ^ m := by
 have h1 : (2 : Int) ^ m ≤ 2 ^ 9 := pow_le h
 have h0 := pow_ge m
 unfold shl
 rw [Int.toNat_natCast, show min m IntKind.i64.bits = m from Nat.min_eq_left (Nat.le_trans h (by decide)), IntKind.wrap_i64]
 omega
theorem shl_pl {x pl : Int} (h0 : 0 ≤ pl) (h2 : pl ≤ 2) (hx : 0 ≤ x) (hx2 : x ≤ 100000) : shl .i64 x pl = x * 2 ^ pl.toNat := by
 rcases (by omega : pl = 0 ∨ pl = 1 ∨ pl = 2) with rfl | rfl | rfl <;> unfold shl <;> rw [IntKind.wrap_i64] <;> simp [IntKind.bits] <;> omega
theorem rank_in {m : Nat} {h pl w : Int} (hm : m ≤ 9) (h0 : 0 ≤ h) (h1 : h < 2 ^ m) (p0 : 0 ≤ pl) (p2 : pl ≤ 2) (w0 : 0 ≤ w) (w1 : w < 2 ^ pl.toNat) :
  1 ≤ (2 : Int) ^ m ∧ (2 : Int) ^ m ≤ 512 ∧ 1 ≤ (2 : Int) ^ pl.toNat ∧ (2 : Int) ^ pl.toNat ≤ 4 ∧ 0 ≤ (2 ^ m + h - 1) * 2 ^ pl.toNat ∧ (2 ^ m + h - 1) * 2 ^ pl.toNat ≤ 4096 ∧ 0 ≤ rankV m h pl w := by
 have a : (2 : Int) ^ m ≤ 2 ^ 9 := pow_le hm
 have b := pow_ge m
 unfold rankV
 rcases (by omega : pl = 0 ∨ pl = 1 ∨ pl = 2) with rfl | rfl | rfl <;> simp at * <;> omega
theorem rank_own {m : Nat} {h pl w : Int} (hm : m ≤ 9) (h0 : 0 ≤ h) (h1 : h < 2 ^ m) (p0 : 0 ≤ pl) (p2 : pl ≤ 2) (w0 : 0 ≤ w) (w1 : w < 2 ^ pl.toNat) :
  wrap64 ((shl .i64 (wrap64 ((wrap64 ((shl .i64 1 (m : Int)) + h)) - 1)) pl) + w) = rankV m h pl w := by
 obtain ⟨a, b, c, d, e, f, g⟩ := rank_in hm h0 h1 p0 p2 w0 w1
 rw [shl_two hm, w64 (x := 2 ^ m + h) (by omega) (by omega), w64 (x := 2 ^ m + h - 1) (by omega) (by omega), shl_pl p0 p2 (by omega) (by omega), w64 (by omega) (by omega)]
 rfl
theorem ownTail {id : Int} (h1 : 1 ≤ id) (h2 : id ≤ 12) {l : List Int} (B : Byt l) {m : Nat} (hm : m ≤ 9) (p : Int) :
  Ev (fun k => book_Read.l0 k l p ((m : Int) + 1) 1 id (plV id) (entL id) (rnkL id)) (tailV id l m p) := by
 obtain ⟨K1, e1⟩ := ownGet_ev B p (m : Int)
 obtain ⟨K2, e2⟩ := ownGet_ev B (getV l p (m : Int)).2.1 (plV id)
 obtain ⟨p0, p2⟩ := plain_in h1 h2
 dsimp only at e1 e2
 refine ⟨K1 + K2 + 1, fun k hk => ?_⟩
 obtain ⟨k, rfl⟩ : ∃ k', k = k' + 1 := ⟨k - 1, by omega⟩
 simp only [book_Read.l0]
 rw [if_neg (by decide), w64 (x := (m : Int) + 1 - 1) (by omega) (by omega), show (m : Int) + 1 - 1 = (m : Int) by omega, e1 k (by omega)]
 simp only [Option.bind_some]
 unfold tailV
 by_cases g1 : (getV l p (m : Int)).2.2 = 0
 ·rw [if_pos g1, if_pos g1, e2 k (by omega)]
  simp only [Option.bind_some]
  by_cases g2 : (getV l (getV l p (m : Int)).2.1 (plV id)).2.2 = 0
  ·have o1 := getV_ok B (getV_eta g1)
   have o2 := getV_ok B (getV_eta g2)
   rw [Int.toNat_natCast] at o1
   have g := (rank_in hm o1.2.2.2.2.2.2.1 o1.2.2.2.2.2.2.2 p0 p2 o2.2.2.2.2.2.2.1 o2.2.2.2.2.2.2.2).2.2.2.2.2.2
   rw [if_pos g2, if_pos g2, if_pos (by omega), if_pos p0, rank_own hm o1.2.2.2.2.2.2.1 o1.2.2.2.2.2.2.2 p0 p2 o2.2.2.2.2.2.2.1 o2.2.2.2.2.2.2.2]
   by_cases g3 : rankV m (getV l p (m : Int)).1 (plV id) (getV l (getV l p (m : Int)).2.1 (plV id)).1 ≥ ((entL id).length : Int)
   ·rw [if_pos g3, if_pos g3]
   ·rw [if_neg g3, if_neg g3, if_pos g, if_pos (by omega)]
  ·rw [if_neg g2, if_neg g2]
 ·rw [if_neg g1, if_neg g1]
theorem get_one {l : List Int} (B : Byt l) {p : Int} (h : (getV l p 1).2.2 = 0) : (getV l p 1).1 = 0 ∨ (getV l p 1).1 = 1 := by
 have := getV_ok B (getV_eta h)
 have e : (2 : Int) ^ (1 : Int).toNat = 2 := rfl
 rw [e] at this
 omega
theorem ownRead_go {id : Int} (h1 : 1 ≤ id) (h2 : id ≤ 12) {l : List Int} (B : Byt l) (d : Nat) : ∀ (m : Nat) (p : Int), m + d = 10 →
  Ev (fun k => book_Read.l0 k l p (m : Int) 0 id (plV id) (entL id) (rnkL id)) (readL id l d m p) := by
 induction d with
 | zero =>
  intro m p hm
  refine Ev.step (f := fun _ => some (0, 0, 8)) (fun k => ?_) (Ev.now _)
  simp only [book_Read.l0]; rw [if_pos trivial, if_pos (by omega)]
 | succ d ih =>
  intro m p hm
  obtain ⟨K1, e1⟩ := ownGet_ev B p 1
  obtain ⟨K2, e2⟩ := ih (m + 1) (getV l p 1).2.1 (by omega)
  obtain ⟨K3, e3⟩ := ownTail h1 h2 B (m := m) (by omega) (getV l p 1).2.1
  dsimp only at e1 e2 e3
  refine ⟨K1 + K2 + K3 + 1, fun k hk => ?_⟩
  obtain ⟨k, rfl⟩ : ∃ k', k = k' + 1 := ⟨k - 1, by omega⟩
  simp only [book_Read.l0]
  rw [if_pos trivial, if_neg (by omega), e1 k (by omega)]
  simp only [Option.bind_some, readL]
  by_cases g : (getV l p 1).2.2 = 0
  ·rw [if_pos g, if_pos g, w64 (by omega) (by omega)]
   rcases get_one B g with g0 | g0
   ·rw [if_pos g0, g0]; exact e2 k (by omega)
   ·rw [if_neg (by omega), g0]; exact e3 k (by omega)
  ·rw [if_neg g, if_neg g]
/-- What is read of some bits by a book. -/
def readV (id plain : Int) (E R l : List Int) (p : Int) : Int × Int × Int := if isB id plain E R then readL id l 10 0 p else (0, 0, 8)
theorem read_ev (id plain : Int) (E R : List Int) {l : List Int} (B : Byt l) (p : Int) : Ev (fun k => book_Read.f k id plain E R l p) (readV id plain E R l p) := by
 have hr := right_ev id plain E R
 unfold readV
 by_cases h : isB id plain E R
 ·rw [if_pos h]
  rw [decide_eq_true h] at hr
  obtain ⟨⟨h1, h2⟩, rfl, rfl, rfl⟩ := h
  refine Ev.congr (fun k => ?_) (ownRead_go h1 h2 B 10 0 p rfl)
  unfold book_Read.f
  rw [show book_right.f id (kindV id).2.2.2.1 (entL id) (rnkL id) = some true from congrArg some hr]
  simp only [Option.bind_some]
  rw [if_pos trivial]
  rfl
 ·rw [if_neg h]
  rw [decide_eq_false h] at hr
  refine Ev.congr (f := fun _ => some (0, 0, 8)) (fun k => ?_) (Ev.now _)
  unfold book_Read.f
  rw [show book_right.f id plain E R = some false from congrArg some hr]
  simp only [Option.bind_some]
  rw [if_neg (by decide)]
/-! ### Codes -/
/-- An entry's code. -/
def codeL (id : Int) (e : Nat) : List Int :=
 List.replicate (Nat.log2 ((rd (rnkL id) (e : Int)).toNat / 2 ^ (plV id).toNat + 1)) 0 ++
  (bN (Nat.log2 ((rd (rnkL id) (e : Int)).toNat / 2 ^ (plV id).toNat + 1) + 1) ((rd (rnkL id) (e : Int)).toNat / 2 ^ (plV id).toNat + 1) ++ bN (plV id).toNat ((rd (rnkL id) (e : Int)).toNat % 2 ^ (plV id).toNat))
def codeOk (id : Int) : Bool := (List.range (manyV id).toNat).all fun e =>
 decide (book_Code.j0 40 (e : Int) false id (plV id) (entL id) (rnkL id) = some (codeL id e, 0)) &&
 decide ((codeL id e).length ≤ 19) && decide (readL id (codeL id e) 10 0 0 = ((e : Int), ((codeL id e).length : Int), 0)) && (codeL id e).all fun x => decide (0 ≤ x) && decide (x ≤ 1)
set_option maxHeartbeats 8000000 in
set_option maxRecDepth 100000 in
theorem codeOk_all {id : Int} (h1 : 1 ≤ id) (h2 : id ≤ 12) : codeOk id = true := by
 rcases kind_cases h1 h2 with rfl | rfl | rfl | rfl | rfl | rfl | rfl | rfl | rfl | rfl | rfl | rfl <;> decide +kernel
theorem code_at {id : Int} (h1 : 1 ≤ id) (h2 : id ≤ 12) (e : Nat) (he : (e : Int) < manyV id) :
  book_Code.j0 40 (e : Int) false id (plV id) (entL id) (rnkL id) = some (codeL id e, 0) ∧
  (codeL id e).length ≤ 19 ∧ readL id (codeL id e) 10 0 0 = ((e : Int), ((codeL id e).length : Int), 0) ∧ ∀ x ∈ codeL id e, 0 ≤ x ∧ x ≤ 1 := by
 have := List.all_eq_true.1 (codeOk_all h1 h2) e (List.mem_range.2 (by omega))
 simp only [Bool.and_eq_true, decide_eq_true_eq, List.all_eq_true] at this
 obtain ⟨⟨⟨a, c⟩, d⟩, f⟩ := this
 exact ⟨a, c, d, f⟩
/-- An entry's code, or an error, of any book. -/
def codeV (id plain : Int) (E R : List Int) (e : Int) : List Int × Int := if isB id plain E R then (if 0 ≤ e ∧ e < manyV id then (codeL id e.toNat, 0) else ([], 2)) else ([], 8)
theorem code_ev (id plain : Int) (E R : List Int) (e : Int) : Ev (fun k => book_Code.f k id plain E R e) (codeV id plain E R e) := by
 have hr := right_ev id plain E R
 unfold codeV
 by_cases h : isB id plain E R
 ·rw [if_pos h]
  rw [decide_eq_true h] at hr
  obtain ⟨⟨h1, h2⟩, rfl, rfl, rfl⟩ := h
  have hl := len_tab h1 h2
  have hf : book_right.f id (kindV id).2.2.2.1 (entL id) (rnkL id) = some true := congrArg some hr
  have bad : Ev (fun k => book_Code.j0 k e true id (kindV id).2.2.2.1 (entL id) (rnkL id)) ([], 2) := Ev.step (f := fun _ => some ([], 2)) (fun k => by simp only [book_Code.j0]; rw [if_pos trivial]) (Ev.now _)
  by_cases g : 0 ≤ e ∧ e < manyV id
  ·rw [if_pos g]
   obtain ⟨n, rfl⟩ : ∃ n : Nat, e = (n : Int) := ⟨e.toNat, by omega⟩
   have := (code_at h1 h2 n g.2).1
   rw [Int.toNat_natCast]
   refine Ev.congr (f := fun k => book_Code.j0 k (n : Int) false id (kindV id).2.2.2.1 (entL id) (rnkL id)) (fun k => ?_) (Ev.of (fun k => book_Code.mono_l k _ _ _ _ _ _) this)
   unfold book_Code.f; rw [hf]; simp only [Option.bind_some]; rw [if_pos trivial, if_neg (by omega), decide_eq_false (by omega)]
  ·rw [if_neg g]
   refine Ev.congr (fun k => ?_) bad
   unfold book_Code.f; rw [hf]; simp only [Option.bind_some]; rw [if_pos trivial]
   by_cases g2 : e < 0
   ·rw [if_pos g2]
   ·rw [if_neg g2, decide_eq_true (by omega)]
 ·rw [if_neg h]
  rw [decide_eq_false h] at hr
  refine Ev.congr (f := fun _ => some ([], 8)) (fun k => ?_) (Ev.now _)
  unfold book_Code.f
  rw [show book_right.f id plain E R = some false from congrArg some hr]
  simp only [Option.bind_some]
  rw [if_neg (by decide)]
end Go.Proofs.Ytchflniekbhohaa.Pure
