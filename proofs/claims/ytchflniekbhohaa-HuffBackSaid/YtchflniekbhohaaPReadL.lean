/- What is read from bits: nothing behind is looked at; what is read has just these bits as its code. -/
import Derived.Test.YtchflniekbhohaaPCodeL

/- What is read from bits: nothing behind is looked at; what is read has just these bits as its code. -/
namespace Go.Proofs.Ytchflniekbhohaa.Pure
open Go.RowKit Go.Proofs.Ytchflniekbhohaa.P Go.Proofs.YtchflniekbhohaaW.PrintWords Go.Proofs.YtchflniekbhohaaW.PrintLast
set_option linter.unusedVariables false
set_option linter.unusedSimpArgs false

/-! ### What stands behind is not looked at -/
theorem getV_app' {c b : List Int} (B : Byt c) {p s : Int} (h : (getV c p s).2.2 = 0) : getV (c ++ b) p s = getV c p s :=
 (getV_app (b := b) B (getV_eta h)).trans (getV_eta h).symm
theorem tailV_app (id : Int) {c b : List Int} (B : Byt c) {m : Nat} {p x e : Int} (h : tailV id c m p = (x, e, 0)) : tailV id (c ++ b) m p = (x, e, 0) := by
 rw [← h]
 unfold tailV at h ⊢
 by_cases g1 : (getV c p (m : Int)).2.2 = 0
 ·rw [if_pos g1] at h
  rw [getV_app' B g1, if_pos g1, if_pos g1]
  by_cases g2 : (getV c (getV c p (m : Int)).2.1 (plV id)).2.2 = 0
  ·rw [getV_app' B g2]
  ·rw [if_neg g2] at h
   simp only [Prod.mk.injEq] at h
   exact absurd h.2.2 g2
 ·rw [if_neg g1] at h
  simp only [Prod.mk.injEq] at h
  exact absurd h.2.2 g1
theorem readL_app (id : Int) {c b : List Int} (B : Byt c) {x e : Int} (d : Nat) : ∀ (m : Nat) (p : Int), readL id c d m p = (x, e, 0) → readL id (c ++ b) d m p = (x, e, 0) := by
 induction d with
 | zero => intro m p h; simp [readL] at h
 | succ d ih =>
  intro m p h
  simp only [readL] at h ⊢
  by_cases g : (getV c p 1).2.2 = 0
  ·rw [getV_app' B g, if_pos g]
   rw [if_pos g] at h
   by_cases g2 : (getV c p 1).1 = 0
   ·rw [if_pos g2] at h ⊢; exact ih _ _ h
   ·rw [if_neg g2] at h ⊢; exact tailV_app id B h
  ·rw [if_neg g] at h
   simp only [Prod.mk.injEq] at h
   exact absurd h.2.2 g
/-! ### What is read has its bits as its code -/
theorem take_two (l : List Int) (p m n : Nat) : (l.drop p).take (m + n) = (l.drop p).take m ++ (l.drop (p + m)).take n := by
 rw [List.take_add, List.drop_drop]
theorem get_bits {l : List Int} (B : Byt l) {p s v e : Int} (h : getV l p s = (v, e, 0)) :
  0 ≤ s ∧ 0 ≤ p ∧ p + s ≤ (l.length : Int) ∧ e = p + s ∧ ∃ n : Nat, v = (n : Int) ∧ n < 2 ^ s.toNat ∧ (l.drop p.toNat).take s.toNat = bN s.toNat n := by
 obtain ⟨h1, -, h3, h4, h5, h6, h7, h8⟩ := getV_ok B h
 obtain ⟨n, rfl⟩ : ∃ n : Nat, v = (n : Int) := ⟨v.toNat, by omega⟩
 refine ⟨h1, h3, h4, h5, n, rfl, ?_, (gv_bN B s.toNat p.toNat 0 n (by omega) h6).1.symm⟩
 exact_mod_cast h8
theorem readL_bits {id : Int} (h1 : 1 ≤ id) (h2 : id ≤ 12) {l : List Int} (B : Byt l) {x e : Int} (d : Nat) : ∀ (m : Nat) (p : Int), m + d = 10 → readL id l d m p = (x, e, 0) →
  ∃ z v w : Nat, m + z ≤ 9 ∧ v < 2 ^ (m + z) ∧ w < 2 ^ (plV id).toNat ∧ 0 ≤ p ∧ e = p + ((z + (1 + ((m + z) + (plV id).toNat)) : Nat) : Int) ∧ e ≤ (l.length : Int) ∧
   (l.drop p.toNat).take (z + (1 + ((m + z) + (plV id).toNat))) = List.replicate z 0 ++ (1 :: (bN (m + z) v ++ bN (plV id).toNat w)) ∧
   rankV (m + z) (v : Int) (plV id) (w : Int) < ((entL id).length : Int) ∧ x = rd (entL id) (rankV (m + z) (v : Int) (plV id) (w : Int)) := by
 obtain ⟨p0, p2⟩ := plain_in h1 h2
 induction d with
 | zero => intro m p _ h; simp [readL] at h
 | succ d ih =>
  intro m p hm h
  simp only [readL] at h
  by_cases g : (getV l p 1).2.2 = 0
  rotate_left
  ·rw [if_neg g] at h
   simp only [Prod.mk.injEq] at h
   exact absurd h.2.2 g
  rw [if_pos g] at h
  obtain ⟨-, hp, hpl, he, n, hn, hn2, hb⟩ := get_bits B (getV_eta g)
  rw [show (1 : Int).toNat = 1 from rfl] at hb hn2
  have e1 : (p + 1).toNat = p.toNat + 1 := by omega
  by_cases g2 : (getV l p 1).1 = 0
  ·rw [if_pos g2, he] at h
   obtain ⟨z, v, w, a1, a2, a3, a4, a5, a6, a7, a8, a9⟩ := ih (m + 1) (p + 1) (by omega) h
   have en : n = 0 := by omega
   subst en
   have eq : m + 1 + z = m + (z + 1) := by omega
   rw [eq] at a1 a2 a5 a7 a8 a9
   refine ⟨z + 1, v, w, a1, a2, a3, hp, ?_, a6, ?_, a8, a9⟩
   ·rw [a5]; omega
   ·rw [show z + 1 + (1 + (m + (z + 1) + (plV id).toNat)) = 1 + (z + (1 + (m + (z + 1) + (plV id).toNat))) by omega, take_two, hb, ← e1, a7]
    rfl
  ·rw [if_neg g2, he] at h
   have en : n = 1 := by omega
   subst en
   unfold tailV at h
   by_cases g3 : (getV l (p + 1) (m : Int)).2.2 = 0
   rotate_left
   ·rw [if_neg g3] at h
    simp only [Prod.mk.injEq] at h
    exact absurd h.2.2 g3
   rw [if_pos g3] at h
   obtain ⟨-, -, b2, b3, v, hv, hv2, hvb⟩ := get_bits B (getV_eta g3)
   rw [Int.toNat_natCast] at hv2 hvb
   by_cases g4 : (getV l (getV l (p + 1) (m : Int)).2.1 (plV id)).2.2 = 0
   rotate_left
   ·rw [if_neg g4] at h
    simp only [Prod.mk.injEq] at h
    exact absurd h.2.2 g4
   rw [if_pos g4] at h
   obtain ⟨-, -, c2, c3, w, hw, hw2, hwb⟩ := get_bits B (getV_eta g4)
   rw [hv, hw, c3] at h
   rw [b3] at h c2 hwb
   by_cases g5 : rankV m (v : Int) (plV id) (w : Int) ≥ ((entL id).length : Int)
   ·rw [if_pos g5] at h; simp at h
   rw [if_neg g5] at h
   simp only [Prod.mk.injEq] at h
   refine ⟨0, v, w, by omega, by rw [Nat.add_zero]; exact hv2, hw2, hp, by omega, by omega, ?_, by rw [Nat.add_zero]; omega, by rw [Nat.add_zero]; exact h.1.symm⟩
   rw [Nat.zero_add, Nat.add_zero, take_two, take_two, hb, ← e1, hvb, show (p + 1).toNat + m = (p + 1 + (m : Int)).toNat by omega, hwb]
   rfl
def bitsOk (id : Int) : Bool := (List.range 10).all fun z => (List.range (2 ^ z)).all fun v => (List.range (2 ^ (plV id).toNat)).all fun w =>
 !decide (rankV z (v : Int) (plV id) (w : Int) < manyV id) || decide (codeL id (rd (entL id) (rankV z (v : Int) (plV id) (w : Int))).toNat = List.replicate z 0 ++ (1 :: (bN z v ++ bN (plV id).toNat w)))
set_option maxHeartbeats 8000000 in
set_option maxRecDepth 100000 in
theorem bitsOk_all {id : Int} (h1 : 1 ≤ id) (h2 : id ≤ 12) : bitsOk id = true := by
 rcases kind_cases h1 h2 with rfl | rfl | rfl | rfl | rfl | rfl | rfl | rfl | rfl | rfl | rfl | rfl <;> decide +kernel
/-- What is read, from a place to an end, is an entry whose code it is. -/
theorem read_code {id : Int} (h1 : 1 ≤ id) (h2 : id ≤ 12) {l : List Int} (B : Byt l) {p x e : Int} (h : readL id l 10 0 p = (x, e, 0)) :
  0 ≤ p ∧ p ≤ e ∧ e ≤ (l.length : Int) ∧ 0 ≤ x ∧ x < manyV id ∧ codeL id x.toNat = (l.take e.toNat).drop p.toNat := by
 obtain ⟨p0, p2⟩ := plain_in h1 h2
 have hl := len_tab h1 h2
 obtain ⟨z, v, w, a1, a2, a3, a4, a5, a6, a7, a8, a9⟩ := readL_bits h1 h2 B 10 0 p rfl h
 rw [Nat.zero_add] at a1 a2 a5 a7 a8 a9
 have g := (rank_in (m := z) (h := v) (pl := plV id) (w := w) a1 (by omega) (by exact_mod_cast a2) p0 p2 (by omega) (by exact_mod_cast a3)).2.2.2.2.2.2
 obtain ⟨-, -, hE, hR, ho⟩ := right_all (right_yes h1 h2)
 obtain ⟨r, hr⟩ : ∃ r : Nat, rankV z (v : Int) (plV id) (w : Int) = (r : Int) := ⟨_, (Int.toNat_of_nonneg g).symm⟩
 have o := ok_at (ho r (by omega))
 rw [← hr, ← a9] at o
 have t := List.all_eq_true.1 (List.all_eq_true.1 (List.all_eq_true.1 (bitsOk_all h1 h2) z (List.mem_range.2 (by omega))) v (List.mem_range.2 a2)) w (List.mem_range.2 a3)
 simp only [Bool.or_eq_true, Bool.not_eq_true', decide_eq_false_iff_not, decide_eq_true_eq] at t
 rcases t with t | t
 ·omega
 ·refine ⟨a4, by omega, a6, o.1, by omega, ?_⟩
  rw [← a9] at t
  rw [t, ← a7, List.drop_take]
  congr 1
  omega
end Go.Proofs.Ytchflniekbhohaa.Pure
