/- What stands at a place of bits; what is read there. -/
import Derived.Test.YtchflniekbhohaaPEscL
import Derived.Test.YtchflniekbhohaaPPut2L

/- What stands at a place of bits; what is read there. -/
namespace Go.Proofs.Ytchflniekbhohaa.Pure
open Go.RowKit Go.Proofs.Ytchflniekbhohaa.P Go.Proofs.YtchflniekbhohaaW.PrintWords Go.Proofs.YtchflniekbhohaaW.PrintLast Go.Proofs.YtchflniekbhohaaW.PrintMore
set_option linter.unusedVariables false
set_option linter.unusedSimpArgs false

/-- So much stands at a place. -/
def At (l : List Int) (p : Nat) (x : List Int) : Prop := ∃ pre post, l = pre ++ (x ++ post) ∧ pre.length = p
theorem At.nil {l : List Int} {p : Nat} (h : p ≤ l.length) : At l p [] := ⟨l.take p, l.drop p, by simp, by rw [List.length_take]; omega⟩
theorem At.le {l x : List Int} {p : Nat} (h : At l p x) : p + x.length ≤ l.length := by
 obtain ⟨a, b, rfl, rfl⟩ := h; simp only [List.length_append]; omega
theorem At.left {l x y : List Int} {p : Nat} (h : At l p (x ++ y)) : At l p x := by
 obtain ⟨a, b, rfl, rfl⟩ := h; exact ⟨a, y ++ b, by simp, rfl⟩
theorem At.right {l x y : List Int} {p : Nat} (h : At l p (x ++ y)) : At l (p + x.length) y := by
 obtain ⟨a, b, rfl, rfl⟩ := h; exact ⟨a ++ x, b, by simp, by simp⟩
theorem At.app {l x y : List Int} {p : Nat} (h : At l p x) (k : At l (p + x.length) y) : At l p (x ++ y) := by
 obtain ⟨a, b, rfl, rfl⟩ := h
 obtain ⟨c, d, e, f⟩ := k
 rw [← List.append_assoc] at e
 have := List.append_inj e (by simp [f])
 exact ⟨a, d, by rw [this.2, List.append_assoc], rfl⟩
theorem At.bits {l x : List Int} {p : Nat} (h : At l p x) : (l.take (p + x.length)).drop p = x := by
 obtain ⟨a, b, rfl, rfl⟩ := h
 rw [← List.append_assoc, List.take_append_of_le_length (by simp), List.take_of_length_le (by simp), List.drop_append_of_le_length (Nat.le_refl _), List.drop_length]
 rfl
theorem At.of_bits {l x : List Int} {p e : Nat} (h1 : p ≤ e) (h2 : e ≤ l.length) (h : (l.take e).drop p = x) : At l p x ∧ e = p + x.length := by
 have hl : x.length = e - p := by rw [← h]; simp; omega
 refine ⟨⟨l.take p, l.drop e, ?_, by rw [List.length_take]; omega⟩, by omega⟩
 rw [← h]
 have a : l.take e = l.take p ++ (l.take e).drop p := by
  have := List.take_append_drop p (l.take e)
  rw [List.take_take, Nat.min_eq_left h1] at this
  exact this.symm
 rw [← List.append_assoc, ← a, List.take_append_drop]
theorem At.of_drop {l x : List Int} {p s : Nat} (h1 : p + s ≤ l.length) (h : (l.drop p).take s = x) : At l p x := by
 refine ⟨l.take p, l.drop (p + s), ?_, by rw [List.length_take]; omega⟩
 rw [← h]
 have : l.drop (p + s) = (l.drop p).drop s := by rw [List.drop_drop]
 rw [this, List.take_append_drop, List.take_append_drop]
theorem At.head {l r : List Int} {p : Nat} {v : Int} (h : At l p (v :: r)) : rd l (p : Int) = v ∧ At l (p + 1) r := by
 have h2 := At.right (x := [v]) (y := r) h
 refine ⟨?_, h2⟩
 obtain ⟨a, b, rfl, rfl⟩ := h
 unfold rd; simp
theorem At.whole (x : List Int) (r : List Int) : At (x ++ r) 0 x := ⟨[], r, rfl, rfl⟩
/-! ### Bits that are told are read -/
theorem gv_of (l : List Int) (n : Nat) : ∀ (d p : Nat) (a : Nat), At l p (bN d n) → gv l d p (a : Int) = some ((a * 2 ^ d + n % 2 ^ d : Nat) : Int) := by
 intro d
 induction d with
 | zero => intro p a _; simp only [gv, Nat.pow_zero, Nat.mod_one]; congr 2; omega
 | succ d ih =>
  intro p a h
  rw [bN_cons] at h
  obtain ⟨h1, h2⟩ := h.head
  have hb := Nat.mod_lt (n / 2 ^ d) (show 0 < 2 by decide)
  have := ih (p + 1) (2 * a + n / 2 ^ d % 2) h2
  simp only [gv]
  rw [h1, if_neg (by omega), show (2 * (a : Int) + ((n / 2 ^ d % 2 : Nat) : Int)) = ((2 * a + n / 2 ^ d % 2 : Nat) : Int) by omega, this]
  have e : n % 2 ^ (d + 1) = n % 2 ^ d + 2 ^ d * (n / 2 ^ d % 2) := by rw [Nat.pow_succ, Nat.mod_mul]
  have e2 : (2 * a + n / 2 ^ d % 2) * 2 ^ d = a * 2 ^ (d + 1) + 2 ^ d * (n / 2 ^ d % 2) := by
   rw [Nat.pow_succ, Nat.add_mul, Nat.mul_comm 2 a, Nat.mul_assoc, Nat.mul_comm 2 (2 ^ d), Nat.mul_comm (n / 2 ^ d % 2)]
  rw [e, e2]
  congr 2
  omega
theorem getV_of {l : List Int} {p d n : Nat} (h : At l p (bN d n)) (hn : n < 2 ^ d) (hd : d ≤ 31) : getV l (p : Int) (d : Int) = ((n : Int), ((p + d : Nat) : Int), 0) := by
 have hl := h.le
 rw [bN_length] at hl
 unfold getV
 have hg := gv_of l n d p 0 h
 rw [show (((0 : Nat)) : Int) = 0 from rfl] at hg
 rw [if_pos ⟨by omega, by omega, by omega, by omega⟩, if_neg (by omega), Int.toNat_natCast, Int.toNat_natCast, hg]
 simp only [gvR, Nat.zero_mul, Nat.zero_add, Nat.mod_eq_of_lt hn]
 rfl
theorem rget_of {l : List Int} {p d n : Nat} (h : At l p (bN d n)) (hn : n < 2 ^ d) (hd : d ≤ 31) : rgetV l (p : Int) 0 (d : Int) = ((n : Int), ((p + d : Nat) : Int), 0) := by
 unfold rgetV
 rw [if_neg (by decide), getV_of h hn hd, if_pos rfl]
theorem bN1 (b : Nat) (h : b < 2) : bN 1 b = [(b : Int)] := by
 unfold bN; rw [Nat.mod_eq_of_lt h]; rfl
theorem rget_bit {l : List Int} {p : Nat} {b : Nat} (hb : b < 2) (h : At l p [(b : Int)]) : rgetV l (p : Int) 0 1 = ((b : Int), ((p + 1 : Nat) : Int), 0) := by
 rw [← bN1 b hb] at h
 exact rget_of h hb (by decide)
theorem rget_back {l : List Int} (B : Byt l) {p : Nat} {e : Int} {m : Nat} {n q : Int} (h : rgetV l (p : Int) e (m : Int) = (n, q, 0)) :
  e = 0 ∧ ∃ x : Nat, n = (x : Int) ∧ x < 2 ^ m ∧ At l p (bN m x) ∧ q = ((p + m : Nat) : Int) := by
 unfold rgetV at h
 by_cases he : e ≠ 0
 ·rw [if_pos he] at h; simp only [Prod.mk.injEq] at h; exact absurd h.2.2 he
 rw [if_neg he] at h
 by_cases g : (getV l (p : Int) (m : Int)).2.2 = 0
 ·rw [if_pos g] at h
  simp only [Prod.mk.injEq, and_true] at h
  obtain ⟨-, -, b2, b3, v, hv, hv2, hvb⟩ := get_bits B (getV_eta g)
  rw [Int.toNat_natCast] at hv2 hvb
  rw [Int.toNat_natCast] at hvb
  exact ⟨Classical.not_not.1 he, v, by rw [← h.1, hv], hv2, At.of_drop (by omega) hvb, by rw [← h.2, b3]; omega⟩
 ·rw [if_neg g] at h
  simp only [Prod.mk.injEq] at h
  exact absurd h.2.2 g
theorem rget_bit_back {l : List Int} (B : Byt l) {p : Nat} {e n q : Int} (h : rgetV l (p : Int) e 1 = (n, q, 0)) : e = 0 ∧ ∃ b : Nat, n = (b : Int) ∧ b < 2 ∧ At l p [(b : Int)] ∧ q = ((p + 1 : Nat) : Int) := by
 obtain ⟨h1, x, h2, h3, h4, h5⟩ := rget_back B (m := 1) h
 rw [bN1 x h3] at h4
 exact ⟨h1, x, h2, h3, h4, h5⟩
/-! ### Escapes -/
theorem escL_of {l : List Int} (j : Nat) : ∀ (d m p : Nat), m + j ≤ 8 → j + 1 ≤ d → At l p (List.replicate j 1 ++ [0]) → escL l d m (p : Int) 0 = (m + j, ((p + j + 1 : Nat) : Int), 0) := by
 induction j with
 | zero =>
  intro d m p hm hd h
  obtain ⟨d, rfl⟩ : ∃ d', d = d' + 1 := ⟨d - 1, by omega⟩
  simp only [escL]
  rw [rget_bit (b := 0) (by decide) h, if_neg (by simp)]
  rfl
 | succ j ih =>
  intro d m p hm hd h
  obtain ⟨d, rfl⟩ : ∃ d', d = d' + 1 := ⟨d - 1, by omega⟩
  rw [List.replicate_succ, List.cons_append] at h
  obtain ⟨-, h2⟩ := h.head
  have h1 : At l p [((1 : Nat) : Int)] := At.left (y := List.replicate j 1 ++ [0]) h
  have := ih d (m + 1) (p + 1) (by omega) (by omega) h2
  simp only [escL]
  rw [rget_bit (b := 1) (by decide) h1, if_pos ⟨rfl, rfl⟩, if_neg (by omega), this]
  simp only [Prod.mk.injEq, and_true]
  omega
theorem escB_length {n : Nat} (h0 : 16 ≤ n) (h1 : n ≤ 8191) : (escB n).length = (Nat.log2 n - 4) + 1 + Nat.log2 n := by
 unfold escB; rw [List.length_append, List.length_replicate, List.length_cons, bN_length]; omega
theorem resc_of {l : List Int} {n p : Nat} (h0 : 16 ≤ n) (h1 : n ≤ 8191) (h : At l p (escB n)) : rescV l (p : Int) 0 = ((n : Int), ((p + (escB n).length : Nat) : Int), 0) := by
 obtain ⟨-, -, -, -, -, f, g, k, i⟩ := esc_at h0 h1
 have hl := escB_length h0 h1
 have l1 := (Nat.log2_eq_iff (n := n) (k := Nat.log2 n) (by omega)).1 rfl
 unfold escB at h hl ⊢
 generalize Nat.log2 n = q at *
 rw [Nat.pow_succ] at l1
 have e : List.replicate (q - 4) (1 : Int) ++ (0 :: bN q (n - 2 ^ q)) = (List.replicate (q - 4) 1 ++ [0]) ++ bN q (n - 2 ^ q) := by simp
 rw [e] at h
 have ha := escL_of (q - 4) 10 0 p (by omega) (by omega) h.left
 have hb := h.right
 rw [List.length_append, List.length_replicate] at hb
 unfold rescV
 rw [ha]
 unfold escT
 have eq4 : ((0 + (q - 4) : Nat) : Int) + 4 = (q : Int) := by omega
 have ep : ((p + (q - 4) + 1 : Nat) : Int) = ((p + ((q - 4) + [(0 : Int)].length) : Nat) : Int) := by simp; omega
 dsimp only
 rw [eq4, ep, rget_of hb (by omega) (by omega), show 0 + (q - 4) + 4 = q by omega]
 have e2 : ((2 ^ q : Nat) : Int) = (2 : Int) ^ q := by push_cast; rfl
 rw [← e2, hl]
 simp only [List.length_cons, List.length_nil, Prod.mk.injEq, and_true]
 omega
theorem escL_back {l : List Int} (B : Byt l) (d : Nat) : ∀ (m p : Nat) (e : Int) (m' : Nat) (q : Int), m ≤ 8 → escL l d m (p : Int) e = (m', q, 0) → m + d = 10 →
  e = 0 ∧ ∃ j, m' = m + j ∧ m' ≤ 8 ∧ At l p (List.replicate j 1 ++ [0]) ∧ q = ((p + j + 1 : Nat) : Int) := by
 induction d with
 | zero => intro m p e m' q hm h hmd; omega
 | succ d ih =>
  intro m p e m' q hm h hmd
  simp only [escL] at h
  generalize hr : rgetV l (p : Int) e 1 = r at h
  obtain ⟨n, r2, r3⟩ := r
  dsimp only at h
  by_cases g : n = 1 ∧ r3 = 0
  ·rw [if_pos g] at h
   obtain ⟨rfl, rfl⟩ := g
   obtain ⟨he, b, hb1, hb2, hb3, hb4⟩ := rget_bit_back B hr
   by_cases g2 : 8 < m + 1
   ·rw [if_pos g2] at h
    exfalso
    -- an error is kept
    have keep : ∀ (d m : Nat) (p : Int), (escL l d m p 8).2.2 = 8 := by
     intro d
     induction d with
     | zero => intro m p; rfl
     | succ d ih2 =>
      intro m p
      simp only [escL]
      have : rgetV l p 8 1 = (0, p, 8) := by unfold rgetV; rw [if_pos (by decide)]
      rw [this, if_neg (by simp)]
    have := keep d (m + 1) r2
    rw [h] at this
    simp at this
   ·rw [if_neg g2] at h
    rw [hb4] at h
    obtain ⟨-, j, j1, j2, j3, j4⟩ := ih (m + 1) (p + 1) 0 m' q (by omega) h (by omega)
    refine ⟨he, j + 1, by omega, j2, ?_, by rw [j4]; omega⟩
    rw [List.replicate_succ, List.cons_append]
    have hb0 : (b : Int) = 1 := hb1.symm
    rw [hb0] at hb3
    exact At.app (x := [1]) hb3 j3
  ·rw [if_neg g] at h
   simp only [Prod.mk.injEq] at h
   obtain ⟨rfl, rfl, rfl⟩ := h
   obtain ⟨he, b, hb1, hb2, hb3, hb4⟩ := rget_bit_back B hr
   have hb0 : b = 0 := by
    rcases (by omega : b = 0 ∨ b = 1) with h | h
    ·exact h
    ·exact absurd ⟨by rw [hb1, h]; rfl, rfl⟩ g
   subst hb0
   exact ⟨he, 0, by omega, hm, hb3, by rw [hb4]⟩
theorem resc_back {l : List Int} (B : Byt l) {p : Nat} {e n q : Int} (h : rescV l (p : Int) e = (n, q, 0)) :
  e = 0 ∧ ∃ x : Nat, n = (x : Int) ∧ 16 ≤ x ∧ x ≤ 8191 ∧ At l p (escB x) ∧ q = ((p + (escB x).length : Nat) : Int) := by
 unfold rescV at h
 generalize ht : escL l 10 0 (p : Int) e = t at h
 obtain ⟨m, q1, e1⟩ := t
 unfold escT at h
 dsimp only at h
 generalize hr : rgetV l q1 e1 ((m : Int) + 4) = r at h
 obtain ⟨x, q2, e2⟩ := r
 simp only [Prod.mk.injEq] at h
 obtain ⟨hn, hq, rfl⟩ := h
 have h0 : e1 = 0 := by
  unfold rgetV at hr
  by_cases g : e1 ≠ 0
  ·rw [if_pos g] at hr; simp only [Prod.mk.injEq] at hr; exact absurd hr.2.2 g
  ·exact Classical.not_not.1 g
 subst h0
 obtain ⟨he, j, j1, j2, j3, j4⟩ := escL_back B 10 0 p e m q1 (by omega) ht rfl
 rw [j4, show ((m : Int) + 4) = ((m + 4 : Nat) : Int) by omega] at hr
 obtain ⟨-, y, y1, y2, y3, y4⟩ := rget_back B hr
 have hp4 : (2 : Nat) ^ 4 ≤ 2 ^ (m + 4) := Nat.pow_le_pow_right (by decide) (by omega)
 have hp12 : (2 : Nat) ^ (m + 4) ≤ 2 ^ 12 := Nat.pow_le_pow_right (by decide) (by omega)
 have hlog : Nat.log2 (2 ^ (m + 4) + y) = m + 4 := (Nat.log2_eq_iff (by omega)).2 ⟨by omega, by rw [Nat.pow_succ (m := m + 4)]; omega⟩
 have hesc : escB (2 ^ (m + 4) + y) = (List.replicate j 1 ++ [0]) ++ bN (m + 4) y := by
  unfold escB
  rw [hlog, show 2 ^ (m + 4) + y - 2 ^ (m + 4) = y by omega, show m + 4 - 4 = j by omega]
  simp
 have e2' : ((2 ^ (m + 4) : Nat) : Int) = (2 : Int) ^ (m + 4) := by push_cast; rfl
 refine ⟨he, 2 ^ (m + 4) + y, ?_, by omega, ?_, ?_, ?_⟩
 ·rw [← hn, y1, ← e2']; omega
 ·have : (2 : Nat) ^ 12 = 4096 := rfl
  omega
 ·rw [hesc]
  refine At.app j3 ?_
  rw [List.length_append, List.length_replicate]
  exact y3
 ·rw [hesc, ← hq, y4, List.length_append, List.length_append, List.length_replicate, bN_length]
  simp only [List.length_cons, List.length_nil]
  omega
end Go.Proofs.Ytchflniekbhohaa.Pure
