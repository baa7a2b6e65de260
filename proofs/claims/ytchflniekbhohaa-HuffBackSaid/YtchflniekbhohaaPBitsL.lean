/- Bits that are read, as a pure law. -/
import Derived.Test.YtchflniekbhohaaPLitL
import Derived.Test.YtchflniekbhohaaL0a0
import Derived.Laws.BitsLemmas

/- Bits that are read, as a pure law. -/
namespace Go.Proofs.Ytchflniekbhohaa.Pure
open Go.RowKit Go.Proofs.Ytchflniekbhohaa.P Go.Proofs.YtchflniekbhohaaW.PrintWords Go.Proofs.YtchflniekbhohaaW.PrintLast Go.Proofs.YtchflniekbhohaaW.PrintMore
set_option linter.unusedVariables false
set_option linter.unusedSimpArgs false

/-- Bytes that a list may have. -/
structure Byt (l : List Int) : Prop where
 len : l.length ≤ 140737488355328
 pos : ∀ x ∈ l, 0 ≤ x ∧ x ≤ 255
theorem Byt.at {l : List Int} (h : Byt l) (i : Int) : 0 ≤ rd l i ∧ rd l i ≤ 255 := by
 unfold rd
 rw [List.getD_eq_getElem?_getD]
 cases e : l[i.toNat]? with
 | none => simp
 | some x => exact h.pos x (List.mem_of_getElem? e)
theorem pow_le {i n : Nat} (h : i ≤ n) : (2 : Int) ^ i ≤ 2 ^ n := by
 have := Nat.pow_le_pow_right (n := 2) (by decide) h
 exact_mod_cast this
theorem pow_ge (i : Nat) : (1 : Int) ≤ 2 ^ i := pow_le (Nat.zero_le i)
/-- So many bits from a place on, behind a number. -/
def gv (l : List Int) : Nat → Nat → Int → Option Int
 | 0, _, a => some a
 | d + 1, p, a => if rd l (p : Int) > 1 then none else gv l d (p + 1) (2 * a + rd l (p : Int))
def gvR (v : Option Int) (e : Int) : Int × Int × Int := match v with | some v => (v, e, 0) | none => (0, 0, 8)
/-- What stands at a place of bits, in so many. -/
def getV (l : List Int) (at' s : Int) : Int × Int × Int :=
 if 0 ≤ s ∧ s ≤ 31 ∧ 0 ≤ at' ∧ at' ≤ (l.length : Int) then (if (l.length : Int) - at' < s then (0, 0, 5) else gvR (gv l s.toNat at'.toNat 0) (at' + s)) else (0, 0, 2)
theorem or_bit {a b : Int} (h0 : 0 ≤ a) (h1 : a < 2147483648) (b0 : 0 ≤ b) (b1 : b ≤ 1) : Go.bits .or .i64 (a * 2) b = 2 * a + b := by
 rw [bits_join .i64 63 (by decide) (fun n a b => by rw [IntKind.wrap_i64]; omega) 1 (a * 2) b (by omega) (by omega) (by omega) b0 (by omega) (by omega)]
 omega
theorem ownGet_go {l : List Int} (B : Byt l) (p s : Nat) (hs : s ≤ 31) (hp : p + s ≤ l.length) (d : Nat) : ∀ (i : Nat) (a : Int), i + d = s → 0 ≤ a → a < 2 ^ i →
  Ev (fun k => bits_Get.l0 k l (p : Int) (s : Int) a (s : Int) (i : Int)) (gvR (gv l d (p + i) a) ((p : Int) + s)) := by
 have hl := B.len
 induction d with
 | zero =>
  intro i a hi h0 h1
  refine Ev.step (f := fun _ => some (a, (p : Int) + s, 0)) (fun k => ?_) (Ev.now _)
  simp only [bits_Get.l0]; rw [if_neg (by omega), w64 (by omega) (by omega)]
 | succ d ih =>
  intro i a hi h0 h1
  have hb := B.at ((p + i : Nat) : Int)
  have h2 : (2 : Int) ^ i ≤ 2 ^ 31 := pow_le (by omega)
  have e : (p : Int) + i = ((p + i : Nat) : Int) := by omega
  by_cases g : rd l ((p + i : Nat) : Int) > 1
  ·refine Ev.step (f := fun _ => some (0, 0, 8)) (fun k => ?_) ?_
   ·simp only [bits_Get.l0]; rw [if_pos (by omega), w64 (x := (p : Int) + i) (by omega) (by omega), if_pos (by omega), if_pos (by omega), e, if_pos g]
   ·simp only [gv]; rw [if_pos g]; exact Ev.now _
  ·have hp2 : (2 : Int) ^ (i + 1) = 2 ^ i * 2 := Int.pow_succ _ _
   have h := ih (i + 1) (2 * a + rd l ((p + i : Nat) : Int)) (by omega) (by omega) (by omega)
   refine Ev.step (f := fun k => bits_Get.l0 k l (p : Int) (s : Int) (2 * a + rd l ((p + i : Nat) : Int)) (s : Int) ((i + 1 : Nat) : Int)) (fun k => ?_) ?_
   ·simp only [bits_Get.l0]
    rw [if_pos (by omega), w64 (x := (p : Int) + i) (by omega) (by omega), if_pos (by omega), if_pos (by omega), e, if_neg g, w64 (x := a * 2) (by omega) (by omega), w64 (x := rd l ((p + i : Nat) : Int)) (by omega) (by omega), or_bit h0 (by omega) hb.1 (by omega), w64 (x := (i : Int) + 1) (by omega) (by omega)]
    rfl
   ·simp only [gv]; rw [if_neg g]; exact h
theorem ownGet_ev {l : List Int} (B : Byt l) (a s : Int) : Ev (fun k => bits_Get.f k l a s) (getV l a s) := by
 have hl := B.len
 unfold getV
 by_cases h1 : 0 ≤ s ∧ s ≤ 31
 ·have hz : bits_sized.f s = some true := by unfold bits_sized.f; rw [if_pos h1.1, decide_eq_true h1.2]
  by_cases h2 : 0 ≤ a ∧ a ≤ (l.length : Int)
  ·rw [if_pos ⟨h1.1, h1.2, h2.1, h2.2⟩]
   refine Ev.congr (f := fun k => bits_Get.j0 k l a s 0 false) (fun k => ?_) ?_
   ·unfold bits_Get.f; rw [hz]; simp only [Option.bind_some]; rw [if_pos trivial, if_neg (by omega), decide_eq_false (by omega)]
   by_cases h3 : (l.length : Int) - a < s
   ·rw [if_pos h3]
    refine Ev.step (f := fun _ => some (0, 0, 5)) (fun k => ?_) (Ev.now _)
    simp only [bits_Get.j0]; rw [if_neg (by decide), w64 (by omega) (by omega), if_pos h3]
   ·rw [if_neg h3]
    obtain ⟨p, rfl⟩ : ∃ p : Nat, a = (p : Int) := ⟨a.toNat, by omega⟩
    obtain ⟨n, rfl⟩ : ∃ n : Nat, s = (n : Int) := ⟨s.toNat, by omega⟩
    have := ownGet_go B p n (by omega) (by omega) n 0 0 (by omega) (by decide) (by decide)
    refine Ev.step (fun k => ?_) this
    simp only [bits_Get.j0]; rw [if_neg (by decide), w64 (by omega) (by omega), if_neg h3]; rfl
  ·rw [if_neg (by omega)]
   refine Ev.congr (f := fun k => bits_Get.j0 k l a s 0 true) (fun k => ?_) (Ev.step (f := fun _ => some (0, 0, 2)) (fun k => ?_) (Ev.now _))
   ·unfold bits_Get.f; rw [hz]; simp only [Option.bind_some]; rw [if_pos trivial]
    by_cases h3 : a < 0
    ·rw [if_pos h3]
    ·rw [if_neg h3, decide_eq_true (by omega)]
   ·simp only [bits_Get.j0]; rw [if_pos trivial]
 ·rw [if_neg (by omega)]
  have hz : bits_sized.f s = some false := by
   unfold bits_sized.f
   by_cases h : s ≥ 0
   ·rw [if_pos h, decide_eq_false (by omega)]
   ·rw [if_neg h]
  refine Ev.congr (f := fun k => bits_Get.j0 k l a s 0 true) (fun k => ?_) (Ev.step (f := fun _ => some (0, 0, 2)) (fun k => ?_) (Ev.now _))
  ·unfold bits_Get.f; rw [hz]; simp only [Option.bind_some]; rw [if_neg (by decide)]
  ·simp only [bits_Get.j0]; rw [if_pos trivial]
/-! ### What getV tells -/
theorem gv_bound {l : List Int} (B : Byt l) : ∀ (d p : Nat) (a v : Int), gv l d p a = some v → a * 2 ^ d ≤ v ∧ v < (a + 1) * 2 ^ d := by
 intro d
 induction d with
 | zero => intro p a v h; simp only [gv, Option.some.injEq] at h; subst h; simp; omega
 | succ d ih =>
  intro p a v h
  simp only [gv] at h
  have hb := B.at (p : Int)
  by_cases g : rd l (p : Int) > 1
  ·rw [if_pos g] at h; cases h
  ·rw [if_neg g] at h
   have := ih _ _ _ h
   have e : (2 : Int) ^ (d + 1) = 2 * 2 ^ d := by rw [Int.pow_succ]; omega
   have h0 := pow_ge d
   rw [e]
   have h1 : (2 * a + rd l (p : Int)) * 2 ^ d = a * (2 * 2 ^ d) + rd l (p : Int) * 2 ^ d := by rw [Int.add_mul, Int.mul_comm 2 a, Int.mul_assoc]
   have h2 : (2 * a + rd l (p : Int) + 1) * 2 ^ d = a * (2 * 2 ^ d) + rd l (p : Int) * 2 ^ d + 2 ^ d := by rw [Int.add_mul, h1]; omega
   have h3 : (a + 1) * (2 * 2 ^ d) = a * (2 * 2 ^ d) + 2 * 2 ^ d := by rw [Int.add_mul]; omega
   rw [h1, h2] at this
   rw [h3]
   rcases (by omega : rd l (p : Int) = 0 ∨ rd l (p : Int) = 1) with g0 | g0 <;> rw [g0] at this <;> constructor <;> omega
theorem getV_ok {l : List Int} (B : Byt l) {a s v e : Int} (h : getV l a s = (v, e, 0)) :
  0 ≤ s ∧ s ≤ 31 ∧ 0 ≤ a ∧ a + s ≤ (l.length : Int) ∧ e = a + s ∧ gv l s.toNat a.toNat 0 = some v ∧ 0 ≤ v ∧ v < 2 ^ s.toNat := by
 unfold getV at h
 by_cases g : 0 ≤ s ∧ s ≤ 31 ∧ 0 ≤ a ∧ a ≤ (l.length : Int)
 ·rw [if_pos g] at h
  by_cases g2 : (l.length : Int) - a < s
  ·rw [if_pos g2] at h; simp at h
  ·rw [if_neg g2] at h
   cases hv : gv l s.toNat a.toNat 0 with
   | none => rw [hv] at h; simp [gvR] at h
   | some x =>
    rw [hv] at h
    simp only [gvR, Prod.mk.injEq] at h
    have := gv_bound B _ _ _ _ hv
    refine ⟨g.1, g.2.1, g.2.2.1, by omega, h.2.1.symm, by rw [h.1], ?_, ?_⟩ <;> rw [← h.1] <;> omega
 ·rw [if_neg g] at h; simp at h
theorem gv_app (c b : List Int) : ∀ (d p : Nat) (a : Int), p + d ≤ c.length → gv (c ++ b) d p a = gv c d p a := by
 intro d
 induction d with
 | zero => intros; rfl
 | succ d ih =>
  intro p a h
  have e : rd (c ++ b) (p : Int) = rd c (p : Int) := by
   unfold rd
   rw [Int.toNat_natCast, List.getD_eq_getElem?_getD, List.getD_eq_getElem?_getD, List.getElem?_append_left (by omega)]
  simp only [gv, e]
  rw [ih _ _ (by omega)]
theorem getV_app {c b : List Int} (B : Byt c) {a s v e : Int} (h : getV c a s = (v, e, 0)) : getV (c ++ b) a s = (v, e, 0) := by
 obtain ⟨h1, h2, h3, h4, h5, h6, -, -⟩ := getV_ok B h
 unfold getV
 rw [List.length_append, if_pos ⟨h1, h2, h3, by omega⟩, if_neg (by omega), gv_app _ _ _ _ _ (by omega), h6, h5]
 rfl
/-- A number's bits, the highest first. -/
def bN : Nat → Nat → List Int
 | 0, _ => []
 | s + 1, n => bN s (n / 2) ++ [((n % 2 : Nat) : Int)]
theorem bN_length : ∀ s n, (bN s n).length = s := by
 intro s
 induction s with
 | zero => intro n; rfl
 | succ s ih => intro n; simp [bN, ih]
theorem bN_cons : ∀ d v, bN (d + 1) v = ((v / 2 ^ d % 2 : Nat) : Int) :: bN d v := by
 intro d
 induction d with
 | zero => intro v; simp [bN]
 | succ d ih =>
  intro v
  have e : v / 2 / 2 ^ d = v / 2 ^ (d + 1) := by rw [Nat.div_div_eq_div_mul, Nat.pow_succ, Nat.mul_comm]
  rw [bN, ih (v / 2), e]
  rfl
/-- Bits that are read are the number's. -/
theorem gv_bN {l : List Int} (B : Byt l) : ∀ (d p : Nat) (a : Nat) (v : Nat), p + d ≤ l.length → gv l d p (a : Int) = some (v : Int) → bN d v = (l.drop p).take d ∧ v / 2 ^ d = a := by
 intro d
 induction d with
 | zero =>
  intro p a v _ h
  simp only [gv, Option.some.injEq, Int.ofNat_inj] at h
  subst h; simp [bN]
 | succ d ih =>
  intro p a v hp h
  have hb := B.at (p : Int)
  simp only [gv] at h
  by_cases g : rd l (p : Int) > 1
  ·rw [if_pos g] at h; cases h
  ·rw [if_neg g] at h
   obtain ⟨x, hx⟩ : ∃ x : Nat, rd l (p : Int) = (x : Int) := ⟨(rd l (p : Int)).toNat, by omega⟩
   have hpl : p < l.length := by omega
   have hg : l[p] = (x : Int) := by
    rw [← hx]; unfold rd; rw [Int.toNat_natCast, List.getD_eq_getElem?_getD, List.getElem?_eq_getElem hpl]; rfl
   rw [hx] at h g
   obtain ⟨h1, h2⟩ := ih (p + 1) (2 * a + x) v (by omega) (by rw [show ((2 * a + x : Nat) : Int) = 2 * (a : Int) + (x : Int) by omega]; exact h)
   have e : v / 2 ^ (d + 1) = v / 2 ^ d / 2 := by rw [Nat.div_div_eq_div_mul, Nat.pow_succ]
   refine ⟨?_, by omega⟩
   rw [bN_cons, h1, List.drop_eq_getElem_cons hpl, List.take_succ_cons, hg, h2]
   congr 1
   omega
end Go.Proofs.Ytchflniekbhohaa.Pure
