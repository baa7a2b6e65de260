/- reedpipelaw08.BookPrefix answers true: what is read from a code on is its entry, whatever stands behind; what is read has just these bits as its code. -/
import Derived.Test.YtoeiogefngcdiaaPArgsK
import Derived.Test.YtoeiogefngcdiaaPCodeK
import Derived.Test.YtoeiogefngcdiaaPxreedpipelaw08BookprefixK

/- reedpipelaw08.BookPrefix answers true: what is read from a code on is its entry, whatever stands behind; what is read has just these bits as its code. -/
namespace Go.Proofs.Ytoeiogefngcdiaa.Pure
open Go.RowKit Go.Proofs.Ytoeiogefngcdiaa.P Go.Proofs.YtoeiogefngcdiaaW.PrintWords Go.Proofs.YtoeiogefngcdiaaW.PrintLast
set_option linter.unusedVariables false
set_option linter.unusedSimpArgs false

/-! ### What stands behind is not looked at -/
theorem getV_app' {c b : List Int} (B : Byt c) {p s : Int} (h : (getV c p s).2.2 = 0) : getV (c ++ b) p s = getV c p s :=
  (getV_app (b := b) B (getV_eta h)).trans (getV_eta h).symm
theorem tailV_app (id : Int) {c b : List Int} (B : Byt c) {m : Nat} {p x e : Int} (h : tailV id c m p = (x, e, 0)) : tailV id (c ++ b) m p = (x, e, 0) := by
  rw [← h]
  unfold tailV at h ⊢
  by_cases g1 : (getV c p (m : Int)).2.2 = 0
  · rw [if_pos g1] at h
    rw [getV_app' B g1, if_pos g1, if_pos g1]
    by_cases g2 : (getV c (getV c p (m : Int)).2.1 (plV id)).2.2 = 0
    · rw [getV_app' B g2]
    · rw [if_neg g2] at h
      simp only [Prod.mk.injEq] at h
      exact absurd h.2.2 g2
  · rw [if_neg g1] at h
    simp only [Prod.mk.injEq] at h
    exact absurd h.2.2 g1
theorem readL_app (id : Int) {c b : List Int} (B : Byt c) {x e : Int} (d : Nat) : ∀ (m : Nat) (p : Int), readL id c d m p = (x, e, 0) → readL id (c ++ b) d m p = (x, e, 0) := by
  induction d with
  | zero => intro m p h; simp [readL] at h
  | succ d ih =>
    intro m p h
    simp only [readL] at h ⊢
    by_cases g : (getV c p 1).2.2 = 0
    · rw [getV_app' B g, if_pos g]
      rw [if_pos g] at h
      by_cases g2 : (getV c p 1).1 = 0
      · rw [if_pos g2] at h ⊢; exact ih _ _ h
      · rw [if_neg g2] at h ⊢; exact tailV_app id B h
    · rw [if_neg g] at h
      simp only [Prod.mk.injEq] at h
      exact absurd h.2.2 g
/-! ### What is read has its bits as its code -/
theorem take_two (l : List Int) (p m n : Nat) : (l.drop p).take (m + n) = (l.drop p).take m ++ (l.drop (p + m)).take n := by
  rw [List.take_add, List.drop_drop]
theorem get_bits {l : List Int} (B : Byt l) {p s v e : Int} (h : getV l p s = (v, e, 0)) :
    0 ≤ s ∧ 0 ≤ p ∧ p + s ≤ (l.length : Int) ∧ e = p + s ∧ ∃ n : Nat, v = (n : Int) ∧ n < 2 ^ s.toNat ∧ (l.drop p.toNat).take s.toNat = bN s.toNat n := by
  obtain ⟨h1, -, h3, h4, h5, h6, h7, h8⟩ := getV_ok B h
  obtain ⟨n, rfl⟩ : ∃ n : Nat, v = (n : Int) := ⟨v.toNat, by omega⟩
  refine ⟨h1, h3, h4, h5, n, rfl, ?_, (gv_bN B s.toNat p.toNat 0 n (by omega) h6).1.symm⟩
  exact_mod_cast h8
theorem readL_bits {id : Int} (h1 : 1 ≤ id) (h2 : id ≤ 12) {l : List Int} (B : Byt l) {x e : Int} (d : Nat) : ∀ (m : Nat) (p : Int), m + d = 10 → readL id l d m p = (x, e, 0) →
    ∃ z v w : Nat, m + z ≤ 9 ∧ v < 2 ^ (m + z) ∧ w < 2 ^ (plV id).toNat ∧ 0 ≤ p ∧ e = p + ((z + (1 + ((m + z) + (plV id).toNat)) : Nat) : Int) ∧ e ≤ (l.length : Int) ∧
      (l.drop p.toNat).take (z + (1 + ((m + z) + (plV id).toNat))) = List.replicate z 0 ++ (1 :: (bN (m + z) v ++ bN (plV id).toNat w)) ∧
      rankV (m + z) (v : Int) (plV id) (w : Int) < ((entL id).length : Int) ∧ x = rd (entL id) (rankV (m + z) (v : Int) (plV id) (w : Int)) := by
  obtain ⟨p0, p2⟩ := plain_in h1 h2
  induction d with
  | zero => intro m p _ h; simp [readL] at h
  | succ d ih =>
    intro m p hm h
    simp only [readL] at h
    by_cases g : (getV l p 1).2.2 = 0
    rotate_left
    · rw [if_neg g] at h
      simp only [Prod.mk.injEq] at h
      exact absurd h.2.2 g
    rw [if_pos g] at h
    obtain ⟨-, hp, hpl, he, n, hn, hn2, hb⟩ := get_bits B (getV_eta g)
    rw [show (1 : Int).toNat = 1 from rfl] at hb hn2
    have e1 : (p + 1).toNat = p.toNat + 1 := by omega
    by_cases g2 : (getV l p 1).1 = 0
    · rw [if_pos g2, he] at h
      obtain ⟨z, v, w, a1, a2, a3, a4, a5, a6, a7, a8, a9⟩ := ih (m + 1) (p + 1) (by omega) h
      have en : n = 0 := by omega
      subst en
      have eq : m + 1 + z = m + (z + 1) := by omega
      rw [eq] at a1 a2 a5 a7 a8 a9
      refine ⟨z + 1, v, w, a1, a2, a3, hp, ?_, a6, ?_, a8, a9⟩
      · rw [a5]; omega
      · rw [show z + 1 + (1 + (m + (z + 1) + (plV id).toNat)) = 1 + (z + (1 + (m + (z + 1) + (plV id).toNat))) by omega, take_two, hb, ← e1, a7]
        rfl
    · rw [if_neg g2, he] at h
      have en : n = 1 := by omega
      subst en
      unfold tailV at h
      by_cases g3 : (getV l (p + 1) (m : Int)).2.2 = 0
      rotate_left
      · rw [if_neg g3] at h
        simp only [Prod.mk.injEq] at h
        exact absurd h.2.2 g3
      rw [if_pos g3] at h
      obtain ⟨-, -, b2, b3, v, hv, hv2, hvb⟩ := get_bits B (getV_eta g3)
      rw [Int.toNat_natCast] at hv2 hvb
      by_cases g4 : (getV l (getV l (p + 1) (m : Int)).2.1 (plV id)).2.2 = 0
      rotate_left
      · rw [if_neg g4] at h
        simp only [Prod.mk.injEq] at h
        exact absurd h.2.2 g4
      rw [if_pos g4] at h
      obtain ⟨-, -, c2, c3, w, hw, hw2, hwb⟩ := get_bits B (getV_eta g4)
      rw [hv, hw, c3] at h
      rw [b3] at h c2 hwb
      by_cases g5 : rankV m (v : Int) (plV id) (w : Int) ≥ ((entL id).length : Int)
      · rw [if_pos g5] at h; simp at h
      rw [if_neg g5] at h
      simp only [Prod.mk.injEq] at h
      refine ⟨0, v, w, by omega, by rw [Nat.add_zero]; exact hv2, hw2, hp, by omega, by omega, ?_, by rw [Nat.add_zero]; omega, by rw [Nat.add_zero]; exact h.1.symm⟩
      rw [Nat.zero_add, Nat.add_zero, take_two, take_two, hb, ← e1, hvb, show (p + 1).toNat + m = (p + 1 + (m : Int)).toNat by omega, hwb]
      rfl
def bitsOk (id : Int) : Bool := (List.range 10).all fun z => (List.range (2 ^ z)).all fun v => (List.range (2 ^ (plV id).toNat)).all fun w =>
  !decide (rankV z (v : Int) (plV id) (w : Int) < manyV id) || decide (codeL id (rd (entL id) (rankV z (v : Int) (plV id) (w : Int))).toNat = List.replicate z 0 ++ (1 :: (bN z v ++ bN (plV id).toNat w)))
set_option maxHeartbeats 8000000 in
set_option maxRecDepth 100000 in
theorem bitsOk_all {id : Int} (h1 : 1 ≤ id) (h2 : id ≤ 12) : bitsOk id = true := by
  rcases kind_cases h1 h2 with rfl | rfl | rfl | rfl | rfl | rfl | rfl | rfl | rfl | rfl | rfl | rfl <;> decide +kernel
/-- What is read, from a place to an end, is an entry whose code it is. -/
theorem read_code {id : Int} (h1 : 1 ≤ id) (h2 : id ≤ 12) {l : List Int} (B : Byt l) {p x e : Int} (h : readL id l 10 0 p = (x, e, 0)) :
    0 ≤ p ∧ p ≤ e ∧ e ≤ (l.length : Int) ∧ 0 ≤ x ∧ x < manyV id ∧ codeL id x.toNat = (l.take e.toNat).drop p.toNat := by
  obtain ⟨p0, p2⟩ := plain_in h1 h2
  have hl := len_tab h1 h2
  obtain ⟨z, v, w, a1, a2, a3, a4, a5, a6, a7, a8, a9⟩ := readL_bits h1 h2 B 10 0 p rfl h
  rw [Nat.zero_add] at a1 a2 a5 a7 a8 a9
  have g := (rank_in (m := z) (h := v) (pl := plV id) (w := w) a1 (by omega) (by exact_mod_cast a2) p0 p2 (by omega) (by exact_mod_cast a3)).2.2.2.2.2.2
  obtain ⟨-, -, hE, hR, ho⟩ := right_all (right_yes h1 h2)
  obtain ⟨r, hr⟩ : ∃ r : Nat, rankV z (v : Int) (plV id) (w : Int) = (r : Int) := ⟨_, (Int.toNat_of_nonneg g).symm⟩
  have o := ok_at (ho r (by omega))
  rw [← hr, ← a9] at o
  have t := List.all_eq_true.1 (List.all_eq_true.1 (List.all_eq_true.1 (bitsOk_all h1 h2) z (List.mem_range.2 (by omega))) v (List.mem_range.2 a2)) w (List.mem_range.2 a3)
  simp only [Bool.or_eq_true, Bool.not_eq_true', decide_eq_false_iff_not, decide_eq_true_eq] at t
  rcases t with t | t
  · omega
  · refine ⟨a4, by omega, a6, o.1, by omega, ?_⟩
    rw [← a9] at t
    rw [t, ← a7, List.drop_take]
    congr 1
    omega
theorem tailV_bad (id : Int) (l : List Int) (m : Nat) (p : Int) (h : (tailV id l m p).2.2 ≠ 0) : (tailV id l m p).1 = 0 ∧ (tailV id l m p).2.1 = 0 := by
  unfold tailV at h ⊢
  split
  · split
    · split
      · exact ⟨rfl, rfl⟩
      · rename_i a b c
        rw [if_pos a, if_pos b, if_neg c] at h; exact absurd rfl h
    · exact ⟨rfl, rfl⟩
  · exact ⟨rfl, rfl⟩
theorem readL_bad (id : Int) (l : List Int) (d : Nat) : ∀ (m : Nat) (p : Int), (readL id l d m p).2.2 ≠ 0 → (readL id l d m p).1 = 0 ∧ (readL id l d m p).2.1 = 0 := by
  induction d with
  | zero => intro m p h; exact ⟨rfl, rfl⟩
  | succ d ih =>
    intro m p h
    simp only [readL] at h ⊢
    by_cases g : (getV l p 1).2.2 = 0
    · rw [if_pos g] at h ⊢
      by_cases g2 : (getV l p 1).1 = 0
      · rw [if_pos g2] at h ⊢; exact ih _ _ h
      · rw [if_neg g2] at h ⊢; exact tailV_bad _ _ _ _ h
    · rw [if_neg g]; exact ⟨rfl, rfl⟩
theorem u8s {l : List Int} (h : ∀ x ∈ l, (Lit.int .u8 x).wf = true) : ∀ x ∈ l, 0 ≤ x ∧ x ≤ 255 := fun x hx => u8_in (h x hx)
theorem prefix_j1 {id : Int} (h1 : 1 ≤ id) (h2 : id ≤ 12) {l : List Int} (B : Byt l) (p : Int) : Ev (fun k => reedpipelaw08_BookPrefix.j1 k l p false id (kindV id).2.2.2.1 (entL id) (rnkL id)) true := by
  have hb : isB id (kindV id).2.2.2.1 (entL id) (rnkL id) := ⟨⟨h1, h2⟩, rfl, rfl, rfl⟩
  obtain ⟨K1, e1⟩ := read_ev id (kindV id).2.2.2.1 (entL id) (rnkL id) B p
  have r1 : readV id (kindV id).2.2.2.1 (entL id) (rnkL id) l p = readL id l 10 0 p := by unfold readV; rw [if_pos hb]
  rw [r1] at e1
  obtain ⟨K2, e2⟩ := code_ev id (kindV id).2.2.2.1 (entL id) (rnkL id) (readL id l 10 0 p).1
  dsimp only at e1 e2
  refine ⟨K1 + K2 + 1, fun k hk => ?_⟩
  obtain ⟨k, rfl⟩ : ∃ k', k = k' + 1 := ⟨k - 1, by omega⟩
  simp only [reedpipelaw08_BookPrefix.j1]
  rw [if_neg (by decide), e1 _ (by omega)]
  simp only [Option.bind_some]
  by_cases g : (readL id l 10 0 p).2.2 = 0
  · rw [if_pos g, e2 _ (by omega)]
    have := read_code h1 h2 B (p := p) (x := (readL id l 10 0 p).1) (e := (readL id l 10 0 p).2.1) (by rw [← g])
    obtain ⟨a1, a2, a3, a4, a5, a6⟩ := this
    have x3 : codeV id (kindV id).2.2.2.1 (entL id) (rnkL id) (readL id l 10 0 p).1 = (codeL id (readL id l 10 0 p).1.toNat, 0) := by unfold codeV; rw [if_pos hb, if_pos ⟨a4, a5⟩]
    rw [x3]
    simp only [Option.bind_some]
    rw [if_pos trivial, if_pos a1, if_pos a2, if_pos a3, a6]
    simp
  · have := readL_bad id l 10 0 p g
    rw [if_neg g, if_pos this.1, this.2]
    rfl
theorem BookPrefix : reedpipelaw08_BookPrefix.Pure := by
  intro a0 a1 l2 l3 a4 w0 w1 b2 _ u2 b3 _ u3 _
  obtain ⟨h1, h2⟩ := id_of w0
  obtain ⟨K0, e0⟩ := alive_ev
  have done : ∀ k, reedpipelaw08_BookPrefix.j0 (k + 1) a0 a1 l2 l3 a4 true true = some true := fun k => by
    simp only [reedpipelaw08_BookPrefix.j0]; rw [if_pos trivial]
  suffices H : l2.length ≤ 10000 → l3.length ≤ 10000 → Ev (fun k => reedpipelaw08_BookPrefix.j0 k a0 a1 l2 l3 a4 true false) true by
    dsimp only at e0
    by_cases g1 : (l2.length : Int) > 10000
    · refine ⟨K0 + 1, ?_⟩
      unfold reedpipelaw08_BookPrefix.f
      rw [e0 _ (by omega)]
      simp only [Option.bind_some]
      rw [if_pos g1]; exact done _
    · by_cases g2 : (l3.length : Int) > 10000
      · refine ⟨K0 + 1, ?_⟩
        unfold reedpipelaw08_BookPrefix.f
        rw [e0 _ (by omega)]
        simp only [Option.bind_some]
        rw [if_neg g1, if_pos g2]; exact done _
      · obtain ⟨K1, e1⟩ := H (by omega) (by omega)
        dsimp only at e1
        refine ⟨K0 + K1, ?_⟩
        unfold reedpipelaw08_BookPrefix.f
        rw [e0 _ (by omega)]
        simp only [Option.bind_some]
        rw [if_neg g1, if_neg g2]; exact e1 _ (by omega)
  intro g2 g3
  generalize hid : wrap64 (Int.tmod (wrap64 a0) 12 + 1) = id at h1 h2
  have hl := len_tab h1 h2
  have hm := many_in h1 h2
  obtain ⟨n, hn1, hn2⟩ := tm_of w1 (n := ((rnkL id).length : Int)) (by omega)
  have hb : isB id (kindV id).2.2.2.1 (entL id) (rnkL id) := ⟨⟨h1, h2⟩, rfl, rfl, rfl⟩
  have ca := code_at h1 h2 n (by omega)
  have B3 : Byt l3 := ⟨by omega, u8s u3⟩
  have Bc : Byt (codeL id n) := ⟨by omega, fun x hx => by have := ca.2.2.2 x hx; omega⟩
  have Bb : Byt (codeL id n ++ l2) := ⟨by rw [List.length_append]; omega, fun x hx => by
    rcases List.mem_append.1 hx with hx | hx
    · exact Bc.pos x hx
    · exact u8s u2 x hx⟩
  obtain ⟨K1, e1⟩ := code_ev id (kindV id).2.2.2.1 (entL id) (rnkL id) (n : Int)
  obtain ⟨K2, e2⟩ := read_ev id (kindV id).2.2.2.1 (entL id) (rnkL id) Bb 0
  obtain ⟨K3, e3⟩ := prefix_j1 h1 h2 B3 a4
  have x1 : codeV id (kindV id).2.2.2.1 (entL id) (rnkL id) (n : Int) = (codeL id n, 0) := by unfold codeV; rw [if_pos hb, if_pos (by omega), Int.toNat_natCast]
  have x2 : readV id (kindV id).2.2.2.1 (entL id) (rnkL id) (codeL id n ++ l2) 0 = ((n : Int), ((codeL id n).length : Int), 0) := by
    unfold readV; rw [if_pos hb]; exact readL_app id Bc 10 0 0 ca.2.2.1
  rw [x1] at e1
  rw [x2] at e2
  dsimp only at e1 e2 e3
  refine ⟨K1 + K2 + K3 + 1, fun k hk => ?_⟩
  obtain ⟨k, rfl⟩ : ∃ k', k = k' + 1 := ⟨k - 1, by omega⟩
  simp only [reedpipelaw08_BookPrefix.j0, hid]
  rw [if_neg (by decide), bookV_at h1 h2]
  simp only [Option.bind_some, hn1]
  rw [if_pos trivial, if_neg (by omega), e1 _ (by omega)]
  simp only [Option.bind_some, List.length_nil, List.nil_append]
  rw [if_pos (by omega), if_pos (by omega), e2 _ (by omega)]
  simp only [Option.bind_some]
  rw [if_pos trivial, if_pos trivial, if_pos trivial, if_pos trivial, decide_eq_false (by omega)]
  exact e3 _ (by omega)
end Go.Proofs.Ytoeiogefngcdiaa.Pure
