/- reedpipelaw08.BookShort answers true: an entry whose values' sizes come to more has no shorter code. -/
import Derived.Test.YtoeiogefngcdiaaPArgsK
import Derived.Test.YtoeiogefngcdiaaPCodeK
import Derived.Test.YtoeiogefngcdiaaPxreedpipelaw08BookshortK

/- reedpipelaw08.BookShort answers true: an entry whose values' sizes come to more has no shorter code. -/
namespace Go.Proofs.Ytoeiogefngcdiaa.Pure
open Go.RowKit Go.Proofs.Ytoeiogefngcdiaa.P Go.Proofs.YtoeiogefngcdiaaW.PrintWords Go.Proofs.YtoeiogefngcdiaaW.PrintLast
set_option linter.unusedVariables false
set_option linter.unusedSimpArgs false

theorem code_len (id : Int) (e : Nat) : (codeL id e).length = 2 * Nat.log2 ((rd (rnkL id) (e : Int)).toNat / 2 ^ (plV id).toNat + 1) + 1 + (plV id).toNat := by
  unfold codeL
  simp only [List.length_append, List.length_replicate, bN_length]
  omega
theorem log_mono {a b : Nat} (h : a ≤ b) (h0 : a ≠ 0) : Nat.log2 a ≤ Nat.log2 b := (Nat.le_log2 (by omega)).2 (Nat.le_trans (Nat.log2_self_le h0) h)
/-- Less rank, no longer code. -/
theorem short_rank (id : Int) (a b : Nat) (h : rd (rnkL id) (a : Int) ≤ rd (rnkL id) (b : Int)) : (codeL id a).length ≤ (codeL id b).length := by
  have h2 : (rd (rnkL id) (a : Int)).toNat / 2 ^ (plV id).toNat ≤ (rd (rnkL id) (b : Int)).toNat / 2 ^ (plV id).toNat := Nat.div_le_div_right (by omega)
  have h3 := log_mono (a := (rd (rnkL id) (a : Int)).toNat / 2 ^ (plV id).toNat + 1) (b := (rd (rnkL id) (b : Int)).toNat / 2 ^ (plV id).toNat + 1) (Nat.add_le_add_right h2 1) (Nat.succ_ne_zero _)
  rw [code_len, code_len]; omega
/-- Less size, less rank. -/
theorem size_rank {id : Int} (h1 : 1 ≤ id) (h2 : id ≤ 12) (a b : Int) (a0 : 0 ≤ a) (a1 : a < manyV id) (b0 : 0 ≤ b) (b1 : b < manyV id) (h : rd (szV id) a < rd (szV id) b) : rd (rnkL id) a ≤ rd (rnkL id) b := by
  obtain ⟨-, -, hE, -, ho⟩ := right_all (right_yes h1 h2)
  have ra := rnk_at h1 h2 a a0 a1
  have rb := rnk_at h1 h2 b b0 b1
  refine Classical.byContradiction fun hn => ?_
  obtain ⟨x, hx⟩ : ∃ x : Nat, rd (rnkL id) b = (x : Int) := ⟨_, (Int.toNat_of_nonneg rb.1).symm⟩
  obtain ⟨y, hy⟩ : ∃ y : Nat, rd (rnkL id) a = (y : Int) := ⟨_, (Int.toNat_of_nonneg ra.1).symm⟩
  have l := ls_far (plain := plV id) ho x (y - x - 1) (by omega)
  rw [show x + (y - x - 1) + 1 = y by omega, ← hx, ← hy, ra.2.2.1, rb.2.2.1] at l
  unfold Ls at l; omega
theorem BookShort : reedpipelaw08_BookShort.Pure := by
  intro a0 a1 a2 w0 w1 w2
  obtain ⟨h1, h2⟩ := id_of w0
  obtain ⟨K0, e0⟩ := alive_ev
  have hl := fun id h1 h2 => @len_tab id h1 h2
  suffices H : ∀ id : Int, 1 ≤ id → id ≤ 12 → Ev (fun k => reedpipelaw08_BookShort.j0 k a1 a2 false id (kindV id).2.2.2.1 (entL id) (rnkL id)) true by
    obtain ⟨K1, e1⟩ := H _ h1 h2
    dsimp only at e0 e1
    refine ⟨K0 + K1, ?_⟩
    unfold reedpipelaw08_BookShort.f
    rw [e0 _ (by omega)]
    simp only [Option.bind_some]
    rw [bookV_at h1 h2]
    simp only [Option.bind_some]
    rw [if_pos trivial]
    exact e1 _ (by omega)
  intro id h1 h2
  have hl := len_tab h1 h2
  have hm := many_in h1 h2
  obtain ⟨m, hm1, hm2⟩ := tm_of w1 (n := ((rnkL id).length : Int)) (by omega)
  obtain ⟨n, hn1, hn2⟩ := tm_of w2 (n := ((rnkL id).length : Int)) (by omega)
  obtain ⟨K1, v1⟩ := ownValues_ev id (m : Int)
  obtain ⟨K2, v2⟩ := ownValues_ev id (n : Int)
  obtain ⟨K3, c1⟩ := code_ev id (kindV id).2.2.2.1 (entL id) (rnkL id) (m : Int)
  obtain ⟨K4, c2⟩ := code_ev id (kindV id).2.2.2.1 (entL id) (rnkL id) (n : Int)
  obtain ⟨K5, s1⟩ := Ev.of (reedpipelaw08_size.mono _) (val_own h1 h2 m (by omega)).2.2
  obtain ⟨K6, s2⟩ := Ev.of (reedpipelaw08_size.mono _) (val_own h1 h2 n (by omega)).2.2
  have hb : isB id (kindV id).2.2.2.1 (entL id) (rnkL id) := ⟨⟨h1, h2⟩, rfl, rfl, rfl⟩
  have x1 : valuesV id (m : Int) = (valL id m, 0) := by unfold valuesV; rw [if_pos (by omega), Int.toNat_natCast]
  have x2 : valuesV id (n : Int) = (valL id n, 0) := by unfold valuesV; rw [if_pos (by omega), Int.toNat_natCast]
  have x3 : codeV id (kindV id).2.2.2.1 (entL id) (rnkL id) (m : Int) = (codeL id m, 0) := by unfold codeV; rw [if_pos hb, if_pos (by omega), Int.toNat_natCast]
  have x4 : codeV id (kindV id).2.2.2.1 (entL id) (rnkL id) (n : Int) = (codeL id n, 0) := by unfold codeV; rw [if_pos hb, if_pos (by omega), Int.toNat_natCast]
  rw [x1] at v1
  rw [x2] at v2
  rw [x3] at c1
  rw [x4] at c2
  dsimp only at v1 v2 c1 c2 s1 s2
  refine ⟨K1 + K2 + K3 + K4 + K5 + K6 + 2, fun k hk => ?_⟩
  obtain ⟨k, rfl⟩ : ∃ k', k = k' + 2 := ⟨k - 2, by omega⟩
  simp only [reedpipelaw08_BookShort.j0, hm1, hn1]
  rw [if_neg (by decide), if_neg (by omega), v1 _ (by omega), v2 _ (by omega), c1 _ (by omega), c2 _ (by omega)]
  simp only [Option.bind_some]
  rw [if_pos trivial, if_pos trivial, if_pos trivial]
  simp only [reedpipelaw08_BookShort.j1]
  rw [if_neg (by decide), s1 _ (by omega)]
  simp only [Option.bind_some]
  rw [s2 _ (by omega)]
  simp only [Option.bind_some]
  by_cases g : rd (szV id) (m : Int) ≥ rd (szV id) (n : Int)
  · rw [if_pos g]
  · rw [if_neg g]
    have := short_rank id m n (size_rank h1 h2 _ _ (by omega) (by omega) (by omega) (by omega) (by omega))
    rw [decide_eq_true (by omega)]
end Go.Proofs.Ytoeiogefngcdiaa.Pure
