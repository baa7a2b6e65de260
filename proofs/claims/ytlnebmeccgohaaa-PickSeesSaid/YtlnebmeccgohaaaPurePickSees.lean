/- reedpipelaw27.PickSees answers true: whether samples begin loud, and which sequence is next, is told as the document's answer says, for all samples, sequences and flags. -/
import Derived.Test.YtlnebmeccgohaaaPxreedpipelaw27Picksees
namespace Go.Proofs.Ytlnebmeccgohaaa.Pure
open Go.RowKit Go.Proofs.Ytlnebmeccgohaaa.P Go.Proofs.YtlnebmeccgohaaaW.PrintWords Go.Proofs.YtlnebmeccgohaaaW.PrintLast

theorem w64 {x : Int} (h0 : -9223372036854775808 ≤ x) (h1 : x ≤ 9223372036854775807) : wrap64 x = x := by unfold wrap64; omega

theorem in_go (l : List Int) (lo hi : Int) (d : Nat) : ∀ (k : Nat) (i : Int), 0 ≤ i → (l.length : Int) - i = d → d < k → l.length ≤ 140737488355328 →
    ∃ b, reedpiperef27_in.l0 k l lo hi i = some b ∧ (b = true ↔ ∀ j : Nat, i ≤ (j : Int) → (j : Int) < l.length → lo ≤ rd l j ∧ rd l j ≤ hi) := by
  induction d with
  | zero =>
    intro k i h0 hd hk hb
    obtain ⟨k, rfl⟩ : ∃ q, k = q + 1 := ⟨k - 1, by omega⟩
    refine ⟨true, ?_, by simp only [true_iff]; intro j a b; omega⟩
    simp only [reedpiperef27_in.l0]
    rw [if_neg (by omega)]
  | succ d ih =>
    intro k i h0 hd hk hb
    obtain ⟨k, rfl⟩ : ∃ q, k = q + 1 := ⟨k - 1, by omega⟩
    have ei : (i.toNat : Int) = i := Int.toNat_of_nonneg h0
    have hno : ∀ b : Bool, b = false → ¬ (lo ≤ rd l i ∧ rd l i ≤ hi) → (b = true ↔ ∀ j : Nat, i ≤ (j : Int) → (j : Int) < l.length → lo ≤ rd l j ∧ rd l j ≤ hi) := by
      rintro b rfl hx
      simp only [Bool.false_eq_true, false_iff]
      intro h
      have := h i.toNat (by omega) (by omega)
      rw [ei] at this
      exact hx this
    by_cases a : rd l i < lo
    · exact ⟨false, by simp only [reedpiperef27_in.l0]; rw [if_pos (by omega), if_pos h0, if_pos a], hno _ rfl (by omega)⟩
    · by_cases b : rd l i > hi
      · exact ⟨false, by simp only [reedpiperef27_in.l0]; rw [if_pos (by omega), if_pos h0, if_neg a, if_pos b], hno _ rfl (by omega)⟩
      · obtain ⟨c, hc, hc2⟩ := ih k (i + 1) (by omega) (by omega) (by omega) hb
        refine ⟨c, by simp only [reedpiperef27_in.l0]; rw [if_pos (by omega), if_pos h0, if_neg a, if_neg b, w64 (by omega) (by omega)]; exact hc, hc2.trans ⟨fun h j h1 h2 => ?_, fun h j h1 h2 => h j (by omega) h2⟩⟩
        by_cases e : (j : Int) = i
        · rw [e]; omega
        · exact h j (by omega) h2

theorem inner (l : List Int) (hl : l.length = 256) (hr : ∀ i : Int, -32768 ≤ rd l i ∧ rd l i ≤ 32767) (n : Nat) (hn : n < 8) (s : Int) (h0 : 0 ≤ s) (h1 : s ≤ 274877906944) (d : Nat) : ∀ (j k : Nat), j + d = 32 →
    reedpiperef27_Loud.l1 (d + 1 + k) l s n (sqSum l (32 * n) j) ((32 * n + j : Nat) : Int) =
      if 0 < n ∧ 8 * s + n * 1048576 < n * sqSum l (32 * n) 32 then some true else reedpiperef27_Loud.l0 k l (s + sqSum l (32 * n) 32) ((n : Int) + 1) := by
  have hb := sqSum_bd l hr (32 * n)
  have w1 : wrap64 (32 * (n : Int)) = 32 * n := w64 (by omega) (by omega)
  have w2 : wrap64 (32 * (n : Int) + 32) = 32 * n + 32 := w64 (by omega) (by omega)
  induction d with
  | zero =>
    intro j k hj
    obtain rfl : j = 32 := by omega
    have b1 := hb 32
    have m1 : 0 ≤ (n : Int) * sqSum l (32 * n) 32 := Int.mul_nonneg (by omega) b1.1
    have m2 : (n : Int) * sqSum l (32 * n) 32 ≤ 8 * 34359738368 := Int.mul_le_mul (by omega) (by omega) b1.1 (by omega)
    rw [show 0 + 1 + k = k + 1 by omega]
    simp only [reedpiperef27_Loud.l1]
    rw [w1, w2, if_neg (by omega), w64 (x := (n : Int) * sqSum l (32 * n) 32) (by omega) (by omega), w64 (x := 8 * s) (by omega) (by omega), w64 (x := (n : Int) * 1048576) (by omega) (by omega), w64 (x := 8 * s + (n : Int) * 1048576) (by omega) (by omega), w64 (x := s + sqSum l (32 * n) 32) (by omega) (by omega), w64 (x := (n : Int) + 1) (by omega) (by omega)]
    by_cases a : (n : Int) > 0
    · rw [if_pos a]
      by_cases b : (n : Int) * sqSum l (32 * n) 32 > 8 * s + (n : Int) * 1048576
      · rw [if_pos b, if_pos ⟨by omega, by omega⟩]
      · rw [if_neg b, if_neg (by omega)]
    · rw [if_neg a, if_neg (by omega)]
  | succ d ih =>
    intro j k hj
    have b1 := hb j
    have hx := hr ((32 * n + j : Nat) : Int)
    have q1 : 0 ≤ rd l ((32 * n + j : Nat) : Int) * rd l ((32 * n + j : Nat) : Int) := mul_self_nonneg' _
    have q2 : rd l ((32 * n + j : Nat) : Int) * rd l ((32 * n + j : Nat) : Int) ≤ 1073741824 := sq_le _ hx.1 hx.2
    have q3 : (j : Int) * 1073741824 ≤ 34359738368 := by omega
    rw [show d + 1 + 1 + k = (d + 1 + k) + 1 by omega]
    rw [reedpiperef27_Loud.l1]
    rw [w1, w2, if_pos (by omega), if_pos (by omega), if_pos (by omega), w64 (x := rd l ((32 * n + j : Nat) : Int) * rd l ((32 * n + j : Nat) : Int)) (by omega) (by omega), w64 (x := sqSum l (32 * n) j + rd l ((32 * n + j : Nat) : Int) * rd l ((32 * n + j : Nat) : Int)) (by omega) (by omega), w64 (x := ((32 * n + j : Nat) : Int) + 1) (by omega) (by omega)]
    have := ih (j + 1) k (by omega)
    rw [show ((32 * n + (j + 1) : Nat) : Int) = ((32 * n + j : Nat) : Int) + 1 by omega] at this
    exact this

theorem outer (l : List Int) (hl : l.length = 256) (hr : ∀ i : Int, -32768 ≤ rd l i ∧ rd l i ≤ 32767) (m : Nat) : ∀ (n k : Nat), n + m = 8 →
    ∃ b, reedpiperef27_Loud.l0 (m * 34 + 1 + k) l (sumOf l (S8 n)) n = some b ∧ (b = true ↔ ∃ q, n ≤ q ∧ q < 8 ∧ condN l q) := by
  induction m with
  | zero =>
    intro n k hn
    refine ⟨false, ?_, by simp; omega⟩
    rw [show 0 * 34 + 1 + k = k + 1 by omega]
    simp only [reedpiperef27_Loud.l0]
    rw [if_neg (by omega)]
  | succ m ih =>
    intro n k hn
    have hs := sumOf_bd l hr (S8 n)
    rw [S8_length n (by omega)] at hs
    have hi := inner l hl hr n (by omega) (sumOf l (S8 n)) hs.1 (by omega) 32 0 (m * 34 + 1 + k) (by omega)
    have e : reedpiperef27_Loud.l0 ((m + 1) * 34 + 1 + k) l (sumOf l (S8 n)) n = reedpiperef27_Loud.l1 (32 + 1 + (m * 34 + 1 + k)) l (sumOf l (S8 n)) n 0 (32 * n : Nat) := by
      rw [show (m + 1) * 34 + 1 + k = (32 + 1 + (m * 34 + 1 + k)) + 1 by omega]
      rw [reedpiperef27_Loud.l0]
      rw [if_pos (by omega), w64 (x := 32 * (n : Int)) (by omega) (by omega)]
      norm_cast
    rw [e]
    rw [show sqSum l (32 * n) 0 = 0 from rfl, show 32 * n + 0 = 32 * n from rfl] at hi
    rw [hi]
    by_cases c : 0 < n ∧ 8 * sumOf l (S8 n) + n * 1048576 < n * sqSum l (32 * n) 32
    · rw [if_pos c]
      exact ⟨true, rfl, by simp; exact ⟨n, Nat.le_refl _, by omega, c⟩⟩
    · rw [if_neg c, ← sumS_succ l n (by omega)]
      obtain ⟨b, hb, hb2⟩ := ih (n + 1) k (by omega)
      refine ⟨b, by exact_mod_cast hb, hb2.trans ⟨fun ⟨q, a1, a2, a3⟩ => ⟨q, by omega, a2, a3⟩, fun ⟨q, a1, a2, a3⟩ => ⟨q, ?_, a2, a3⟩⟩⟩
      by_cases e2 : q = n
      · subst e2; exact absurd a3 c
      · omega

theorem ref_attack (l : List Int) (hl : l.length ≤ 140737488355328) : ∃ k, reedpiperef27_Attack.f k l = some (attackV l) := by
  classical
  rw [attackV_eq]
  unfold reedpiperef27_Attack.f
  by_cases h : l.length = 256
  · refine ⟨300, ?_⟩
    rw [if_pos (by omega), if_neg (by omega)]
    unfold reedpiperef27_in.f
    obtain ⟨c, hc, hc2⟩ := in_go l (-32768) 32767 256 300 0 (by omega) (by omega) (by omega) hl
    rw [hc]
    simp only [Option.bind_some]
    by_cases hb : ∃ i : Nat, i < 256 ∧ (rd l i < -32768 ∨ 32768 ≤ rd l i)
    · rw [if_pos hb]
      have : ¬ c = true := fun hh => by
        obtain ⟨i, hi, hx⟩ := hb
        have := hc2.1 hh i (by omega) (by omega)
        omega
      rw [if_neg this]
    · have hrg : ∀ j : Nat, j < 256 → -32768 ≤ rd l j ∧ rd l j ≤ 32767 := fun j hj => by
        by_cases ha : rd l (j : Int) < -32768
        · exact absurd ⟨j, hj, .inl ha⟩ hb
        · by_cases hb2 : 32768 ≤ rd l (j : Int)
          · exact absurd ⟨j, hj, .inr hb2⟩ hb
          · omega
      rw [if_neg hb, if_pos (hc2.2 (fun j _ hj => hrg j (by omega)))]
      have hr : ∀ i : Int, -32768 ≤ rd l i ∧ rd l i ≤ 32767 := fun i => by
        by_cases hi : i.toNat < 256
        · have e : rd l i = rd l (i.toNat : Int) := by unfold rd; rw [Int.toNat_natCast]
          rw [e]; exact hrg _ hi
        · have e : rd l i = 0 := by unfold rd; rw [List.getD_eq_getElem?_getD, List.getElem?_eq_none (by omega)]; rfl
          rw [e]; omega
      obtain ⟨b, h1, h2⟩ := outer l h hr 8 0 27 (by omega)
      unfold reedpiperef27_Loud.f
      rw [show (300 : Nat) = 8 * 34 + 1 + 27 from rfl]
      have h1' : reedpiperef27_Loud.l0 (8 * 34 + 1 + 27) l 0 0 = some b := by
        have e : sumOf l (S8 0) = 0 := rfl
        rw [e] at h1; exact_mod_cast h1
      rw [h1', Option.bind_some]
      congr 2
      rw [Bool.eq_iff_iff, h2, decide_eq_true_iff, pre_iff]
  · exact ⟨0, by rw [if_neg (by omega), if_pos h]⟩

theorem seq_same (a : Int) (p q : Bool) (h0 : 0 ≤ a) (k : Nat) (hk : 1 ≤ k) : ∃ r, pick_Seq.f k a p q = some r ∧ reedpiperef27_Seq.f k a p q = some r := by
  obtain ⟨k, rfl⟩ : ∃ m, k = m + 1 := ⟨k - 1, by omega⟩
  by_cases h : a > 3
  · exact ⟨(0, 2), by unfold pick_Seq.f; rw [if_pos h], by unfold reedpiperef27_Seq.f; rw [if_pos h]⟩
  · have : a = 0 ∨ a = 1 ∨ a = 2 ∨ a = 3 := by omega
    rcases this with rfl | rfl | rfl | rfl <;> cases p <;> cases q <;> exact ⟨_, rfl, rfl⟩

theorem PickSees : reedpipelaw27_PickSees.Pure := by
  intro l a p q h1 h2 h3 h4
  by_cases hl : (l.length : Int) > 1000
  · exact ⟨0, by unfold reedpipelaw27_PickSees.f; rw [if_pos hl]⟩
  · obtain ⟨k, hk⟩ := ref_attack l (by omega)
    have ha : 0 ≤ a := by have e : IntKind.u8.min = 0 := rfl; simp [Lit.wf] at h4; omega
    obtain ⟨r, hr, hr2⟩ := seq_same a p q ha (k + 1) (by omega)
    have hk2 : reedpiperef27_Attack.f (k + 1) l = some (attackV l) := reedpiperef27_Attack.mono l k _ hk
    refine ⟨k + 1, ?_⟩
    unfold reedpipelaw27_PickSees.f
    rw [if_neg hl, hk2, hr, hr2]
    simp [pick_Attack.f]
end Go.Proofs.Ytlnebmeccgohaaa.Pure
