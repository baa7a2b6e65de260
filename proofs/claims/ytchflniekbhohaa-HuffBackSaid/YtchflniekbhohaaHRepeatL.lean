/- slices.Repeat of one byte, some times over: a new row of that byte. -/
import Derived.Test.YtchflniekbhohaaL0a0
import Derived.Test.YtchflniekbhohaaEng2L
import Derived.Deep.RegionLaw
import Derived.Laws.CopyOwn
import Derived.Laws.BitsLemmas
import Derived.Outline

/- slices.Repeat of one byte, some times over: a new row of that byte. -/
namespace Go.Proofs.Ytchflniekbhohaa.P
open Go.RowKit Go.Proofs.Ytchflniekbhohaa.Eng Go.Proofs.YtchflniekbhohaaW.PrintWords Go.Proofs.YtchflniekbhohaaW.PrintLast
set_option linter.unusedVariables false
set_option linter.unusedSimpArgs false

def repV (l : List Int) (n : Int) : Option (List Int) := if l.length = 1 ∧ 0 ≤ n ∧ n ≤ 100000 then some (List.replicate n.toNat (rd l 0)) else none
def slices_Repeat_byte_byte.f (l0 : List Int) (a1 : Int) : Option (List Int) := repV l0 a1

theorem mul_one_u (n : Int) (h0 : 0 ≤ n) (h1 : n ≤ 100000) : bits_Mul.f 1 n = some (0, n) := by
 have w : ∀ x : Int, 0 ≤ x → x ≤ 4294967296 → IntKind.u64.wrap x = x := by
  intro x a b; unfold IntKind.wrap; simp [IntKind.signed, IntKind.bits]; omega
 have m : ∀ x : Int, 0 ≤ x → x ≤ 4294967295 → Go.bits .and .u64 x 4294967295 = x := by
  intro x a b
  rw [show (4294967295 : Int) = 2 ^ 32 - 1 by decide, bits_mask .u64 64 (by decide) (fun n a b => by unfold IntKind.wrap; simp [IntKind.signed, IntKind.bits]; omega) 32 (by decide) x a (by omega)]
  omega
 have e1 : (1 : Int) / 4294967296 = 0 := by decide
 have e2 : n / 4294967296 = 0 := by omega
 unfold bits_Mul.f bits_Mul64.f
 rw [m n h0 (by omega), m 1 (by omega) (by omega), e1, e2]
 simp only [Option.bind_some, Int.zero_mul, Int.mul_zero, Int.one_mul, Int.zero_add, Int.add_zero]
 rw [w 0 (by omega) (by omega), w n h0 (by omega), e2]
 simp only [Int.add_zero]
 rw [w 0 (by omega) (by omega), show (0 : Int) / 4294967296 = 0 by decide, m 0 (by omega) (by omega)]
 simp only [Int.add_zero]
 rw [w 0 (by omega) (by omega)]
 simp
 rw [w 0 (by omega) (by omega)]
theorem rep_own_full {w : World} {base g n : Nat} {e : TypeId} {xs : List Value} (h : w.ownsRow base e 1 (.slice (some ⟨g, 0, none⟩) n n) n xs) : w.heap[g]? = some (.cells xs.toArray e (0, 0)) := by
 rcases h.2 with ⟨h0, _⟩ | ⟨g', cap, cur, hv, _, hg, hle, _, hs, ht⟩
 ·cases h0
 ·cases hv
  have : xs = cur.toList := by rw [← ht]; exact List.take_of_length_le (by simp [hs])
  rw [this]; simpa using hg
theorem rep_row_own {w : World} {base g n : Nat} {e : TypeId} {xs : List Value} (hb : base ≤ g) (hn : n ≤ 100000) (hx : xs.length = n) (h : w.heap[g]? = some (.cells xs.toArray e (0, 0))) : w.ownsRow base e 1 (.slice (some ⟨g, 0, none⟩) n n) n xs :=
 ⟨by omega, .inr ⟨g, n, _, rfl, hb, h, Nat.le_refl _, Nat.le_trans hn (by decide), by simp [hx], by simp [← hx]⟩⟩
/-- A row of which the first k are laid. -/
def repRow (k : IntKind) (x : Int) (m n : Nat) : List Value := nums k (List.replicate m x ++ List.replicate (n - m) 0)
theorem repRow_len (k : IntKind) (x : Int) (m n : Nat) (h : m ≤ n) : (repRow k x m n).length = n := by simp [repRow, nums]; omega
theorem repRow_zero (k : IntKind) (x : Int) (n : Nat) : (madeCells #[Value.int k 0] n).toList = repRow k x 0 n := by
 rw [toList_madeCells_one]; simp [repRow, nums]
theorem repRow_splice (k : IntKind) (x : Int) (m d n : Nat) (h : m + d ≤ n) : splice (repRow k x m n) m (nums k (List.replicate d x)) = repRow k x (m + d) n := by
 unfold splice repRow nums
 have e1 : ((List.replicate m x ++ List.replicate (n - m) 0).map (Value.int k)).take m = (List.replicate m x).map (Value.int k) := by
  rw [List.map_append, List.take_append_of_le_length (by simp), List.take_of_length_le (by simp)]
 have e2 : ((List.replicate m x ++ List.replicate (n - m) 0).map (Value.int k)).drop (m + ((List.replicate d x).map (Value.int k)).length) = (List.replicate (n - (m + d)) 0).map (Value.int k) := by
  rw [List.length_map, List.length_replicate, List.map_append, List.drop_append]
  simp [show n - m - d = n - (m + d) by omega]
 rw [e1, e2, ← List.map_append, ← List.map_append, ← List.append_assoc, List.replicate_append_replicate]
theorem rep_info : (Try.prog.info? 5).map (fun i => (i.zero, i.size, i.bytes)) = some (some (.int .u8 0), 1, 1) := by kernel_rfl
theorem rep_size : (Try.prog.info? 5).map (·.size) = some 1 := by kernel_rfl

theorem rep_one (x : Int) (n : Nat) (h : 0 < n) : [Value.int .u8 x].length = Nat.min 1 n := (Nat.min_eq_left (show 1 ≤ n by omega)).symm
theorem rep_src {w2 : World} {b off : Nat} {x : Int} (h : w2.cell? ⟨b, off, none⟩ = some (.int .u8 x)) : ∀ (j : Nat) (v : Value), [Value.int .u8 x][j]? = some v → w2.cell? ((⟨b, off, none⟩ : Addr).add j) = some v := by
 intro j v hj
 cases j with
 | zero => simp at hj; subst hj; exact h
 | succ j => simp at hj
theorem rep_fit (x : Int) (n : Nat) (h : 0 < n) : 0 + [Value.int .u8 x].length ≤ (repRow .u8 x 0 n).length := by
 rw [repRow_len _ _ _ _ (Nat.zero_le _)]; show 0 + 1 ≤ n; omega
theorem rep_cell (x : Int) : ∀ v ∈ [Value.int .u8 x], v.oneCell' = true := by intro v hv; simp at hv; subst hv; rfl
theorem rep_first {w3 : World} {g n e : Nat} {x : Int} (h : 0 < n) (hg : Hid (w3.heap[g]? = some (.cells (splice (repRow .u8 x 0 n) 0 [.int .u8 x]).toArray e (0, 0)))) : w3.heap[g]? = some (.cells (repRow .u8 x 1 n).toArray e (0, 0)) := by
 have := repRow_splice .u8 x 0 1 n (by omega)
 rw [show nums .u8 (List.replicate 1 x) = [.int .u8 x] from rfl] at this
 have h2 := hg.out
 rw [this] at h2
 exact h2
theorem rep_len2 (x : Int) {m n d : Nat} (h : d = Nat.min m (n - m)) : (nums .u8 (List.replicate d x)).length = Nat.min m (n - m) := by simp [nums, h]
theorem rep_src2 {w : World} {g m n d e : Nat} {x : Int} (h : w.heap[g]? = some (.cells (repRow .u8 x m n).toArray e (0, 0))) (h1 : m + d ≤ n) (hd : d = Nat.min m (n - m)) : ∀ (j : Nat) (v : Value), (nums .u8 (List.replicate d x))[j]? = some v → w.cell? ((⟨g, 0, none⟩ : Addr).add j) = some v := by
 intro j v hj
 have hdm : d ≤ m := by rw [hd]; exact Nat.min_le_left _ _
 have hj1 : j < d := by
  rcases Nat.lt_or_ge j d with h | h
  ·exact h
  ·rw [List.getElem?_eq_none (by simp [nums]; omega)] at hj; cases hj
 have e1 : v = .int .u8 x := by
  rw [List.getElem?_eq_getElem (by simp [nums]; omega)] at hj
  simp [nums] at hj; exact hj.symm
 subst e1
 have e2 : (repRow .u8 x m n)[j]? = some (.int .u8 x) := by
  unfold repRow nums
  rw [List.map_append, List.getElem?_append_left (by simp; omega), List.map_replicate, List.getElem?_replicate, if_pos (by omega)]
 rw [Addr.add_mid]
 simp [World.cell?, h, e2]
theorem rep_fit2 (x : Int) {m n d : Nat} (h1 : m + d ≤ n) : m + (nums .u8 (List.replicate d x)).length ≤ (repRow .u8 x m n).length := by
 rw [repRow_len _ _ _ _ (by omega)]; simp [nums]; exact h1
theorem rep_cells (x : Int) (d : Nat) : ∀ v ∈ nums .u8 (List.replicate d x), v.oneCell' = true := by
 intro v hv; obtain ⟨y, _, rfl⟩ := List.mem_map.1 hv; rfl
set_option maxRecDepth 100000 in
set_option maxHeartbeats 1000000 in
theorem repeat_walk (x : Int) (n b off c : Nat) (w : World) (hn : n ≤ 100000) (hn0 : 0 < n) (hb : b < w.heap.size) (hc : w.cell? ⟨b, off, none⟩ = some (.int .u8 x)) :
  Calls Try.prog 34 #[.slice (some ⟨b, off, none⟩) 1 c, .int .i64 n] w fun e w' => ∃ v, e = .returned v ∧ w'.ownsRow w.heap.size 5 1 v n (nums .u8 (List.replicate n x)) ∧ Below w.heap.size w w' := by
 have HM := Aside0.mk (mul_one_u (n : Int) (by omega) (by omega))
 have HC := Aside0.mk hc
 obtain ⟨i0, hi, hz0, hz1, hz2⟩ := info_parts rep_info
 have hni : (n : Int) ≤ 100000 := by omega
 have hni0 : (0 : Int) < n := by omega
 have hu1 : IntKind.u64.wrap (n : Int) = (n : Int) := by unfold IntKind.wrap; simp [IntKind.signed, IntKind.bits]; omega
 clear hc
 go_enter Try.func34, Try.ntmps34
 go_wp2_with (first
  | (go_at_call 63; refine (bits_Mul.calls _ _ _ _ _ HM.out).mono ?_; rintro e w1 ⟨rfl, hw1⟩; have HB1 := Aside0.mk hw1.below; clear hw1)
  | (at_make; refine wpList_make_full _ rfl (.tmp 29) (.tmp 29) 22 rfl w.heap.size 5 i0 (.int .u8 0) 1 Try.underlying22 hi hz0 hz1 .i64 .i64 (n : Int) (n : Int) n rfl rfl rfl rfl (by rw [hz2]; omega) (Nat.le_trans hn (by decide)) HB1.out.size ?_; intro w2 ho2 hg2; have HG2 : Aside0 (w2.heap[w1.heap.size]? = some (.cells (repRow .u8 x 0 n).toArray 5 (0, 0))) := ⟨by have := rep_own_full ho2; rw [Nat.mul_one] at this; rw [← repRow_zero]; exact this⟩; have HB2 := Aside0.mk (HB1.out.grown hg2 HB1.out.size (fun _ e => by cases e)); have HS1 := Aside0.mk HB1.out.size; clear ho2 hg2)
  | (refine wpList_copy_splice rfl (.tmp 31) (.tmp 32) 22 22 rfl 5 Try.underlying22 rep_size (some ⟨w1.heap.size, 0, none⟩) (some ⟨b, off, none⟩) n n 1 c rfl rfl w1.heap.size 0 (repRow .u8 x 0 n) 5 HG2.out [.int .u8 x] (rep_one x n hn0) (fun _ => ⟨rfl, _, rfl, rep_src ((HB2.out.cell (p := ⟨b, off, none⟩) hb).trans HC.out)⟩) (rep_fit x n hn0) (rep_cell x) w.heap.size w HB2.out HS1.out ?_; intro w3 hg3 hb3; have HG3 : Aside0 (w3.heap[w1.heap.size]? = some (.cells (repRow .u8 x 1 n).toArray 5 (0, 0))) := ⟨rep_first hn0 hg3⟩; have HB3 := Aside0.mk hb3; clear hg3 hb3))
 generalize w1.heap.size = g at HG3 HS1 ⊢
 clear HG2 HB2 HM HC HB1
 go_loopw [8] (fun v wr => ∃ m : Nat, 0 < m ∧ m ≤ n ∧ v = .int .i64 m ∧ Aside0 (wr.heap[g]? = some (.cells (repRow .u8 x m n).toArray 5 (0, 0))) ∧ Aside0 (Below w.heap.size w wr)) (fun v _ => n - (intOf v).toNat)
 case atStart => exact ⟨1, by omega, by omega, rfl, HG3, HB3⟩
 case round =>
  clear HG3 HB3
  obtain ⟨m, hm0, hmn, rfl, HG, HB⟩ := hrel
  by_cases hlt : m < n
  ·have hlti : (m : Int) < n := by omega
   obtain ⟨d, hd⟩ : ∃ d, d = Nat.min m (n - m) := ⟨_, rfl⟩
   have hd1 : m + d ≤ n := by have : d = min m (n - m) := hd; omega
   have hd0 : 0 < d := by have : d = min m (n - m) := hd; omega
   have hnm : ¬ n = m := by omega
   have HD := Aside0.mk hd
   clear hd
   go_wp2
   go_region_law (refine step_copy_splice rfl (.tmp 41) (.tmp 44) 22 22 rfl 5 Try.underlying22 rep_size (some ⟨g, m, none⟩) (some ⟨g, 0, none⟩) (n - m) (n - m) m n (by simp [Act.eval, Act.put]) (by simp [Act.eval, Act.put]) g m (repRow .u8 x m n) 5 HG.out (nums .u8 (List.replicate d x)) (rep_len2 x HD.out) (fun _ => ⟨rfl, _, rfl, rep_src2 HG.out hd1 HD.out⟩) (rep_fit2 x hd1) (rep_cells x d) w.heap.size w (by first | exact HB.out | exact below_drew1 HB.out) HS1.out ?_; intro w4 hg4 hb4)
   all_goals
    have HG4 : Aside0 (w4.heap[g]? = some (.cells (repRow .u8 x (m + d) n).toArray 5 (0, 0))) := ⟨by have h2 := hg4.out; rw [repRow_splice .u8 x m d n hd1] at h2; exact h2⟩
    have HB4 := Aside0.mk hb4
    clear hg4 hb4 HG HB
    have hl : (nums .u8 (List.replicate d x)).length = d := by simp [nums]
    have hmd : (m : Int) + d ≤ 100000 := by omega
    rw [hl]
    clear hl
    go_simp
    go_wp2
    have hw : IntKind.i64.wrap ((m : Int) + d) = ((m + d : Nat) : Int) := by rw [IntKind.wrap_i64]; omega
    go_roundw
    case rel => exact ⟨m + d, by omega, hd1, by rw [hw], HG4, HB4⟩
    case measure => rw [hw]; simp [intOf]; omega
  ·obtain rfl : m = n := by omega
   have HR : Aside0 (wr.ownsRow w.heap.size 5 1 (.slice (some ⟨g, 0, none⟩) m m) m (nums .u8 (List.replicate m x))) := ⟨rep_row_own HS1.out hn (by simp [nums]) (by have := HG.out; simpa [repRow] using this)⟩
   clear HG
   go_wp2
   go_ret
   exact ⟨_, rfl, HR.out, HB.out⟩

set_option maxRecDepth 100000 in
set_option maxHeartbeats 1000000 in
theorem repeat_none (A : Option Addr) (c : Nat) (w : World) :
  Calls Try.prog 34 #[.slice A 1 c, .int .i64 0] w fun e w' => ∃ v, e = .returned v ∧ w'.ownsRow w.heap.size 5 1 v 0 (nums .u8 []) ∧ Below w.heap.size w w' := by
 have HM := Aside0.mk (mul_one_u 0 (by omega) (by omega))
 obtain ⟨i0, hi, hz0, hz1, hz2⟩ := info_parts rep_info
 go_enter Try.func34, Try.ntmps34
 go_wp2_with (first
  | (go_at_call 63; refine (bits_Mul.calls _ _ _ _ _ HM.out).mono ?_; rintro e w1 ⟨rfl, hw1⟩; have HB1 := Aside0.mk hw1.below; clear hw1)
  | (at_make; refine wpList_make_full _ rfl (.tmp 29) (.tmp 29) 22 rfl w.heap.size 5 i0 (.int .u8 0) 1 Try.underlying22 hi hz0 hz1 .i64 .i64 0 0 0 rfl rfl rfl rfl (by rw [hz2]; omega) (Nat.zero_le _) HB1.out.size ?_; intro w2 ho2 hg2; have HO2 := Aside0.mk ho2; have HB2 := Aside0.mk (HB1.out.grown hg2 HB1.out.size (fun _ e => by cases e)); clear ho2 hg2)
  | (refine wpList_copy_nothing rfl (.tmp 31) (.tmp 32) 22 22 rfl 5 Try.underlying22 rep_size (some ⟨w1.heap.size, 0, none⟩) A 0 0 1 c rfl rfl rfl ?_))
 go_loopw [8] (fun v wr => v = .int .i64 0 ∧ wr = w2) (fun v _ => 0)
 case atStart => exact ⟨rfl, rfl⟩
 case round =>
  obtain ⟨rfl, rfl⟩ := hrel
  go_wp2
  go_ret
  exact ⟨_, rfl, by have h := HO2.out; rw [show (madeCells (Value.int .u8 0).cells (0 * 1)).toList = nums .u8 [] from toList_madeCells_one _ 0] at h; exact h, HB2.out⟩

/-- **slices.Repeat of one byte.** -/
theorem slices_Repeat_byte_byte.calls (A0 : Option Addr) (c0 : Nat) (l0 : List Int) (a1 : Int) (r : List Int) (w : World) (hr0 : Kd.C (Kd.int .u8) w A0 l0.length l0) (hc0 : l0.length ≤ c0) (h : slices_Repeat_byte_byte.f l0 a1 = some r) :
  Calls Try.prog 34 #[.slice A0 l0.length c0, .int .i64 a1] w fun e w' => ∃ v0_ : Value, e = .returned (v0_) ∧ Kd.R (Kd.int .u8) 5 w' w.heap.size (fun _ => True) v0_ r ∧ Below w.heap.size w w' := by
 unfold slices_Repeat_byte_byte.f repV at h
 by_cases g : l0.length = 1 ∧ 0 ≤ a1 ∧ a1 ≤ 100000
 ·rw [if_pos g] at h
  obtain rfl := Option.some.inj h
  obtain ⟨g1, g2, g3⟩ := g
  obtain ⟨n, rfl⟩ : ∃ n : Nat, a1 = (n : Int) := ⟨a1.toNat, by omega⟩
  rw [Int.toNat_natCast]
  have fin : ∀ {e : Ending} {w' : World}, (∃ v, e = .returned v ∧ w'.ownsRow w.heap.size 5 1 v n (nums .u8 (List.replicate n (rd l0 0))) ∧ Below w.heap.size w w') → ∃ v0_ : Value, e = .returned (v0_) ∧ Kd.R (Kd.int .u8) 5 w' w.heap.size (fun _ => True) v0_ (List.replicate n (rd l0 0)) ∧ Below w.heap.size w w' := by
   rintro e w' ⟨v, rfl, ho, hb⟩
   exact ⟨v, rfl, Kd.R_of_own (by rw [List.length_replicate]; exact ho) (fun _ _ => trivial), hb⟩
  by_cases hn : n = 0
  ·subst hn
   rw [g1]
   exact (repeat_none A0 c0 w).mono fun e w' h => fin h
  ·obtain ⟨b, off, rfl, hb, hc⟩ := ints_cells hr0 (by omega)
   have h0 := hc 0 (by omega)
   rw [g1]
   exact (repeat_walk (rd l0 0) n b off c0 w (by omega) (by omega) hb (by simpa using h0)).mono fun e w' h => fin h
 ·rw [if_neg g] at h; cases h
end Go.Proofs.Ytchflniekbhohaa.P
