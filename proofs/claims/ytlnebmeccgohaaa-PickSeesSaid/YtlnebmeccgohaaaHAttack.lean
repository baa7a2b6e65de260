/- Whether samples begin loud: pick.Attack answers as the plain function attackV says, for every slice that is read. -/
import Derived.Test.YtlnebmeccgohaaaPx0
import Derived.Test.YtlnebmeccgohaaaPxslicesMinIntInt
import Derived.Test.YtlnebmeccgohaaaPxslicesMaxIntInt
import Derived.Test.YtlnebmeccgohaaaEng
import Derived.Deep.MidRow
import Derived.Outline
namespace Go.Proofs.Ytlnebmeccgohaaa.P
open Go.RowKit Go.Shelf Go.Proofs.Ytlnebmeccgohaaa.Eng Go.Proofs.YtlnebmeccgohaaaW.PrintWords Go.Proofs.YtlnebmeccgohaaaW.PrintLast Go.Proofs.YtlnebmeccgohaaaW.PrintMore
set_option linter.unusedVariables false
set_option linter.unusedSimpArgs false
attribute [local go_sem] Oper.semAt_some

/-- The sum of squares of the part that begins at b, n of them. -/
def sqSum (l : List Int) (b : Nat) : Nat → Int
  | 0 => 0
  | n + 1 => sqSum l b n + rd l ((b + n : Nat) : Int) * rd l ((b + n : Nat) : Int)

def chunkS (Bs Bn : Nat) (i : Nat) : Prop := i = Bs ∨ i = Bn
set_option maxRecDepth 100000 in
set_option maxHeartbeats 1000000 in
theorem chunk1 (W : World) (l Bs Bn b off cap : Nat) (J Jx : List (Fin 8) → World → Prop)
    (hY : ∀ pre x W1, J pre W1 → pre.length < 8 → YieldAt Fence.wide 7 Try.prog l #[.slice (some ⟨b, off + 32 * x.val, none⟩) 32 32] W1 fun e W' =>
      (e = .returned (.bool true) ∧ J (pre ++ [x]) W' ∧ KeepB (chunkS Bs Bn) W1 W') ∨ (e = .returned (.bool false) ∧ Jx (pre ++ [x]) W'))
    (hBs : W.cell? ⟨Bs, 0, none⟩ = some (.slice (some ⟨b, off, none⟩) 256 cap)) (hBn : W.cell? ⟨Bn, 0, none⟩ = some (.int .i64 32)) (hcap : 256 ≤ cap) (hJd : ∀ p X n, J p X → J p (X.drewN n)) (h0 : J [] W) :
    CallsIn Fence.wide 8 Try.prog 14 #[.func (.yield l) #[] #[], .pointer (some ⟨Bs, 0, none⟩), .pointer (some ⟨Bn, 0, none⟩)] W fun e W' => (∃ v, e = .returned v) ∧
      ((∃ ys, ys = List.finRange 8 ∧ J ys W') ∨ (∃ pre, pre <+: List.finRange 8 ∧ Jx pre W')) := by
  have sBs : chunkS Bs Bn Bs := .inl rfl
  have sBn : chunkS Bs Bn Bn := .inr rfl
  have lBs : Bs < W.heap.size := World.block_lt_of_cell? W _ hBs
  have lBn : Bn < W.heap.size := World.block_lt_of_cell? W _ hBn
  refine callsIn_of_wp Try.func14 rfl trivial ?_ rfl
  simp only [Try.ntmps14, List.size_toArray, List.length_cons, List.length_nil, Nat.reduceAdd, Nat.reduceSub, Array.replicate_succ, Array.replicate_zero, List.push_toArray, List.append_toArray, List.nil_append, List.cons_append]
  gi_wp2
  gi_loopw [4] (fun i wr => ∃ k : Nat, k ≤ 8 ∧ i = .int .i64 (32 * (k : Int)) ∧ J ((List.finRange 8).take k) wr ∧ KeepB (chunkS Bs Bn) W wr)
    (fun i _ => 256 - (intOf i).toNat)
  case atStart => exact ⟨0, Nat.zero_le _, rfl, h0, KeepB.refl _ _⟩
  case round =>
    obtain ⟨k, hk, rfl, hJs, hnx⟩ := hrel
    have hBs' := (hnx.cell (p := ⟨Bs, 0, none⟩) sBs lBs).trans hBs
    have hBn' := (hnx.cell (p := ⟨Bn, 0, none⟩) sBn lBn).trans hBn
    by_cases hlt : k < 8
    · have c1 : 32 * (k : Int) < 256 := by omega
      gi_wp2
      gi_quiet (fail)
      have hJ2 := hJd _ _ nq hJs
      have hnx2 : KeepB (chunkS Bs Bn) W (wr.drewN nq) := hnx.drewN nq
      generalize wr.drewN nq = w2 at hJ2 hnx2 ⊢
      clear hBs' hBn' hJs hnx
      have hBs' := (hnx2.cell (p := ⟨Bs, 0, none⟩) sBs lBs).trans hBs
      have hBn' := (hnx2.cell (p := ⟨Bn, 0, none⟩) sBn lBn).trans hBn
      obtain ⟨fn, tmps, assign, body, hy, hR⟩ := hY _ (⟨k, hlt⟩ : Fin 8) _ hJ2 (by simp; omega)
      gi_wp2
      refine hR.mono ?_
      have htk : (List.finRange 8).take k ++ [(⟨k, hlt⟩ : Fin 8)] = (List.finRange 8).take (k + 1) := by
        rw [List.take_add_one]; simp [List.getElem?_eq_getElem, hlt]
      rw [htk]
      rintro e W3 (⟨rfl, hJ3, hk3⟩ | ⟨rfl, hJx3⟩)
      · clear hBs' hBn'
        have hBn' := ((hnx2.trans hk3).cell (p := ⟨Bn, 0, none⟩) sBn lBn).trans hBn
        have HT : Hid _ := htk
        clear htk
        gi_wp2
        go_roundw
        case rel => exact ⟨k + 1, by omega, by simp; omega, hJ3, hnx2.trans hk3⟩
        case measure => simp [intOf]; omega
      · gi_wp2
        refine bodyPost_ret (results_none rfl _ _ _) rfl ?_
        exact ⟨⟨_, rfl⟩, .inr ⟨_, List.take_prefix _ _, hJx3⟩⟩
    · have c1 : ¬ (32 * (k : Int) < 256) := by omega
      have hk8 : 8 ≤ k := by omega
      gi_wp2
      go_end0
      refine ⟨⟨_, rfl⟩, .inl ?_⟩
      have : (List.finRange 8).take k = List.finRange 8 := List.take_of_length_le (by simp; omega)
      rw [this] at hJs
      exact hJs

theorem chunk_stops (w : World) (Bs Bn b off cap : Nat) (hcap : 256 ≤ cap)
    (hBs : w.cell? ⟨Bs, 0, none⟩ = some (.slice (some ⟨b, off, none⟩) 256 cap)) (hBn : w.cell? ⟨Bn, 0, none⟩ = some (.int .i64 32)) :
    SeqStopsK Fence.wide 8 Try.prog 14 #[.pointer (some ⟨Bs, 0, none⟩), .pointer (some ⟨Bn, 0, none⟩)] (fun x : Fin 8 => #[Value.slice (some ⟨b, off + 32 * x.val, none⟩) 32 32]) (KeepB (chunkS Bs Bn)) (fun ys => ys = List.finRange 8) (fun pre => pre <+: List.finRange 8) 8 w := by
  intro l J Jx W hW hJ hJx hY h0
  have lBs : Bs < w.heap.size := World.block_lt_of_cell? w _ hBs
  have lBn : Bn < w.heap.size := World.block_lt_of_cell? w _ hBn
  exact chunk1 W l Bs Bn b off cap J Jx hY ((hW.cell (p := ⟨Bs, 0, none⟩) lBs).trans hBs) ((hW.cell (p := ⟨Bn, 0, none⟩) lBn).trans hBn) hcap (fun p X n hp => abides_drewN hJ n hp) h0

set_option maxHeartbeats 1000000 in
theorem chunk_mk (A : Option Addr) (len cap : Nat) (w : World) :
    CallsIn Fence.wide 8 Try.prog 10 #[.slice A len cap, .int .i64 32] w fun e w' => e = .returned (.func (.func 14) #[] #[.pointer (some ⟨w.heap.size, 0, none⟩), .pointer (some ⟨w.heap.size + 1, 0, none⟩)]) ∧ w' = (w.alloc (.cells #[.slice A len cap] 22)).alloc (.cells #[.int .i64 32] 3) := by
  refine callsIn_of_wp Try.func10 rfl trivial ?_ rfl
  simp only [Try.ntmps10, List.size_toArray, List.length_cons, List.length_nil, Nat.reduceAdd, Nat.reduceSub, Array.replicate_succ, Array.replicate_zero, List.push_toArray, List.append_toArray, List.nil_append, List.cons_append]
  gi_wp2
  go_ret
  exact ⟨rfl, rfl⟩

/-- The sums of the parts that have come. -/
def sumOf (l : List Int) (pre : List (Fin 8)) : Int := (pre.map fun x => sqSum l (32 * x.val) 32).foldr (· + ·) 0
theorem sumOf_snoc (l : List Int) (pre : List (Fin 8)) (x : Fin 8) : sumOf l (pre ++ [x]) = sumOf l pre + sqSum l (32 * x.val) 32 := by
  unfold sumOf
  induction pre with
  | nil => simp
  | cons a r ih => simp only [List.cons_append, List.map_cons, List.foldr_cons, ih]; omega
def loudC (l : List Int) (q : List (Fin 8)) (x : Fin 8) : Prop := 0 < q.length ∧ 8 * sumOf l q + q.length * 1048576 < q.length * sqSum l (32 * x.val) 32
theorem mul_self_nonneg' (a : Int) : 0 ≤ a * a := by
  rcases Int.le_total 0 a with h | h
  · exact Int.mul_nonneg h h
  · exact Int.mul_nonneg_of_nonpos_of_nonpos h h
theorem sq_le (a : Int) (h0 : -32768 ≤ a) (h1 : a ≤ 32767) : a * a ≤ 1073741824 := by
  rcases Int.le_total 0 a with h | h
  · have := Int.mul_le_mul h1 h1 h (by omega); omega
  · have h2 : -a ≤ 32768 := by omega
    have := Int.mul_le_mul h2 h2 (by omega) (by omega)
    have e : -a * -a = a * a := by rw [Int.neg_mul_neg]
    omega
theorem sqSum_bd (l : List Int) (h : ∀ i : Int, -32768 ≤ rd l i ∧ rd l i ≤ 32767) (b n : Nat) : 0 ≤ sqSum l b n ∧ sqSum l b n ≤ n * 1073741824 := by
  induction n with
  | zero => simp [sqSum]
  | succ n ih =>
    have hx := h ((b + n : Nat) : Int)
    have h1 : 0 ≤ rd l ((b + n : Nat) : Int) * rd l ((b + n : Nat) : Int) := mul_self_nonneg' _
    have h2 : rd l ((b + n : Nat) : Int) * rd l ((b + n : Nat) : Int) ≤ 1073741824 := sq_le _ hx.1 hx.2
    simp only [sqSum]
    constructor
    · omega
    · have : ((n + 1 : Nat) : Int) * 1073741824 = n * 1073741824 + 1073741824 := by push_cast; omega
      omega
theorem sumOf_bd (l : List Int) (h : ∀ i : Int, -32768 ≤ rd l i ∧ rd l i ≤ 32767) (q : List (Fin 8)) : 0 ≤ sumOf l q ∧ sumOf l q ≤ q.length * 34359738368 := by
  induction q with
  | nil => simp [sumOf]
  | cons a r ih =>
    have hx := sqSum_bd l h (32 * a.val) 32
    have e : sumOf l (a :: r) = sqSum l (32 * a.val) 32 + sumOf l r := rfl
    rw [e, List.length_cons]
    have : ((r.length + 1 : Nat) : Int) * 34359738368 = r.length * 34359738368 + 34359738368 := by push_cast; omega
    omega

/-- The walk behind the two tests. -/
def AttackPost (l : List Int) (w : World) (e : Ending) (w' : World) : Prop :=
  Below w.heap.size w w' ∧ ((e = .returned (.tuple #[.bool true, .int .i64 0]) ∧ ∃ q x, (q ++ [x] <+: List.finRange 8) ∧ loudC l q x) ∨
    (e = .returned (.tuple #[.bool false, .int .i64 0]) ∧ ∀ q x, (q ++ [x] <+: List.finRange 8) → ¬ loudC l q x))
set_option maxRecDepth 100000 in
set_option maxHeartbeats 2000000 in
theorem attack_walk (b off cap : Nat) (l : List Int) (w : World) (hl : l.length = 256) (hcap : 256 ≤ cap) (hb : b < w.heap.size) (hr : ∀ i : Int, -32768 ≤ rd l i ∧ rd l i ≤ 32767)
    (hc : ∀ i : Nat, i < 256 → w.cell? ⟨b, off + i, none⟩ = some (.int .i64 (rd l i)))
    (mn mx : Int) (hmn : ∀ W, Below w.heap.size w W → Calls Try.prog 8 #[.slice (some ⟨b, off, none⟩) 256 cap] W fun e w' => e = .returned (.int .i64 mn) ∧ Below W.heap.size W w')
    (hmx : ∀ W, Below w.heap.size w W → Calls Try.prog 9 #[.slice (some ⟨b, off, none⟩) 256 cap] W fun e w' => e = .returned (.int .i64 mx) ∧ Below W.heap.size W w')
    (h1 : -32768 ≤ mn) (h2 : mx ≤ 32767) :
    CallsIn Fence.wide 9 Try.prog 4 #[.slice (some ⟨b, off, none⟩) 256 cap] w (AttackPost l w) := by
  have HMN := Aside0.mk hmn
  have HMX := Aside0.mk hmx
  have HC := Aside0.mk hc
  have HR := Aside0.mk hr
  clear hmn hmx hc hr
  refine callsIn_of_wp_marks Try.func4 rfl trivial ?_ rfl
  simp only [Try.ntmps4, List.size_toArray, List.length_cons, List.length_nil, Nat.reduceAdd, Nat.reduceSub, Array.replicate_succ, Array.replicate_zero, List.push_toArray, List.append_toArray, List.nil_append, List.cons_append]
  gi_wp2_with fail
  have B2 := (Boxed.new w 4 (.bool false)).alloc (.cells #[.int .i64 0] 23)
  have B3 := Boxed.new (w.alloc (.cells #[.bool false] 4)) 23 (.int .i64 0)
  rw [World.size_alloc] at B3
  have HB : Below w.heap.size w ((w.alloc (.cells #[.bool false] 4)).alloc (.cells #[.int .i64 0] 23)) := ((Below.refl _ w).alloc (Nat.le_refl _) _).alloc (by simp) _
  have hsz : ((w.alloc (.cells #[.bool false] 4)).alloc (.cells #[.int .i64 0] 23)).heap.size = w.heap.size + 2 := by simp
  generalize (w.alloc (.cells #[.bool false] 4)).alloc (.cells #[.int .i64 0] 23) = w1 at B2 B3 HB hsz ⊢
  refine ⟨trivial, callsIn_wide.2 ((HMN.out w1 HB).mono ?_)⟩
  rintro e wm ⟨rfl, hb1⟩
  have hmn2 : ¬ mn < -32768 := by omega
  have B2m := Boxed.below B2 hb1 (by omega)
  have B3m := Boxed.below B3 hb1 (by omega)
  have HBm := below_then HB HB.size hb1
  have hszm : w.heap.size + 2 ≤ wm.heap.size := by have := hb1.size; omega
  have hszs := Aside0.mk hsz
  clear B2 B3 HB hb1 hsz
  gi_wp2_with fail
  refine ⟨trivial, callsIn_wide.2 ((HMX.out _ HBm).mono ?_)⟩
  rintro e w2 ⟨rfl, hb2⟩
  have hmx2 : ¬ 32768 ≤ mx := by omega
  have hmx3 : mx < 32768 := by omega
  have B2' := Boxed.below B2m hb2 (by omega)
  have B3' := Boxed.below B3m hb2 (by omega)
  have HB' := below_then HBm HBm.size hb2
  have hsz' : w.heap.size + 2 ≤ w2.heap.size := by have := hb2.size; omega
  clear B2m B3m HBm hb2 hszm
  have HSZ := Aside0.mk hsz'
  clear hsz'
  gi_wp2_with fail
  refine ⟨trivial, (chunk_mk _ _ _ _).mono ?_⟩
  rintro e w5 ⟨rfl, rfl⟩
  gi_wp2_with fail
  obtain ⟨w5, hw5⟩ : ∃ w5, w5 = (((w2.alloc (.cells #[.int .i64 0] 3)).alloc (.cells #[.int .i64 0] 3)).alloc (.cells #[.slice (some ⟨b, off, none⟩) 256 cap] 22)).alloc (.cells #[.int .i64 32] 3) := ⟨_, rfl⟩
  have bS : Boxed w5 w2.heap.size 3 (.int .i64 0) := by rw [hw5]; exact (((Boxed.new _ _ _).alloc _).alloc _).alloc _
  have bN : Boxed w5 (w2.heap.size + 1) 3 (.int .i64 0) := by
    rw [hw5]; have := Boxed.new (w2.alloc (.cells #[.int .i64 0] 3)) 3 (.int .i64 0); rw [World.size_alloc] at this; exact (this.alloc _).alloc _
  have b2 : Boxed w5 w.heap.size 4 (.bool false) := by rw [hw5]; exact (((B2'.alloc _).alloc _).alloc _).alloc _
  have b3 : Boxed w5 (w.heap.size + 1) 23 (.int .i64 0) := by rw [hw5]; exact (((B3'.alloc _).alloc _).alloc _).alloc _
  have bC : Boxed w5 (w2.heap.size + 2) 22 (.slice (some ⟨b, off, none⟩) 256 cap) := by
    rw [hw5]; have := Boxed.new ((w2.alloc (.cells #[.int .i64 0] 3)).alloc (.cells #[.int .i64 0] 3)) 22 (.slice (some ⟨b, off, none⟩) 256 cap); rw [World.size_alloc, World.size_alloc] at this; exact this.alloc _
  have bD : Boxed w5 (w2.heap.size + 3) 3 (.int .i64 32) := by
    rw [hw5]; have := Boxed.new (((w2.alloc (.cells #[.int .i64 0] 3)).alloc (.cells #[.int .i64 0] 3)).alloc (.cells #[.slice (some ⟨b, off, none⟩) 256 cap] 22)) 3 (.int .i64 32); rw [World.size_alloc, World.size_alloc, World.size_alloc] at this; exact this
  have h5 : Below w.heap.size w w5 := by
    have := HSZ.out
    rw [hw5]
    exact (((HB'.alloc (by omega) _).alloc (by simp; omega) _).alloc (by simp; omega) _).alloc (by simp; omega) _
  have hs5 : w5.heap.size = w2.heap.size + 4 := by rw [hw5]; simp
  rw [← hw5]
  have HS5 := Aside0.mk hs5
  clear hs5 hw5 HB' B2' B3'
  refine wpIn_rangeFunc_ownG rfl (by omega) (gf := 14) (lb := #[.pointer (some ⟨w2.heap.size + 2, 0, none⟩), .pointer (some ⟨w2.heap.size + 3, 0, none⟩)]) rfl trivial (enters_of Try.func14 (by kernel_rfl) rfl)
    (chunk_stops w5 _ _ b off cap hcap bC.cell bD.cell) keepK_t (keepK_b (S := chunkS (w2.heap.size + 2) (w2.heap.size + 3)) (by rintro i (rfl | rfl) <;> (have := HS5.out; omega))) (Below.refl _ _) (fun _ => rfl)
    (fun pre W => Boxed W w2.heap.size 3 (.int .i64 (sumOf l pre)) ∧ Boxed W (w2.heap.size + 1) 3 (.int .i64 pre.length) ∧ Boxed W w.heap.size 4 (.bool false) ∧ Boxed W (w.heap.size + 1) 23 (.int .i64 0) ∧ (∀ q x, q ++ [x] <+: pre → ¬ loudC l q x) ∧ Below w.heap.size w W)
    (fun c pre W => (c = .ret ∧ ∃ q x, pre = q ++ [x] ∧ loudC l q x) ∧ Boxed W w.heap.size 4 (.bool true) ∧ Boxed W (w.heap.size + 1) 23 (.int .i64 0) ∧ Below w.heap.size w W)
    ((Own.from (boxed_own _ _ fun pre : List (Fin 8) => .int .i64 (sumOf l pre)) _).and ((Own.from (boxed_own _ _ fun pre : List (Fin 8) => .int .i64 pre.length) _).and ((Own.from (boxed_own _ _ fun _ => .bool false) _).and ((Own.from (boxed_own _ _ fun _ => .int .i64 0) _).and ((ownFrom_pure _ fun pre : List (Fin 8) => ∀ q x, q ++ [x] <+: pre → ¬ loudC l q x).and (ownFrom_below (Nat.le_refl _) (by have := HS5.out; have := HSZ.out; omega)))))))
    (fun c => (ownFrom_pure _ fun pre : List (Fin 8) => c = .ret ∧ ∃ q x, pre = q ++ [x] ∧ loudC l q x).and ((Own.from (boxed_own _ _ fun _ => .bool true) _).and ((Own.from (boxed_own _ _ fun _ => .int .i64 0) _).and (ownFrom_below (Nat.le_refl _) (by have := HS5.out; have := HSZ.out; omega)))))
    ⟨bS, bN, b2, b3, (fun q x h => by simp at h), h5⟩ ?a1 ?assign ?body ?done ?stop
  case assign =>
    intro l x W K hK
    gi_wp2
    exact hK
  case body =>
    rintro lp pre x W ⟨cS, cN, c2, c3, hno, hB⟩ hlen
    have NO := Aside0.mk hno
    clear hno
    have hlp : (pre.length : Int) < 8 := by omega
    have sb := sumOf_bd l HR.out pre
    have hne : (pre.length : Int) * 34359738368 ≤ 274877906944 := by omega
    clear b2 b3 bS bN bC bD h5
    gi_wp2
    gi_loopw [7, 26] (fun s i wr => ∃ j : Nat, j ≤ 32 ∧ i = .int .i64 j ∧ s = .int .i64 (sqSum l (32 * x.val) j) ∧ wr = W) (fun _ i _ => 32 - (intOf i).toNat)
    case atStart => exact ⟨0, by omega, rfl, rfl, rfl⟩
    case round =>
      obtain ⟨j, hj, rfl, rfl, rfl⟩ := hrel
      by_cases hlt : j < 32
      · have hx := x.isLt
        have hcell : wr.cell? ⟨b, off + 32 * x.val + j, none⟩ = some (.int .i64 (rd l ((32 * x.val + j : Nat) : Int))) := by
          rw [Nat.add_assoc]; exact (hB.cell (p := ⟨b, off + (32 * x.val + j), none⟩) hb).trans (HC.out (32 * x.val + j) (by omega))
        have hrd := HR.out ((32 * x.val + j : Nat) : Int)
        have h1 : 0 ≤ rd l ((32 * x.val + j : Nat) : Int) * rd l ((32 * x.val + j : Nat) : Int) := mul_self_nonneg' _
        have h2 : rd l ((32 * x.val + j : Nat) : Int) * rd l ((32 * x.val + j : Nat) : Int) ≤ 1073741824 := sq_le _ hrd.1 hrd.2
        have h3 := sqSum_bd l HR.out (32 * x.val) j
        have h4 : (j : Int) * 1073741824 ≤ 34359738368 := by omega
        have e1 : sqSum l (32 * x.val) (j + 1) = sqSum l (32 * x.val) j + rd l ((32 * x.val + j : Nat) : Int) * rd l ((32 * x.val + j : Nat) : Int) := rfl
        have E1 := Aside0.mk e1
        clear e1
        generalize rd l ((32 * x.val + j : Nat) : Int) = y at *
        gi_wp2
        go_roundw
        case rel => exact ⟨j + 1, by omega, by go_num, by rw [E1.out], trivial⟩
        case measure => simp [intOf]; omega
      · obtain rfl : j = 32 := by omega
        have h3 := sqSum_bd l HR.out (32 * x.val) 32
        have LC : Aside0 (loudC l pre x ↔ (0 < pre.length ∧ 8 * sumOf l pre + pre.length * 1048576 < pre.length * sqSum l (32 * x.val) 32)) := ⟨Iff.rfl⟩
        have SN := Aside0.mk (sumOf_snoc l pre x)
        have m1 : 0 ≤ (pre.length : Int) * sqSum l (32 * x.val) 32 := Int.mul_nonneg (by omega) h3.1
        have m2 : (pre.length : Int) * sqSum l (32 * x.val) 32 ≤ 8 * 34359738368 := Int.mul_le_mul (by omega) (by omega) h3.1 (by omega)
        have cNc := cN.cell
        have cSc := cS.cell
        have f2 := c2.frozen
        have c2c := c2.cell
        have c3c := c3.cell
        have f3 := c3.frozen
        have fN := cN.frozen
        have fS := cS.frozen
        have CL := Aside0.mk cS
        clear cS
        generalize sqSum l (32 * x.val) 32 = y at *
        generalize sumOf l pre = sm at *
        have nS : ¬ chunkS (w2.heap.size + 2) (w2.heap.size + 3) w2.heap.size := by rintro (h | h) <;> omega
        have nN : ¬ chunkS (w2.heap.size + 2) (w2.heap.size + 3) (w2.heap.size + 1) := by rintro (h | h) <;> omega
        by_cases hp : 0 < (pre.length : Int)
        · by_cases hq : 8 * sm + pre.length * 1048576 < pre.length * y
          · gi_wp2
            exact ⟨((KeepsOthers.setCell _ _ _).trans (KeepsOthers.setCell _ _ _)).from _, ⟨rfl, pre, x, rfl, LC.out.2 ⟨by omega, by omega⟩⟩, Boxed.other (c2.set _) (by omega) _, (Boxed.other c3 (by omega) _).set _, bset (bset hB (Nat.le_refl _) _) (by omega) _⟩
          · gi_wp2
            exact ⟨((KeepsOthers.setCell _ _ _).trans (KeepsOthers.setCell _ _ _)).from _, ⟨(KeepB.refl _ _).setCell _ _ nS |>.setCell _ _ nN, (by rw [SN.out]; exact (Boxed.other (CL.out.set _) (by omega) _)), (by rw [List.length_append]; exact (Boxed.other cN (by omega) _).set _), Boxed.other (Boxed.other c2 (by have := HSZ.out; omega) _) (by have := HSZ.out; omega) _, Boxed.other (Boxed.other c3 (by have := HSZ.out; omega) _) (by have := HSZ.out; omega) _, (fun q y h => by
              rcases List.prefix_concat_iff.1 h with h | h
              · obtain ⟨rfl, h2⟩ := List.append_inj' h rfl
                obtain rfl : y = x := by simpa using h2
                exact fun hl => absurd (LC.out.1 hl) (by omega)
              · exact NO.out q y h), bset (bset hB (by have := HSZ.out; omega) _) (by have := HSZ.out; omega) _⟩⟩
        · gi_wp2
          exact ⟨((KeepsOthers.setCell _ _ _).trans (KeepsOthers.setCell _ _ _)).from _, ⟨(KeepB.refl _ _).setCell _ _ nS |>.setCell _ _ nN, (by rw [SN.out]; exact (Boxed.other (CL.out.set _) (by omega) _)), (by rw [List.length_append]; exact (Boxed.other cN (by omega) _).set _), Boxed.other (Boxed.other c2 (by have := HSZ.out; omega) _) (by have := HSZ.out; omega) _, Boxed.other (Boxed.other c3 (by have := HSZ.out; omega) _) (by have := HSZ.out; omega) _, (fun q y h => by
              rcases List.prefix_concat_iff.1 h with h | h
              · obtain ⟨rfl, h2⟩ := List.append_inj' h rfl
                obtain rfl : y = x := by simpa using h2
                exact fun hl => absurd (LC.out.1 hl) (by omega)
              · exact NO.out q y h), bset (bset hB (by have := HSZ.out; omega) _) (by have := HSZ.out; omega) _⟩⟩
  case done =>
    rintro D xs W hD rfl ⟨cS, cN, c2, c3, hno, hB⟩ hK
    have c2c := c2.cell
    have c2f := c2.frozen
    have c3c := c3.cell
    have c3f := c3.frozen
    have NO := Aside0.mk hno
    have HK := Aside0.mk hK
    clear hno hK b2 b3 bS bN bC bD h5
    gi_wp2
    have e2 := Boxed.other (c2.set (.bool false)) (show w.heap.size ≠ w.heap.size + 1 by omega) (.int .i64 0)
    have e3 := (Boxed.other c3 (show w.heap.size + 1 ≠ w.heap.size by omega) (.bool false)).set (.int .i64 0)
    have hB2 := bset (bset hB (Nat.le_refl _) (.bool false)) (show w.heap.size ≤ w.heap.size + 1 by omega) (.int .i64 0)
    have KD : ((W.setCell ⟨w.heap.size, 0, none⟩ (.bool false)).setCell ⟨w.heap.size + 1, 0, none⟩ (.int .i64 0)).heap[D]? = some (.deferred (some [])) := by
      have := HSZ.out; have := HS5.out
      rw [heap_setCell0 _ _ _ _ (by omega), heap_setCell0 _ _ _ _ (by omega)]; exact HK.out
    have hsz1 := HSZ.out
    have hsz2 := HS5.out
    refine ⟨by simp, .inl ⟨_, _, rfl, run_takeDeferred KD, ?_⟩⟩
    have q2 := (Boxed.putObj e2 (.deferred none) (show w.heap.size ≠ D by omega)).cell
    have q3 := (Boxed.putObj e3 (.deferred none) (show w.heap.size + 1 ≠ D by omega)).cell
    exact ⟨.tuple #[.bool false, .int .i64 0], by simp [results, Try.results4, go_sem, q2, q3], bput hB2 hB2.size (by omega) _, .inr ⟨rfl, NO.out⟩⟩
  case stop =>
    rintro D c pre W hD hpre ⟨⟨rfl, q, x, rfl, hx⟩, e2, e3, hB2⟩ KD
    have HX := Aside0.mk hx
    have HP := Aside0.mk hpre
    have HKD := Aside0.mk KD
    clear hx hpre KD
    gi_wp2
    have KD := HKD.out
    have hsz1 := HSZ.out
    have hsz2 := HS5.out
    refine ⟨by simp, .inl ⟨_, _, rfl, run_takeDeferred KD, ?_⟩⟩
    have q2 := (Boxed.putObj e2 (.deferred none) (show w.heap.size ≠ D by omega)).cell
    have q3 := (Boxed.putObj e3 (.deferred none) (show w.heap.size + 1 ≠ D by omega)).cell
    exact ⟨.tuple #[.bool true, .int .i64 0], by simp [results, Try.results4, go_sem, q2, q3], bput hB2 hB2.size (by omega) _, .inl ⟨rfl, q, x, HP.out, HX.out⟩⟩

def S8 (n : Nat) : List (Fin 8) := (List.finRange 8).take n
theorem S8_succ (n : Nat) (h : n < 8) : S8 (n + 1) = S8 n ++ [⟨n, h⟩] := by
  unfold S8; rw [List.take_add_one]; simp [List.getElem?_eq_getElem, h]
theorem S8_length (n : Nat) (h : n ≤ 8) : (S8 n).length = n := by simp [S8, h]
theorem sumS_succ (l : List Int) (n : Nat) (h : n < 8) : sumOf l (S8 (n + 1)) = sumOf l (S8 n) + sqSum l (32 * n) 32 := by rw [S8_succ n h, sumOf_snoc]
def condN (l : List Int) (n : Nat) : Prop := 0 < n ∧ 8 * sumOf l (S8 n) + n * 1048576 < n * sqSum l (32 * n) 32

theorem pre_iff (l : List Int) : (∃ q x, (q ++ [x] <+: List.finRange 8) ∧ loudC l q x) ↔ ∃ q, 0 ≤ q ∧ q < 8 ∧ condN l q := by
  constructor
  · rintro ⟨q, x, h, hc⟩
    have hlen : q.length + 1 ≤ 8 := by have := h.length_le; simpa using this
    have e := List.prefix_iff_eq_take.1 h
    rw [List.length_append, List.length_singleton] at e
    have e2 : q ++ [x] = S8 q.length ++ [⟨q.length, by omega⟩] := by rw [← S8_succ]; exact e
    obtain ⟨e3, e4⟩ := List.append_inj' e2 rfl
    obtain rfl : x = ⟨q.length, by omega⟩ := by simpa using e4
    refine ⟨q.length, by omega, by omega, hc.1, ?_⟩
    rw [← e3]; exact hc.2
  · rintro ⟨n, _, hn, h0, hc⟩
    refine ⟨S8 n, ⟨n, hn⟩, ?_, ?_⟩
    · rw [← S8_succ n hn]; exact List.take_prefix _ _
    · refine ⟨by rw [S8_length n (by omega)]; exact h0, ?_⟩
      rw [S8_length n (by omega)]; exact hc

/-- What Attack answers. -/
def attackV (l : List Int) : Bool × Int :=
  if l.length ≠ 256 then (false, 4) else if ((List.range 256).any fun i => decide (rd l (i : Int) < -32768) || decide (32768 ≤ rd l (i : Int))) = true then (false, 2)
  else ((List.range 8).any fun n => decide (0 < n) && decide (8 * sumOf l (S8 n) + n * 1048576 < n * sqSum l (32 * n) 32), 0)
def pick_Attack.f (l0 : List Int) : Option (Bool × Int) := some (attackV l0)
open Classical in
theorem attackV_eq (l : List Int) : attackV l = if l.length ≠ 256 then (false, 4) else if ∃ i : Nat, i < 256 ∧ (rd l i < -32768 ∨ 32768 ≤ rd l i) then (false, 2)
    else (decide (∃ q x, (q ++ [x] <+: List.finRange 8) ∧ loudC l q x), 0) := by
  unfold attackV
  have e1 : ((List.range 256).any fun i => decide (rd l (i : Int) < -32768) || decide (32768 ≤ rd l (i : Int))) = true ↔ ∃ i : Nat, i < 256 ∧ (rd l i < -32768 ∨ 32768 ≤ rd l i) := by
    simp [List.any_eq_true]
  have e2 : ((List.range 8).any fun n => decide (0 < n) && decide (8 * sumOf l (S8 n) + n * 1048576 < n * sqSum l (32 * n) 32)) = decide (∃ q x, (q ++ [x] <+: List.finRange 8) ∧ loudC l q x) := by
    rw [Bool.eq_iff_iff, decide_eq_true_iff, pre_iff, List.any_eq_true]
    constructor
    · rintro ⟨n, hn, hc⟩
      simp only [Bool.and_eq_true, decide_eq_true_eq] at hc
      exact ⟨n, by omega, List.mem_range.1 hn, hc.1, hc.2⟩
    · rintro ⟨n, _, hn, h1, h2⟩
      exact ⟨n, List.mem_range.2 hn, by simp only [Bool.and_eq_true, decide_eq_true_eq]; exact ⟨h1, h2⟩⟩
  by_cases h : l.length ≠ 256
  · rw [if_pos h, if_pos h]
  · rw [if_neg h, if_neg h, e2]
    by_cases hb : ∃ i : Nat, i < 256 ∧ (rd l i < -32768 ∨ 32768 ≤ rd l i)
    · rw [if_pos hb, if_pos (e1.2 hb)]
    · rw [if_neg hb, if_neg (fun hh => hb (e1.1 hh))]

theorem min_go (l : List Int) (d : Nat) : ∀ (k : Nat) (m i : Int), 0 ≤ i → i ≤ l.length → (l.length : Int) - i = d → d < k → l.length ≤ 140737488355328 → ∃ r, slices_Min_int_int.l0 k l m i = some r ∧ r ≤ m ∧ (∀ j : Int, i ≤ j → j < l.length → r ≤ rd l j) ∧ (r = m ∨ ∃ j : Int, i ≤ j ∧ j < l.length ∧ r = rd l j) := by
  induction d with
  | zero =>
    intro k m i h0 h1 hd hk hb
    obtain ⟨k, rfl⟩ : ∃ q, k = q + 1 := ⟨k - 1, by omega⟩
    refine ⟨m, by simp only [slices_Min_int_int.l0]; rw [if_neg (by omega)], by omega, fun j hj hj2 => by omega, .inl rfl⟩
  | succ d ih =>
    intro k m i h0 h1 hd hk hb
    obtain ⟨k, rfl⟩ : ∃ q, k = q + 1 := ⟨k - 1, by omega⟩
    have hw : wrap64 (i + 1) = i + 1 := by unfold wrap64; omega
    obtain ⟨r, hr, h2, h3, h4⟩ := ih k (mn m (rd l i)) (i + 1) (by omega) (by omega) (by omega) (by omega) hb
    have hm : mn m (rd l i) ≤ m ∧ mn m (rd l i) ≤ rd l i ∧ (mn m (rd l i) = m ∨ mn m (rd l i) = rd l i) := by unfold mn; split <;> omega
    refine ⟨r, ?_, by omega, fun j hj hj2 => ?_, ?_⟩
    · simp only [slices_Min_int_int.l0]; rw [if_pos (by omega), if_pos h0, hw]; exact hr
    · by_cases e : j = i
      · subst e; omega
      · exact h3 j (by omega) hj2
    · rcases h4 with h4 | ⟨j, a, b, c⟩
      · rcases hm.2.2 with h5 | h5
        · exact .inl (by omega)
        · exact .inr ⟨i, by omega, by omega, by omega⟩
      · exact .inr ⟨j, by omega, b, c⟩
theorem max_go (l : List Int) (d : Nat) : ∀ (k : Nat) (m i : Int), 0 ≤ i → i ≤ l.length → (l.length : Int) - i = d → d < k → l.length ≤ 140737488355328 → ∃ r, slices_Max_int_int.l0 k l m i = some r ∧ m ≤ r ∧ (∀ j : Int, i ≤ j → j < l.length → rd l j ≤ r) ∧ (r = m ∨ ∃ j : Int, i ≤ j ∧ j < l.length ∧ r = rd l j) := by
  induction d with
  | zero =>
    intro k m i h0 h1 hd hk hb
    obtain ⟨k, rfl⟩ : ∃ q, k = q + 1 := ⟨k - 1, by omega⟩
    refine ⟨m, by simp only [slices_Max_int_int.l0]; rw [if_neg (by omega)], by omega, fun j hj hj2 => by omega, .inl rfl⟩
  | succ d ih =>
    intro k m i h0 h1 hd hk hb
    obtain ⟨k, rfl⟩ : ∃ q, k = q + 1 := ⟨k - 1, by omega⟩
    have hw : wrap64 (i + 1) = i + 1 := by unfold wrap64; omega
    obtain ⟨r, hr, h2, h3, h4⟩ := ih k (mx m (rd l i)) (i + 1) (by omega) (by omega) (by omega) (by omega) hb
    have hm : m ≤ mx m (rd l i) ∧ rd l i ≤ mx m (rd l i) ∧ (mx m (rd l i) = m ∨ mx m (rd l i) = rd l i) := by unfold mx; split <;> omega
    refine ⟨r, ?_, by omega, fun j hj hj2 => ?_, ?_⟩
    · simp only [slices_Max_int_int.l0]; rw [if_pos (by omega), if_pos h0, hw]; exact hr
    · by_cases e : j = i
      · subst e; omega
      · exact h3 j (by omega) hj2
    · rcases h4 with h4 | ⟨j, a, b, c⟩
      · rcases hm.2.2 with h5 | h5
        · exact .inl (by omega)
        · exact .inr ⟨i, by omega, by omega, by omega⟩
      · exact .inr ⟨j, by omega, b, c⟩

theorem min_f (l : List Int) (h : l.length = 256) : ∃ k r, slices_Min_int_int.f k l = some r ∧ (∀ j : Int, 0 ≤ j → j < 256 → r ≤ rd l j) ∧ ∃ j : Int, 0 ≤ j ∧ j < 256 ∧ r = rd l j := by
  obtain ⟨r, hr, h1, h2, h3⟩ := min_go l 255 256 (rd l 0) 1 (by omega) (by omega) (by omega) (by omega) (by omega)
  refine ⟨256, r, by unfold slices_Min_int_int.f; rw [if_neg (by omega), if_pos (by omega)]; exact hr, fun j a b => ?_, ?_⟩
  · by_cases e : j = 0
    · subst e; exact h1
    · exact h2 j (by omega) (by omega)
  · rcases h3 with h3 | ⟨j, a, b, c⟩
    · exact ⟨0, by omega, by omega, h3⟩
    · exact ⟨j, by omega, by omega, c⟩
theorem max_f (l : List Int) (h : l.length = 256) : ∃ k r, slices_Max_int_int.f k l = some r ∧ (∀ j : Int, 0 ≤ j → j < 256 → rd l j ≤ r) ∧ ∃ j : Int, 0 ≤ j ∧ j < 256 ∧ r = rd l j := by
  obtain ⟨r, hr, h1, h2, h3⟩ := max_go l 255 256 (rd l 0) 1 (by omega) (by omega) (by omega) (by omega) (by omega)
  refine ⟨256, r, by unfold slices_Max_int_int.f; rw [if_neg (by omega), if_pos (by omega)]; exact hr, fun j a b => ?_, ?_⟩
  · by_cases e : j = 0
    · subst e; exact h1
    · exact h2 j (by omega) (by omega)
  · rcases h3 with h3 | ⟨j, a, b, c⟩
    · exact ⟨0, by omega, by omega, h3⟩
    · exact ⟨j, by omega, by omega, c⟩

/-- A slice of a length that is wrong. -/
theorem attack_len (A : Option Addr) (n cap : Nat) (w : World) (hn : n ≠ 256) : Calls Try.prog 4 #[.slice A n cap] w fun e w' => e = .returned (.tuple #[.bool false, .int .i64 4]) ∧ Below w.heap.size w w' := by
  have h1 : ((n : Int) == 256) = false := by rw [beq_eq_false_iff_ne]; omega
  have h2 : ((n : Int) != 256) = true := by rw [bne_iff_ne]; omega
  go_enter Try.func4, Try.ntmps4
  go_wp2
  have q2 := ((Boxed.new w 4 (.bool false)).alloc (.cells #[.int .i64 4] 23)).cell
  have q3 := (Boxed.new (w.alloc (.cells #[.bool false] 4)) 23 (.int .i64 4)).cell
  rw [World.size_alloc] at q3
  exact bodyPost_ret (v := .tuple #[.bool false, .int .i64 4]) (by simp [results, Try.results4, go_sem]) rfl ⟨rfl, ((Below.refl _ w).alloc (Nat.le_refl _) _).alloc (by simp) _⟩

set_option maxHeartbeats 1000000 in
/-- A sample that is too small. -/
theorem attack_low (A : Option Addr) (cap : Nat) (w : World) (mn : Int) (hmn : ∀ W, Below w.heap.size w W → Calls Try.prog 8 #[.slice A 256 cap] W fun e w' => e = .returned (.int .i64 mn) ∧ Below W.heap.size W w')
    (h1 : mn < -32768) : Calls Try.prog 4 #[.slice A 256 cap] w fun e w' => e = .returned (.tuple #[.bool false, .int .i64 2]) ∧ Below w.heap.size w w' := by
  have HMN := Aside0.mk hmn
  clear hmn
  go_enter Try.func4, Try.ntmps4
  go_wp2_with fail
  have B2 := (Boxed.new w 4 (.bool false)).alloc (.cells #[.int .i64 0] 23)
  have B3 := Boxed.new (w.alloc (.cells #[.bool false] 4)) 23 (.int .i64 0)
  rw [World.size_alloc] at B3
  have HB : Below w.heap.size w ((w.alloc (.cells #[.bool false] 4)).alloc (.cells #[.int .i64 0] 23)) := ((Below.refl _ w).alloc (Nat.le_refl _) _).alloc (by simp) _
  have hsz : ((w.alloc (.cells #[.bool false] 4)).alloc (.cells #[.int .i64 0] 23)).heap.size = w.heap.size + 2 := by simp
  generalize (w.alloc (.cells #[.bool false] 4)).alloc (.cells #[.int .i64 0] 23) = w1 at B2 B3 HB hsz ⊢
  refine (HMN.out w1 HB).mono ?_
  rintro e w2 ⟨rfl, hb1⟩
  have B2' := Boxed.below B2 hb1 (by omega)
  have B3' := Boxed.below B3 hb1 (by omega)
  have HB' := below_then HB HB.size hb1
  have c2 := B2'.cell
  have c3 := B3'.cell
  have f2 := B2'.frozen
  have f3 := B3'.frozen
  clear B2 B3 HB hb1 hsz
  go_wp2
  have q2 := (Boxed.other (B2'.set (.bool false)) (show w.heap.size ≠ w.heap.size + 1 by omega) (.int .i64 2)).cell
  have q3 := ((Boxed.other B3' (show w.heap.size + 1 ≠ w.heap.size by omega) (.bool false)).set (.int .i64 2)).cell
  exact bodyPost_ret (v := .tuple #[.bool false, .int .i64 2]) (by simp [results, Try.results4, go_sem, q2, q3]) rfl ⟨rfl, bset (bset HB' (Nat.le_refl _) _) (by omega) _⟩

set_option maxHeartbeats 1000000 in
/-- A sample that is too great. -/
theorem attack_high (A : Option Addr) (cap : Nat) (w : World) (mn mx : Int) (hmn : ∀ W, Below w.heap.size w W → Calls Try.prog 8 #[.slice A 256 cap] W fun e w' => e = .returned (.int .i64 mn) ∧ Below W.heap.size W w')
    (hmx : ∀ W, Below w.heap.size w W → Calls Try.prog 9 #[.slice A 256 cap] W fun e w' => e = .returned (.int .i64 mx) ∧ Below W.heap.size W w')
    (h1 : -32768 ≤ mn) (h2 : 32768 ≤ mx) : Calls Try.prog 4 #[.slice A 256 cap] w fun e w' => e = .returned (.tuple #[.bool false, .int .i64 2]) ∧ Below w.heap.size w w' := by
  have HMN := Aside0.mk hmn
  have HMX := Aside0.mk hmx
  clear hmn hmx
  have h1' : ¬ mn < -32768 := by omega
  go_enter Try.func4, Try.ntmps4
  go_wp2_with fail
  have B2 := (Boxed.new w 4 (.bool false)).alloc (.cells #[.int .i64 0] 23)
  have B3 := Boxed.new (w.alloc (.cells #[.bool false] 4)) 23 (.int .i64 0)
  rw [World.size_alloc] at B3
  have HB : Below w.heap.size w ((w.alloc (.cells #[.bool false] 4)).alloc (.cells #[.int .i64 0] 23)) := ((Below.refl _ w).alloc (Nat.le_refl _) _).alloc (by simp) _
  have hsz : ((w.alloc (.cells #[.bool false] 4)).alloc (.cells #[.int .i64 0] 23)).heap.size = w.heap.size + 2 := by simp
  generalize (w.alloc (.cells #[.bool false] 4)).alloc (.cells #[.int .i64 0] 23) = w1 at B2 B3 HB hsz ⊢
  refine (HMN.out w1 HB).mono ?_
  rintro e wm ⟨rfl, hb1⟩
  have B2m := Boxed.below B2 hb1 (by omega)
  have B3m := Boxed.below B3 hb1 (by omega)
  have HBm := below_then HB HB.size hb1
  have hszm : w.heap.size + 2 ≤ wm.heap.size := by have := hb1.size; omega
  clear B2 B3 HB hb1 hsz
  go_wp2_with fail
  refine (HMX.out _ HBm).mono ?_
  rintro e w2 ⟨rfl, hb2⟩
  have B2' := Boxed.below B2m hb2 (by omega)
  have B3' := Boxed.below B3m hb2 (by omega)
  have HB' := below_then HBm HBm.size hb2
  have c2 := B2'.cell
  have c3 := B3'.cell
  have f2 := B2'.frozen
  have f3 := B3'.frozen
  clear B2m B3m HBm hb2 hszm
  go_wp2
  have q2 := (Boxed.other (B2'.set (.bool false)) (show w.heap.size ≠ w.heap.size + 1 by omega) (.int .i64 2)).cell
  have q3 := ((Boxed.other B3' (show w.heap.size + 1 ≠ w.heap.size by omega) (.bool false)).set (.int .i64 2)).cell
  exact bodyPost_ret (v := .tuple #[.bool false, .int .i64 2]) (by simp [results, Try.results4, go_sem, q2, q3]) rfl ⟨rfl, bset (bset HB' (Nat.le_refl _) _) (by omega) _⟩

/-- **pick.Attack, for every slice that is read.** -/
theorem pick_Attack.calls (A0 : Option Addr) (c0 : Nat) (l0 : List Int) (r1 : Bool) (r2 : Int) (w : World) (hr0 : Kd.C (Kd.int .i64) w A0 l0.length l0) (hc0 : l0.length ≤ c0) (h : pick_Attack.f l0 = some (r1, r2)) :
    Calls Try.prog 4 #[.slice A0 l0.length c0] w fun e w' => e = .returned (.tuple #[.bool r1, .int .i64 r2]) ∧ Below w.heap.size w w' := by
  classical
  have hV : (r1, r2) = attackV l0 := (Option.some.inj h).symm
  clear h
  have hbelow : ∀ W, Below w.heap.size w W → Kd.C (Kd.int .i64) W A0 l0.length l0 := fun W hb => Kd.C_below hr0 hb
  rw [attackV_eq] at hV
  by_cases hl : l0.length = 256
  · rw [if_neg (by omega)] at hV
    obtain ⟨k1, mn, hm1, hm2, jm, hm3, hm4, hm5⟩ := min_f l0 hl
    obtain ⟨k2, mx, hx1, hx2, jx, hx3, hx4, hx5⟩ := max_f l0 hl
    have hmn : ∀ W, Below w.heap.size w W → Calls Try.prog 8 #[.slice A0 256 c0] W fun e w' => e = .returned (.int .i64 mn) ∧ Below W.heap.size W w' := fun W hb => by
      have := slices_Min_int_int.calls k1 A0 c0 l0 mn W (hbelow W hb) hc0 hm1
      rwa [hl] at this
    have hmx : ∀ W, Below w.heap.size w W → Calls Try.prog 9 #[.slice A0 256 c0] W fun e w' => e = .returned (.int .i64 mx) ∧ Below W.heap.size W w' := fun W hb => by
      have := slices_Max_int_int.calls k2 A0 c0 l0 mx W (hbelow W hb) hc0 hx1
      rwa [hl] at this
    rw [hl]
    by_cases hbad : ∃ i : Nat, i < 256 ∧ (rd l0 i < -32768 ∨ 32768 ≤ rd l0 i)
    · rw [if_pos hbad] at hV
      obtain ⟨rfl, rfl⟩ := Prod.mk.inj hV
      by_cases h1 : mn < -32768
      · exact attack_low A0 c0 w mn hmn h1
      · refine attack_high A0 c0 w mn mx hmn hmx (by omega) ?_
        obtain ⟨i, hi, hb | hb⟩ := hbad
        · have := hm2 i (by omega) (by omega); omega
        · have := hx2 i (by omega) (by omega); omega
    · rw [if_neg hbad] at hV
      have hrg : ∀ i : Int, -32768 ≤ rd l0 i ∧ rd l0 i ≤ 32767 := fun i => by
        by_cases hi : i.toNat < 256
        · have e : rd l0 i = rd l0 (i.toNat : Int) := by unfold rd; rw [Int.toNat_natCast]
          rw [e]
          by_cases ha : rd l0 (i.toNat : Int) < -32768
          · exact absurd ⟨i.toNat, hi, .inl ha⟩ hbad
          · by_cases hb2 : 32768 ≤ rd l0 (i.toNat : Int)
            · exact absurd ⟨i.toNat, hi, .inr hb2⟩ hbad
            · omega
        · have e : rd l0 i = 0 := by unfold rd; rw [List.getD_eq_getElem?_getD, List.getElem?_eq_none (by omega)]; rfl
          rw [e]; omega
      obtain ⟨ad, rfl, hcell⟩ : ∃ ad, A0 = some ad ∧ ∀ i : Nat, i < 256 → w.cell? (ad.add i) = some (.int .i64 (rd l0 i)) := by
        obtain ⟨ad, e, _⟩ := Kd.at_int hr0 0 (by omega) (by omega)
        refine ⟨ad, e, fun i hi => ?_⟩
        obtain ⟨ad', e', h'⟩ := Kd.at_int hr0 (i : Int) (by omega) (by omega)
        rw [e] at e'
        cases e'
        simpa using h'
      have hspot : ad = ⟨ad.block, ad.off, none⟩ := by
        have h0 := hcell 0 (by omega)
        obtain ⟨b, o, s⟩ := ad
        cases s with
        | none => rfl
        | some q => simp [Addr.add, World.cell?] at h0; split at h0 <;> simp at h0
      rw [hspot] at hcell hmn hmx ⊢
      have hc : ∀ i : Nat, i < 256 → w.cell? ⟨ad.block, ad.off + i, none⟩ = some (.int .i64 (rd l0 i)) := fun i hi => by
        rw [← Addr.add_mid]; exact hcell i hi
      have hb : ad.block < w.heap.size := World.block_lt_of_cell? w ⟨ad.block, ad.off + 0, none⟩ (hc 0 (by omega))
      refine (callsIn_wide.1 (attack_walk ad.block ad.off c0 l0 w hl (by omega) hb hrg hc mn mx hmn hmx (by have := hrg jm; omega) (by have := hrg jx; omega))).mono ?_
      rintro e w' ⟨hB, ⟨rfl, q, x, hq, hx⟩ | ⟨rfl, hno⟩⟩
      · obtain ⟨rfl, rfl⟩ := Prod.mk.inj hV
        rw [decide_eq_true ⟨q, x, hq, hx⟩]
        exact ⟨rfl, hB⟩
      · obtain ⟨rfl, rfl⟩ := Prod.mk.inj hV
        rw [decide_eq_false (by rintro ⟨q, x, hq, hx⟩; exact hno q x hq hx)]
        exact ⟨rfl, hB⟩
  · rw [if_pos hl] at hV
    obtain ⟨rfl, rfl⟩ := Prod.mk.inj hV
    exact attack_len A0 l0.length c0 w hl
end Go.Proofs.Ytlnebmeccgohaaa.P
