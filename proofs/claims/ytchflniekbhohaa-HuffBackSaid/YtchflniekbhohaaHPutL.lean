/- bits.Put answers its list with a number's bits behind it, or an error: for every list that is read. -/
import Derived.Test.YtchflniekbhohaaL0a0
import Derived.Test.YtchflniekbhohaaEngL
import Derived.Maps.AppendAt
import Derived.Laws.BitsLemmas
import Derived.Lib.SliceRun
import Derived.Outline

/- bits.Put answers its list with a number's bits behind it, or an error: for every list that is read. -/
namespace Go.Proofs.Ytchflniekbhohaa.P
open Go.RowKit Go.Shelf Go.Proofs.Ytchflniekbhohaa.Eng Go.Proofs.YtchflniekbhohaaW.PrintWords Go.Proofs.YtchflniekbhohaaW.PrintLast Go.Proofs.YtchflniekbhohaaW.PrintMore
set_option linter.unusedVariables false
set_option linter.unusedSimpArgs false
attribute [local go_sem] Oper.semAt_some

/-- A number's bit. -/
def bitB (n : Int) (i : Nat) : Bool := decide (n / 2 ^ i % 2 = 1)
def b2i (b : Bool) : Int := if b then 1 else 0
/-- A number's bits, the highest first. -/
def bitL (n : Int) (s : Nat) : List Bool := (List.range s).map fun j => bitB n (s - 1 - j)
def bitsV (n : Int) (s : Nat) : List Int := (bitL n s).map b2i
def putV (l : List Int) (n size : Int) : Option (List Int × Int) :=
 if size < 0 then some ([], 2) else if 31 < size then some ([], 2) else if n < 0 then some ([], 2) else if n / 2 ^ size.toNat ≠ 0 then some ([], 2)
 else if l.length ≤ 1000000000 then some (l ++ bitsV n size.toNat, 0) else none
def bits_Put.f (l0 : List Int) (a1 : Int) (a2 : Int) : Option (List Int × Int) := putV l0 a1 a2

theorem and_one (x : Int) (h0 : 0 ≤ x) (h1 : x < 4294967296) : Go.bits .and .i64 x 1 = x % 2 :=
 bits_mask .i64 63 (by decide) (fun n a b => by rw [IntKind.wrap_i64]; omega) 1 (by decide) x h0 (by omega)
theorem bit_u8 (n : Int) (q : Nat) (h0 : 0 ≤ n) (h1 : n < 4294967296) : Go.bits .and .i64 (n / 2 ^ q) 1 % 256 = b2i (bitB n q) := by
 have hp : (0 : Int) < 2 ^ q := Int.pow_pos (by decide)
 have a0 : 0 ≤ n / 2 ^ q := Int.ediv_nonneg h0 (by omega)
 have a1 : n / 2 ^ q ≤ n := Int.ediv_le_self _ h0
 rw [and_one _ a0 (by omega)]
 unfold b2i bitB
 by_cases h : n / 2 ^ q % 2 = 1
 ·rw [h]; simp
 ·have : n / 2 ^ q % 2 = 0 := by omega
  rw [this]; simp
def eachS (Bs Bn : Nat) (i : Nat) : Prop := i = Bs ∨ i = Bn
set_option maxRecDepth 100000 in
set_option maxHeartbeats 1000000 in
theorem each1 (W : World) (l Bs Bn : Nat) (n : Int) (s : Nat) (J Jx : List Bool → World → Prop)
  (hY : ∀ pre x W1, J pre W1 → pre.length < s → YieldAt Fence.wide 7 Try.prog l #[.int .u8 (b2i x)] W1 fun e W' =>
   (e = .returned (.bool true) ∧ J (pre ++ [x]) W' ∧ KeepB (eachS Bs Bn) W1 W') ∨ (e = .returned (.bool false) ∧ Jx (pre ++ [x]) W'))
  (hBs : W.cell? ⟨Bs, 0, none⟩ = some (.int .i64 s)) (hBn : W.cell? ⟨Bn, 0, none⟩ = some (.int .i64 n)) (hn0 : 0 ≤ n) (hn1 : n < 4294967296) (hs : s ≤ 31) (h0 : J [] W) :
  CallsIn Fence.wide 8 Try.prog 87 #[.func (.yield l) #[] #[], .pointer (some ⟨Bs, 0, none⟩), .pointer (some ⟨Bn, 0, none⟩)] W fun e W' => (∃ v, e = .returned v) ∧
   ((∃ ys, ys = bitL n s ∧ J ys W') ∨ (∃ pre, pre <+: bitL n s ∧ Jx pre W')) := by
 have sBs : eachS Bs Bn Bs := .inl rfl
 have sBn : eachS Bs Bn Bn := .inr rfl
 have lBs : Bs < W.heap.size := World.block_lt_of_cell? W _ hBs
 have lBn : Bn < W.heap.size := World.block_lt_of_cell? W _ hBn
 refine callsIn_of_wp Try.func87 rfl trivial ?_ rfl
 simp only [Try.ntmps87, List.size_toArray, List.length_cons, List.length_nil, Nat.reduceAdd, Nat.reduceSub, Array.replicate_succ, Array.replicate_zero, List.push_toArray, List.append_toArray, List.nil_append, List.cons_append]
 gi_wp2
 gi_loopw [4] (fun i wr => ∃ k : Nat, k ≤ s ∧ i = .int .i64 ((s : Int) - 1 - k) ∧ J ((bitL n s).take k) wr ∧ KeepB (eachS Bs Bn) W wr)
  (fun i _ => (intOf i + 1).toNat)
 case atStart => exact ⟨0, Nat.zero_le _, by simp, h0, KeepB.refl _ _⟩
 case round =>
  obtain ⟨k, hk, rfl, hJs, hnx⟩ := hrel
  have hBn' := (hnx.cell (p := ⟨Bn, 0, none⟩) sBn lBn).trans hBn
  by_cases hlt : k < s
  ·obtain ⟨q, hq⟩ : ∃ q : Nat, (s : Int) - 1 - k = (q : Int) := ⟨s - 1 - k, by omega⟩
   have hq31 : q ≤ 30 := by omega
   have hqi : (q : Int) ≤ 30 := by omega
   have hq' : s - 1 - k = q := by omega
   have hQ := Aside0.mk hq
   rw [hq]
   have htk : (bitL n s).take k ++ [bitB n q] = (bitL n s).take (k + 1) := by
    rw [List.take_add_one]; simp [bitL, List.getElem?_eq_getElem, hlt, hq']
   obtain ⟨fn, tmps, assign, body, hy, hR⟩ := hY _ (bitB n q) _ hJs (by simp [bitL]; omega)
   rw [← bit_u8 n q hn0 hn1] at hy
   have HT := Aside0.mk htk
   clear hq hq' htk
   gi_wp2
   refine hR.mono ?_
   rw [HT.out]
   rintro e W3 (⟨rfl, hJ3, hk3⟩ | ⟨rfl, hJx3⟩)
   ·clear hBn'
    have HQK := Aside0.mk (hnx.trans hk3)
    clear hnx hk3
    gi_wp2
    go_roundw
    case rel => exact ⟨k + 1, by omega, by have := hQ.out; congr 1; omega, hJ3, HQK.out⟩
    case measure => simp [intOf]
   ·gi_wp2
    refine bodyPost_ret (results_none rfl _ _ _) rfl ?_
    exact ⟨⟨_, rfl⟩, .inr ⟨_, List.take_prefix _ _, hJx3⟩⟩
  ·obtain rfl : k = s := by omega
   have e1 : (k : Int) - 1 - k = -1 := by omega
   rw [e1]
   gi_wp2
   go_end0
   refine ⟨⟨_, rfl⟩, .inl ?_⟩
   have : (bitL n k).take k = bitL n k := List.take_of_length_le (by simp [bitL])
   rw [this] at hJs
   exact ⟨_, rfl, hJs⟩

theorem each_stops (w : World) (Bs Bn : Nat) (n : Int) (s : Nat) (hn0 : 0 ≤ n) (hn1 : n < 4294967296) (hs : s ≤ 31)
  (hBs : w.cell? ⟨Bs, 0, none⟩ = some (.int .i64 s)) (hBn : w.cell? ⟨Bn, 0, none⟩ = some (.int .i64 n)) :
  SeqStopsK Fence.wide 8 Try.prog 87 #[.pointer (some ⟨Bs, 0, none⟩), .pointer (some ⟨Bn, 0, none⟩)] (fun x : Bool => #[Value.int .u8 (b2i x)]) (KeepB (eachS Bs Bn)) (fun ys => ys = bitL n s) (fun pre => pre <+: bitL n s) s w := by
 intro l J Jx W hW hJ hJx hY h0
 have lBs : Bs < w.heap.size := World.block_lt_of_cell? w _ hBs
 have lBn : Bn < w.heap.size := World.block_lt_of_cell? w _ hBn
 exact each1 W l Bs Bn n s J Jx hY ((hW.cell (p := ⟨Bs, 0, none⟩) lBs).trans hBs) ((hW.cell (p := ⟨Bn, 0, none⟩) lBn).trans hBn) hn0 hn1 hs h0

theorem bytes_info : (Try.prog.info? 5).map (fun i => (i.zero, i.size, i.bytes)) = some (some (.int .u8 0), 1, 1) := by kernel_rfl
theorem nums_snoc (k : IntKind) (xs : List Int) (y : Int) : nums k xs ++ [.int k y] = nums k (xs ++ [y]) := by simp [nums]

/-- What AppendSeq's rounds keep: its box, the row that grows, the iterator's boxes, what lay ahead. -/
def SeqI (w0 : World) (n0 B Bs Bn s : Nat) (n : Int) (xs : List Int) (pre : List Bool) (W : World) : Prop :=
 (∃ v, Boxed W B 22 v ∧ W.ownsRow n0 5 1 v (xs ++ pre.map b2i).length (nums .u8 (xs ++ pre.map b2i)) ∧ True) ∧ Boxed W Bs 3 (.int .i64 s) ∧ Boxed W Bn 3 (.int .i64 n) ∧ Below n0 w0 W

set_option maxRecDepth 100000 in
set_option maxHeartbeats 1000000 in
theorem appendSeq_walk (w0 w : World) (n0 Bs Bn s : Nat) (n : Int) (A : Option Addr) (c : Nat) (xs : List Int) (hn0 : 0 ≤ n) (hn1 : n < 4294967296) (hs : s ≤ 31) (hxs : xs.length ≤ 1000000000) (hn00 : n0 ≤ w0.heap.size)
  (hb : Below n0 w0 w) (hle : n0 ≤ w.heap.size) (ho : w.ownsRow n0 5 1 (.slice A xs.length c) xs.length (nums .u8 xs)) (hBs : Boxed w Bs 3 (.int .i64 s)) (hBn : Boxed w Bn 3 (.int .i64 n)) :
  CallsIn Fence.wide 9 Try.prog 65 #[.slice A xs.length c, .func (.func 87) #[] #[.pointer (some ⟨Bs, 0, none⟩), .pointer (some ⟨Bn, 0, none⟩)]] w fun e w' =>
   ∃ v, e = .returned v ∧ w'.ownsRow n0 5 1 v (xs ++ bitsV n s).length (nums .u8 (xs ++ bitsV n s)) ∧ Below n0 w0 w' := by
 refine callsIn_of_wp_marks Try.func65 rfl trivial ?_ rfl
 simp only [Try.ntmps65, List.size_toArray, List.length_cons, List.length_nil, Nat.reduceAdd, Nat.reduceSub, Array.replicate_succ, Array.replicate_zero, List.push_toArray, List.append_toArray, List.nil_append, List.cons_append]
 gi_wp2
 have hlt1 := hBs.lt
 have hlt2 := hBn.lt
 have hw0 := hb.size
 have H0 : SeqI w0 n0 w.heap.size Bs Bn s n xs [] (w.alloc (.cells #[.slice A xs.length c] 22)) := ⟨⟨_, Boxed.new _ _ _, by simpa using ho.alloc _, trivial⟩, hBs.alloc _, hBn.alloc _, hb.alloc hle _⟩
 have sz : (w.alloc (.cells #[.slice A xs.length c] 22)).heap.size = w.heap.size + 1 := by simp
 have bS : Boxed (w.alloc (.cells #[.slice A xs.length c] 22)) Bs 3 (.int .i64 s) := hBs.alloc _
 have bN : Boxed (w.alloc (.cells #[.slice A xs.length c] 22)) Bn 3 (.int .i64 n) := hBn.alloc _
 generalize w.heap.size = B at H0 sz hlt1 hlt2 hle hw0 ⊢
 generalize w.alloc (.cells #[.slice A xs.length c] 22) = w1 at H0 sz bS bN ⊢
 refine wpIn_rangeFunc_ownG rfl (by omega) (gf := 87) (lb := #[.pointer (some ⟨Bs, 0, none⟩), .pointer (some ⟨Bn, 0, none⟩)]) rfl trivial (enters_of Try.func87 (by kernel_rfl) rfl)
  (each_stops w1 Bs Bn n s hn0 hn1 hs bS.cell bN.cell) keepK_t (keepK_b (S := eachS Bs Bn) (by rintro i (rfl | rfl) <;> omega)) (Below.refl _ _) (fun _ => rfl)
  (SeqI w0 n0 B Bs Bn s n xs) (fun _ _ _ => False)
  ((Own.from (holdsRow_own n0 B 22 5 1 (fun pre : List Bool => (xs ++ pre.map b2i).length) (fun pre => nums .u8 (xs ++ pre.map b2i)) (fun _ _ => True)) _).and ((Own.from (boxed_own _ _ fun _ => .int .i64 s) _).and ((Own.from (boxed_own _ _ fun _ => .int .i64 n) _).and (ownFrom_below hn00 (by omega)))))
  (fun _ _ _ _ _ hs _ _ => hs) H0 ?a1 ?assign ?body ?done ?stop
 case assign =>
  intro l x W K hK
  gi_wp2
  exact hK
 case body =>
  rintro lp pre x W ⟨⟨v, hv, hrow, -⟩, cS, cN, hB⟩ hlen
  obtain ⟨i0, hi, hz0, hz1, hz2⟩ := info_parts bytes_info
  have hpl : (xs ++ pre.map b2i).length ≤ 1000000031 := by simp; omega
  have nS : some Bs ≠ v.ownBlock := cS.not_row (by decide) hrow
  have nN : some Bn ≠ v.ownBlock := cN.not_row (by decide) hrow
  have hvc := hv.cell
  have hnW : n0 ≤ W.heap.size := Nat.le_trans hle (Nat.le_of_lt hv.lt)
  have NS := Aside0.mk nS
  have NN := Aside0.mk nN
  clear nS nN bS bN H0
  gi_wp2_with (gi_at_builtin; refine wpListIn_append_own _ rfl _ _ 22 rfl n0 5 i0 (.int .u8 0) 1 1 Try.underlying22 hi hz0 hz1 hz2 rfl (by decide) _ _ _ rfl (hrow.alloc _) ⟨W.heap.size, 0, none⟩ 1 1 [.int .u8 (b2i x)] rfl rfl (cell_one_new _ _ _) (by simp [Value.oneCell']) (by unfold maxLen; omega) (by omega) (by simp; omega) ?_; intro v' w1' hown' hgrow _; obtain ⟨g', cap', rfl⟩ := ownsRow_succ hown'; obtain ⟨hv1, hv2, hr2, hk2, hb2⟩ := hv.appended (by decide) hrow hnW hle hown' hgrow; have hc1 := hv1.cell; have hf1 := hv1.frozen; have HG := Aside0.mk hgrow; clear hgrow)
  have nB : ¬ eachS Bs Bn B := by rintro (h | h) <;> omega
  have hrw : nums .u8 (xs ++ pre.map b2i) ++ [.int .u8 (b2i x)] = nums .u8 (xs ++ (pre ++ [x]).map b2i) := by rw [nums_snoc]; simp
  have hrl : (xs ++ (pre ++ [x]).map b2i).length = xs.length + pre.length + 1 := by simp; omega
  rw [hrw] at hr2
  simp only [List.length_append, List.length_map] at hv2 hk2 hb2
  have el : (xs ++ pre.map b2i).length = xs.length + pre.length := by simp
  rw [el] at hr2
  refine ⟨hk2.from _, (((KeepB.refl _ _).alloc _).grown HG.out ?_).setCell _ _ nB, ⟨⟨_, hv2, by rw [hrl]; exact hr2, trivial⟩, ((cS.alloc _).kept HG.out NS.out).other (by omega) _, ((cN.alloc _).kept HG.out NN.out).other (by omega) _, hB.trans hb2⟩⟩
  rintro k hk (rfl | rfl)
  ·exact NS.out hk.symm
  ·exact NN.out hk.symm
 case done =>
  rintro D ys W hD rfl ⟨⟨v, hv, hrow, -⟩, cS, cN, hB⟩ hK
  have hvc := hv.cell
  have HM : Aside0 ((xs ++ bitsV n s).length = (xs ++ (bitL n s).map b2i).length) := ⟨rfl⟩
  generalize (xs ++ (bitL n s).map b2i).length = m at hrow HM
  obtain ⟨A2, c2, hv2⟩ : ∃ A2 c2, v = .slice A2 m c2 := by
   rcases hrow.2 with ⟨rfl, h0⟩ | ⟨g, cap, _, rfl, _⟩
   ·exact ⟨none, 0, by rw [h0]⟩
   ·exact ⟨_, _, rfl⟩
  subst hv2
  have HK := Aside0.mk hK
  have HR := Aside0.mk hrow
  clear hK hrow bS bN H0
  gi_wp2
  refine ⟨by simp, .inl ⟨_, _, rfl, run_takeDeferred HK.out, ?_⟩⟩
  rw [HM.out]
  exact ⟨_, results_tmp rfl _ _ _, _, rfl, ownsRow_putObj HR.out _ HK.out rfl, hB.trans (belowK_b (w := w0) hn00 W D _ _ (by omega) HK.out rfl rfl)⟩
 case stop =>
  rintro D c pre W hD _ h _
  exact h.elim

set_option maxHeartbeats 1000000 in
theorem each_mk (n s : Int) (w : World) : Calls Try.prog 67 #[.int .i64 n, .int .i64 s] w fun e w' => e = .returned (.func (.func 87) #[] #[.pointer (some ⟨w.heap.size + 1, 0, none⟩), .pointer (some ⟨w.heap.size, 0, none⟩)]) ∧ w' = (w.alloc (.cells #[.int .i64 n] 3)).alloc (.cells #[.int .i64 s] 3) := by
 go_enter Try.func67, Try.ntmps67
 go_wp2
 go_ret
 exact ⟨rfl, rfl⟩

theorem reads_nil_len {W : World} {k : IntKind} {m : Nat} {ys : List Int} (h : ReadsInt W k none m ys) : ys = [] := by
 have h1 := h.1
 by_cases hm : 0 < m
 ·obtain ⟨ad, e, _⟩ := h.2.2 hm
  cases e
 ·exact List.eq_nil_of_length_eq_zero (by omega)
set_option maxHeartbeats 1000000 in
theorem clone_calls (A : Option Addr) (c : Nat) (xs : List Int) (w : World) (hr : Kd.C (Kd.int .u8) w A xs.length xs) (hl : xs.length ≤ 1000000000) :
  Calls Try.prog 66 #[.slice A xs.length c] w fun e w' => ∃ A2 c2, e = .returned (.slice A2 xs.length c2) ∧ w'.ownsRow w.heap.size 5 1 (.slice A2 xs.length c2) xs.length (nums .u8 xs) ∧ Below w.heap.size w w' := by
 have hr1 : ReadsInt w .u8 A xs.length xs := Kd.reads_of_C (d := (0 : Int)) hr
 cases A with
 | none =>
  obtain rfl := reads_nil_len hr1
  have hn := fun (w : World) (n' c' : Nat) => Go.Lib.run_eql_slice_nil (P := Try.prog) w 22 5 none 0 c n' c' Try.underlying22
  clear hr hr1
  go_enter Try.func66, Try.ntmps66
  go_wp2
  go_ret
  exact ⟨none, 0, rfl, World.ownsRow_nil w _ _ _, Below.refl _ _⟩
 | some ad =>
  have HR := Aside0.mk hr
  have hn := fun (w : World) (l n' c' : Nat) => Go.Lib.run_eql_slice_nil (P := Try.prog) w 22 5 (some ad) l c n' c' Try.underlying22
  have HO : Aside0 ((w.alloc (.cells #[] 5)).ownsRow w.heap.size 5 1 (.slice (some ⟨w.heap.size, 0, none⟩) 0 0) 0 (nums .u8 [])) :=
   ⟨rfl, .inr ⟨w.heap.size, 0, #[], rfl, Nat.le_refl _, World.alloc_heap_new w _, Nat.le_refl _, Nat.zero_le _, rfl, rfl⟩⟩
  clear hr hr1
  go_enter Try.func66, Try.ntmps66
  go_wp2_with (at_builtin; refine print_append_row (w0 := w) w.heap.size rfl _ _ 22 5 .u8 1 rfl Try.underlying22 bytes_info (by decide) _ [] xs _ _ _ rfl rfl HO.out (Kd.reads_of_C (d := (0 : Int)) (Kd.C_alloc HR.out _)) ((Below.refl _ _).alloc (Nat.le_refl _) _) (by simp) (by simp; omega) ?_; intro v1 w1 ho1 hb1 _ _; simp only [List.nil_append] at ho1; have HO1 := Aside0.mk ho1; have HB1 := Aside0.mk hb1; clear ho1 hb1; obtain ⟨A2, c2, rfl⟩ : ∃ A2 c2, v1 = .slice A2 xs.length c2 := by (rcases HO1.out.2 with ⟨rfl, h0⟩ | ⟨g, cap, _, rfl, _⟩; exact ⟨none, 0, by rw [h0]⟩; exact ⟨_, _, rfl⟩))
  go_ret
  exact ⟨_, _, rfl, HO1.out, HB1.out⟩

theorem box2 (W : World) (n s : Int) : Boxed ((W.alloc (.cells #[.int .i64 n] 3)).alloc (.cells #[.int .i64 s] 3)) (W.heap.size + 1) 3 (.int .i64 s) := by
 have := Boxed.new (W.alloc (.cells #[.int .i64 n] 3)) 3 (.int .i64 s); rw [World.size_alloc] at this; exact this
theorem sized_yes {s : Int} (h0 : 0 ≤ s) (h1 : s ≤ 31) : bits_sized.f s = some true := by
 unfold bits_sized.f; simp [h0, h1]
theorem sized_no {s : Int} (h : s < 0 ∨ 31 < s) : bits_sized.f s = some false := by
 unfold bits_sized.f
 by_cases h0 : s ≥ 0
 ·simp [h0]; omega
 ·simp [h0]

set_option maxRecDepth 100000 in
set_option maxHeartbeats 1000000 in
theorem put_bad (A0 : Option Addr) (c0 n0 : Nat) (n s : Int) (w : World) (h : (s < 0 ∨ 31 < s) ∨ (0 ≤ s ∧ s ≤ 31 ∧ (n < 0 ∨ (0 ≤ n ∧ n / 2 ^ s.toNat ≠ 0)))) :
  Calls Try.prog 35 #[.slice A0 n0 c0, .int .i64 n, .int .i64 s] w fun e w' => e = .returned (.tuple #[.slice none 0 0, .int .i64 2]) ∧ ∃ d, w' = w.drewN d := by
 rcases h with h | ⟨h0, h1, h | ⟨h2, h3⟩⟩
 ·have HS := Aside0.mk (sized_no h)
  clear h
  go_enter Try.func35, Try.ntmps35
  go_wp2_with (go_at_call 64; refine (bits_sized.calls _ _ _ HS.out).mono ?_; rintro e w' ⟨rfl, hw⟩)
  go_ret2
  exact ⟨rfl, by obtain ⟨nd, rfl⟩ := hw; exact ⟨nd, rfl⟩⟩
 ·have HS := Aside0.mk (sized_yes h0 h1)
  go_enter Try.func35, Try.ntmps35
  go_wp2_with (go_at_call 64; refine (bits_sized.calls _ _ _ HS.out).mono ?_; rintro e w' ⟨rfl, hw⟩)
  go_ret2
  exact ⟨rfl, by obtain ⟨nd, rfl⟩ := hw; exact ⟨nd, rfl⟩⟩
 ·have HS := Aside0.mk (sized_yes h0 h1)
  have h2' : ¬ n < 0 := by omega
  have h3b : (n / 2 ^ s.toNat != 0) = true := bne_iff_ne.mpr h3
  clear h3
  go_enter Try.func35, Try.ntmps35
  go_wp2_with (go_at_call 64; refine (bits_sized.calls _ _ _ HS.out).mono ?_; rintro e w' ⟨rfl, hw⟩)
  go_ret2
  exact ⟨rfl, by obtain ⟨nd, rfl⟩ := hw; exact ⟨nd, rfl⟩⟩

set_option maxRecDepth 100000 in
set_option maxHeartbeats 1000000 in
theorem put_good (A0 : Option Addr) (c0 : Nat) (xs : List Int) (n : Int) (s : Nat) (w : World) (hr : Kd.C (Kd.int .u8) w A0 xs.length xs) (hl : xs.length ≤ 1000000000) (hs : s ≤ 31) (h2 : 0 ≤ n) (h3 : n / 2 ^ s = 0) (h4 : n < 4294967296) :
  Calls Try.prog 35 #[.slice A0 xs.length c0, .int .i64 n, .int .i64 s] w fun e w' => ∃ v, e = .returned (.tuple #[v, .int .i64 0]) ∧ w'.ownsRow w.heap.size 5 1 v (xs ++ bitsV n s).length (nums .u8 (xs ++ bitsV n s)) ∧ Below w.heap.size w w' := by
 have HS := Aside0.mk (sized_yes (s := (s : Int)) (by omega) (by omega))
 have HR := Aside0.mk hr
 have h2' : ¬ n < 0 := by omega
 have h3b : (n / 2 ^ s != 0) = false := by simp [h3]
 have hsi : (s : Int) ≤ 31 := by omega
 clear h3 hr
 go_enter Try.func35, Try.ntmps35
 go_wp2_with (first
  | (go_at_call 64; refine (bits_sized.calls _ _ _ HS.out).mono ?_; rintro e w1 ⟨rfl, hw1⟩)
  | (go_at_call 66; obtain ⟨d1, rfl⟩ := hw1; refine (clone_calls A0 c0 xs _ (Kd.C_drewN HR.out _) hl).mono ?_; rintro e w2 ⟨A2, c2, rfl, ho2, hb2⟩; have HB2 := Aside0.mk ((below_drewN' (Below.refl w.heap.size w) d1).trans hb2); have HO2 := Aside0.mk ho2; clear ho2 hb2)
  | (go_at_call 67; refine (each_mk _ _ _).mono ?_; rintro e w3 ⟨rfl, rfl⟩)
  | (go_at_call 65; refine (callsIn_wide.1 (appendSeq_walk w ((w2.alloc (.cells #[.int .i64 n] 3)).alloc (.cells #[.int .i64 s] 3)) w.heap.size (w2.heap.size + 1) w2.heap.size s n A2 c2 xs h2 h4 hs hl (Nat.le_refl _) ((HB2.out.alloc HB2.out.size _).alloc (by have := HB2.out.size; simp; omega) _) (by have := HB2.out.size; simp; omega) ((HO2.out.alloc _).alloc _) (box2 w2 n s) ((Boxed.new _ _ _).alloc _))).mono ?_; rintro e w4 ⟨v, rfl, ho4, hb4⟩; have HO4 := Aside0.mk ho4; have HB4 := Aside0.mk hb4; clear ho4 hb4))
 go_ret2
 exact ⟨_, rfl, HO4.out, HB4.out⟩

/-- **bits.Put, for every list that is read.** -/
theorem bits_Put.calls (A0 : Option Addr) (c0 : Nat) (l0 : List Int) (a1 : Int) (a2 : Int) (r1 : List Int) (r2 : Int) (w : World) (hr0 : Kd.C (Kd.int .u8) w A0 l0.length l0) (hc0 : l0.length ≤ c0) (h : bits_Put.f l0 a1 a2 = some (r1, r2)) :
  Calls Try.prog 35 #[.slice A0 l0.length c0, .int .i64 a1, .int .i64 a2] w fun e w' => ∃ v0_ : Value, e = .returned (.tuple #[v0_, .int .i64 r2]) ∧ Kd.R (Kd.int .u8) 5 w' w.heap.size (fun _ => True) v0_ r1 ∧ Below w.heap.size w w' := by
 have hV : putV l0 a1 a2 = some (r1, r2) := h
 clear h
 unfold putV at hV
 have bad : (some (([], 2) : List Int × Int) = some (r1, r2)) → ((a2 < 0 ∨ 31 < a2) ∨ (0 ≤ a2 ∧ a2 ≤ 31 ∧ (a1 < 0 ∨ (0 ≤ a1 ∧ a1 / 2 ^ a2.toNat ≠ 0)))) → Calls Try.prog 35 #[.slice A0 l0.length c0, .int .i64 a1, .int .i64 a2] w fun e w' => ∃ v0_ : Value, e = .returned (.tuple #[v0_, .int .i64 r2]) ∧ Kd.R (Kd.int .u8) 5 w' w.heap.size (fun _ => True) v0_ r1 ∧ Below w.heap.size w w' := by
  intro hV hc
  simp only [Option.some.injEq, Prod.mk.injEq] at hV
  obtain ⟨rfl, rfl⟩ := hV
  refine (put_bad A0 c0 l0.length a1 a2 w hc).mono ?_
  rintro e w' ⟨rfl, d, rfl⟩
  exact ⟨_, rfl, Kd.R_nil _ _ _ _ _, below_drewN' (Below.refl _ _) d⟩
 by_cases s0 : a2 < 0
 ·rw [if_pos s0] at hV; exact bad hV (.inl (.inl s0))
 rw [if_neg s0] at hV
 by_cases s1 : 31 < a2
 ·rw [if_pos s1] at hV; exact bad hV (.inl (.inr s1))
 rw [if_neg s1] at hV
 by_cases s2 : a1 < 0
 ·rw [if_pos s2] at hV; exact bad hV (.inr ⟨by omega, by omega, .inl s2⟩)
 rw [if_neg s2] at hV
 by_cases s3 : a1 / 2 ^ a2.toNat ≠ 0
 ·rw [if_pos s3] at hV; exact bad hV (.inr ⟨by omega, by omega, .inr ⟨by omega, s3⟩⟩)
 rw [if_neg s3] at hV
 by_cases s4 : l0.length ≤ 1000000000
 ·rw [if_pos s4] at hV
  simp only [Option.some.injEq, Prod.mk.injEq] at hV
  obtain ⟨rfl, rfl⟩ := hV
  obtain ⟨s, rfl⟩ : ∃ s : Nat, a2 = (s : Int) := ⟨a2.toNat, by omega⟩
  rw [Int.toNat_natCast] at s3 ⊢
  have s3' : a1 / 2 ^ s = 0 := by omega
  have hs : s ≤ 31 := by omega
  have h4 : a1 < 4294967296 := by
   have hp : (0 : Int) < 2 ^ s := Int.pow_pos (by decide)
   have hp2 : (2 : Int) ^ s ≤ 2147483648 := by
    have := Nat.pow_le_pow_right (n := 2) (by decide) hs
    have e : ((2 ^ s : Nat) : Int) = (2 : Int) ^ s := by push_cast; rfl
    rw [← e]; omega
   have e1 := Int.mul_ediv_add_emod a1 (2 ^ s)
   have e2 := Int.emod_lt_of_pos a1 hp
   rw [s3', Int.mul_zero] at e1
   omega
  refine (put_good A0 c0 l0 a1 s w hr0 s4 hs (by omega) s3' h4).mono ?_
  rintro e w' ⟨v, rfl, ho, hb⟩
  exact ⟨v, rfl, Kd.R_of_own ho (fun _ _ => trivial), hb⟩
 ·rw [if_neg s4] at hV; cases hV
end Go.Proofs.Ytchflniekbhohaa.P
