/- (book.kind).sizes answers the list sizesL of a kind that one of the twelve books has; a kind as the plain numbers dim, low, high, plain. -/
import Derived.Test.YtchflniekbhohaaL0a0
import Derived.Test.YtchflniekbhohaaEngL
import Derived.Outline

/- (book.kind).sizes answers the list sizesL of a kind that one of the twelve books has; a kind as the plain numbers dim, low, high, plain. -/
namespace Go.Proofs.Ytchflniekbhohaa.P
open Go.RowKit Go.Proofs.Ytchflniekbhohaa.Eng Go.Proofs.YtchflniekbhohaaW.PrintWords Go.Proofs.YtchflniekbhohaaW.PrintLast Go.Proofs.YtchflniekbhohaaW.PrintMore
attribute [local go_sem] max2_int min2_int max_two min_two
set_option linter.unusedVariables false
set_option linter.unusedSimpArgs false

def bumpFrom (low high : Int) : Nat → List Int → List Int
 | 0, v => v
 | n + 1, v => if rd v n + 1 ≤ high then v.set n (rd v n + 1) else bumpFrom low high n (v.set n low)
def vAt (dim : Nat) (low high : Int) : Nat → List Int
 | 0 => List.replicate dim low ++ List.replicate (4 - dim) 0
 | k + 1 => bumpFrom low high dim (vAt dim low high k)
def sumV : Nat → List Int → Int
 | 0, _ => 0
 | n + 1, v => sumV n v + mx (rd v n) (-rd v n)
def szAt (dim : Nat) (low high : Int) (k : Nat) : List Int := (List.range 289).map fun j => if j < k then sumV dim (vAt dim low high j) else 0

def InV (v : List Int) : Prop := v.length = 4 ∧ ∀ i : Nat, -60 ≤ rd v i ∧ rd v i ≤ 60
theorem rd_set (v : List Int) (n : Nat) (x : Int) (i : Nat) : rd (v.set n x) i = if n = i ∧ n < v.length then x else rd v i := by
 unfold rd
 simp only [Int.toNat_natCast, List.getD_eq_getElem?_getD, List.getElem?_set]
 by_cases h : n = i
 ·subst h
  by_cases h2 : n < v.length
  ·simp [h2]
  ·simp [h2]
 ·simp [h]
theorem InV.set {v : List Int} (h : InV v) (n : Nat) (x : Int) (h0 : -60 ≤ x) (h1 : x ≤ 60) : InV (v.set n x) := by
 refine ⟨by simp [h.1], fun i => ?_⟩
 rw [rd_set]
 split
 ·exact ⟨h0, h1⟩
 ·exact h.2 i
theorem InV.bump {low high : Int} (hl : -60 ≤ low) (hh : high ≤ 60) (hl2 : low ≤ 60) : ∀ (n : Nat) {v : List Int}, InV v → InV (bumpFrom low high n v)
 | 0, _, h => h
 | n + 1, v, h => by
  unfold bumpFrom
  split
  ·exact h.set n _ (by have := h.2 n; omega) (by omega)
  ·exact InV.bump hl hh hl2 n (h.set n low hl hl2)
theorem InV.at_ {dim : Nat} {low high : Int} (hd : dim ≤ 4) (hl : -60 ≤ low) (hh : high ≤ 60) (hl2 : low ≤ 60) : ∀ k, InV (vAt dim low high k)
 | 0 => by
  refine ⟨by simp [vAt]; omega, fun i => ?_⟩
  unfold vAt rd
  rw [Int.toNat_natCast, List.getD_eq_getElem?_getD, List.getElem?_append]
  split
  ·rename_i h; rw [List.getElem?_replicate]; rw [List.length_replicate] at h; simp [h]; omega
  ·rw [List.getElem?_replicate]; split <;> simp
 | k + 1 => InV.bump hl hh hl2 dim (InV.at_ hd hl hh hl2 k)
theorem sumV_bd {v : List Int} (h : InV v) : ∀ n : Nat, 0 ≤ sumV n v ∧ sumV n v ≤ 60 * n
 | 0 => by simp [sumV]
 | n + 1 => by
  have := sumV_bd h n
  have hx := h.2 n
  have : mx (rd v n) (-rd v n) ≤ 60 ∧ 0 ≤ mx (rd v n) (-rd v n) := by unfold mx; split <;> omega
  simp only [sumV]; push_cast; omega
theorem szAt_length (dim : Nat) (low high : Int) (k : Nat) : (szAt dim low high k).length = 289 := by simp [szAt]
theorem szAt_succ (dim : Nat) (low high : Int) (k : Nat) (hk : k < 289) : (szAt dim low high k).set k (sumV dim (vAt dim low high k)) = szAt dim low high (k + 1) := by
 apply List.ext_getElem
 ·simp [szAt]
 ·intro i h1 h2
  simp only [List.length_set, szAt_length] at h1
  rw [List.getElem_set]
  simp only [szAt, List.getElem_map, List.getElem_range]
  by_cases e : k = i
  ·subst e; simp
  ·rw [if_neg e]
   by_cases h : i < k
   ·rw [if_pos h, if_pos (by omega)]
   ·rw [if_neg h, if_neg (by omega)]
theorem szAt_zero (dim : Nat) (low high : Int) : List.replicate 289 (0 : Int) = szAt dim low high 0 := by
 refine (List.eq_replicate_iff.2 ⟨szAt_length dim low high 0, fun b hb => ?_⟩).symm
 unfold szAt at hb
 obtain ⟨j, _, rfl⟩ := List.mem_map.1 hb
 rw [if_neg (by omega)]
/-- The kinds that the books have. -/
structure KindOk (dim : Nat) (low high : Int) (many : Nat) : Prop where
 d1 : 1 ≤ dim
 d4 : dim ≤ 4
 l : -60 ≤ low
 l2 : low ≤ 0
 h : high ≤ 60
 h2 : 0 ≤ high
 m : many ≤ 289

def Z289 : Array Value := (nums .u8 (List.replicate 289 0)).toArray
def Z4 : Array Value := (nums .i64 (List.replicate 4 0)).toArray
theorem zeros_run : ∀ w, (Instr.alloc 91 true (.tuple #[])).run Try.prog w = .ok (.pointer (some ⟨w.heap.size, 0, none⟩)) (w.alloc (.cells Z289 91)) := fun w => by kernel_rfl
theorem zeros4_run : ∀ w, (Instr.alloc 117 true (.tuple #[])).run Try.prog w = .ok (.pointer (some ⟨w.heap.size, 0, none⟩)) (w.alloc (.cells Z4 117)) := fun w => by kernel_rfl

set_option maxRecDepth 100000 in
set_option maxHeartbeats 2000000 in
theorem sizes_walk (dim many : Nat) (low high plain : Int) (w : World) (ok : KindOk dim low high many) (hm : ∃ k, book_kind_many.f k dim low high plain = some (many : Int)) :
  Calls Try.prog 54 #[.agg #[.int .i64 dim, .int .i64 low, .int .i64 high, .int .i64 plain]] w fun e w' => e = .returned (.agg (nums .u8 (szAt dim low high many)).toArray) ∧ Below w.heap.size w w' := by
 obtain ⟨k0, hm⟩ := hm
 have HM := Aside0.mk hm
 clear hm
 have OK := Aside0.mk ok
 have hd1 := ok.d1
 have hd4 := ok.d4
 have hd4' := ok.d4
 clear ok
 go_enter Try.func54, Try.ntmps54
 go_wp2_with (first | refine wpList_alloc_at rfl 91 rfl _ zeros_run ?_ | refine wpList_alloc_at rfl 117 rfl _ zeros4_run ?_)
 obtain ⟨w3, hw3⟩ : ∃ w3, w3 = ((w.alloc (.cells #[.int .i64 dim, .int .i64 low, .int .i64 high, .int .i64 plain] 88)).alloc (.cells Z289 91)).alloc (.cells Z4 117) := ⟨_, rfl⟩
 have k1 : IRow w3 w.heap.size 88 .i64 [(dim : Int), low, high, plain] := by rw [hw3]; exact ((IRow.new w 88 .i64 [(dim : Int), low, high, plain]).alloc _).alloc _
 have o1 : IRow w3 (w.heap.size + 1) 91 .u8 (List.replicate 289 0) := by
  rw [hw3]; have := IRow.new (w.alloc (.cells #[.int .i64 dim, .int .i64 low, .int .i64 high, .int .i64 plain] 88)) 91 .u8 (List.replicate 289 0); rw [World.size_alloc] at this; exact this.alloc _
 have v1 : IRow w3 (w.heap.size + 2) 117 .i64 (List.replicate 4 0) := by
  rw [hw3]; have := IRow.new ((w.alloc (.cells #[.int .i64 dim, .int .i64 low, .int .i64 high, .int .i64 plain] 88)).alloc (.cells Z289 91)) 117 .i64 (List.replicate 4 0); rw [World.size_alloc, World.size_alloc] at this; exact this
 have hB : Below w.heap.size w w3 := by rw [hw3]; exact (((Below.refl _ w).alloc (Nat.le_refl _) _).alloc (by simp) _).alloc (by simp; omega) _
 rw [← hw3]
 clear hw3
 -- v[i] = low
 go_loopw [12] (fun i W => ∃ k : Nat, k ≤ dim ∧ i = .int .i64 k ∧ IRow W w.heap.size 88 .i64 [(dim : Int), low, high, plain] ∧ IRow W (w.heap.size + 1) 91 .u8 (List.replicate 289 0) ∧ IRow W (w.heap.size + 2) 117 .i64 (List.replicate k low ++ List.replicate (4 - k) 0) ∧ Below w.heap.size w W)
  (fun i _ => dim - (intOf i).toNat)
 case atStart => exact ⟨0, by omega, rfl, k1, o1, v1, hB⟩
 case round =>
  clear k1 o1 v1 hB
  obtain ⟨k, hk, rfl, k1, o1, v1, hB⟩ := hrel
  by_cases hlt : k < dim
  ·have c1 := k1.cell 1 (by simp)
   have c3 := v1.cell k (by simp; omega)
   have f3 := v1.frozen k
   have r1 : rd [(dim : Int), low, high, plain] ((1 : Nat) : Int) = low := rfl
   rw [r1] at c1
   have hk4 : (k : Int) < 4 := by omega
   have e1 := v1.set k low
   have e2 : (List.replicate k low ++ List.replicate (4 - k) (0 : Int)).set k low = List.replicate (k + 1) low ++ List.replicate (4 - (k + 1)) 0 := by
    rw [List.set_append, if_neg (by simp), List.length_replicate, Nat.sub_self, show 4 - k = (4 - (k + 1)) + 1 by omega, List.replicate_succ, List.set_cons_zero, List.replicate_succ', List.append_assoc]; rfl
   rw [e2] at e1
   have E1 := Aside0.mk e1
   clear e1 e2
   go_wp2
   go_roundw
   case rel => exact ⟨k + 1, by omega, by go_num, k1.other (by omega) _, o1.other (by omega) _, E1.out, bsetAt hB (by omega) _⟩
   case measure => simp [intOf]; omega
  ·obtain rfl : k = dim := by omega
   have K1 := Aside0.mk k1
   have c0 := k1.cell 0 (by simp)
   have c1 := k1.cell 1 (by simp)
   have c2 := k1.cell 2 (by simp)
   have c3 := k1.cell 3 (by simp)
   have r0 : rd [(k : Int), low, high, plain] ((0 : Nat) : Int) = k := rfl
   have r1 : rd [(k : Int), low, high, plain] ((1 : Nat) : Int) = low := rfl
   have r2 : rd [(k : Int), low, high, plain] ((2 : Nat) : Int) = high := rfl
   have r3 : rd [(k : Int), low, high, plain] ((3 : Nat) : Int) = plain := rfl
   rw [r0] at c0
   rw [r1] at c1
   rw [r2] at c2
   rw [r3] at c3
   have O1 := Aside0.mk o1
   have V1 := Aside0.mk (show IRow wr (w.heap.size + 2) 117 .i64 (vAt k low high 0) from v1)
   have HB := Aside0.mk hB
   clear r0 r1 r2 r3 k1 o1 v1 hB
   go_wp2_with (go_at_call 53; refine (book_kind_many.calls k0 _ _ _ _ _ _ HM.out).mono ?_; rintro e w4 ⟨rfl, hd4⟩)
   have h14 : w.heap.size + 2 < wr.heap.size := V1.out.lt
   have k1 := K1.out.below hd4 (by omega)
   have o1 := O1.out.below hd4 (by omega)
   have v1 := V1.out.below hd4 (by omega)
   rw [szAt_zero k low high] at o1
   have hB := below_then HB.out HB.out.size hd4
   clear c0 c1 c2 c3 K1 O1 V1 HB hd4 h14
   go_loopw [22] (fun i W => ∃ n : Nat, n ≤ many ∧ i = .int .i64 n ∧ IRow W w.heap.size 88 .i64 [(k : Int), low, high, plain] ∧ IRow W (w.heap.size + 1) 91 .u8 (szAt k low high n) ∧ IRow W (w.heap.size + 2) 117 .i64 (vAt k low high n) ∧ Below w.heap.size w W)
    (fun i _ => many - (intOf i).toNat)
   case atStart => exact ⟨0, by omega, rfl, k1, o1, v1, hB⟩
   case round =>
    clear k1 o1 v1 hB
    obtain ⟨n, hn, rfl, k1, o1, v1, hB⟩ := hrel
    by_cases hlt : n < many
    ·have hn289 : n < 289 := by have := OK.out.m; omega
     have hv := InV.at_ hd4' OK.out.l OK.out.h (by have := OK.out.l2; omega) (high := high) n
     have K1 := Aside0.mk k1
     have c0 := k1.cell 0 (by simp)
     have c1 := k1.cell 1 (by simp)
     have c2 := k1.cell 2 (by simp)
     have r0 : rd [(k : Int), low, high, plain] ((0 : Nat) : Int) = k := rfl
     have r1 : rd [(k : Int), low, high, plain] ((1 : Nat) : Int) = low := rfl
     have r2 : rd [(k : Int), low, high, plain] ((2 : Nat) : Int) = high := rfl
     rw [r0] at c0
     rw [r1] at c1
     rw [r2] at c2
     have O1 := Aside0.mk o1
     have V1 := Aside0.mk v1
     have HV := Aside0.mk hv
     have HB := Aside0.mk hB
     clear k1 r0 r1 r2 o1 v1 hB hv
     have hd4i : (k : Int) ≤ 4 := by omega
     go_wp2
     go_loop [6, 29] (fun s i => ∃ j : Nat, j ≤ k ∧ i = .int .i64 j ∧ s = .int .i64 (sumV j (vAt k low high n))) (fun _ i => k - (intOf i).toNat)
     case atStart => exact ⟨0, by omega, rfl, rfl⟩
     case round =>
      obtain ⟨j, hj, rfl, rfl⟩ := hrel
      have hs := sumV_bd HV.out j
      by_cases hjk : j < k
      ·have hx := HV.out.2 j
       have cj := V1.out.cell j (by rw [HV.out.1]; omega)
       have E1 : Aside0 (sumV (j + 1) (vAt k low high n) = sumV j (vAt k low high n) + mx (rd (vAt k low high n) j) (-rd (vAt k low high n) j)) := ⟨rfl⟩
       have hm2 : mx (rd (vAt k low high n) j) (-rd (vAt k low high n) j) ≤ 60 ∧ 0 ≤ mx (rd (vAt k low high n) j) (-rd (vAt k low high n) j) := by unfold mx; split <;> omega
       go_wp2
       go_roundw
       case rel => exact ⟨j + 1, by omega, by go_num, by rw [E1.out]; unfold mx; rfl⟩
       case measure => simp [intOf]; omega
      ·obtain rfl : j = k := by omega
       have hs2 : sumV j (vAt j low high n) ≤ 255 := by omega
       have hn289i : (n : Int) < 289 := by omega
       have co := O1.out.cell n (by rw [szAt_length]; exact hn289)
       have fo := O1.out.frozen n
       have o2 := O1.out.set n (sumV j (vAt j low high n))
       rw [szAt_succ j low high n hn289] at o2
       have O2 := Aside0.mk o2
       clear o2
       go_wp2
       have K2 := Aside0.mk (K1.out.other (show w.heap.size ≠ w.heap.size + 1 by omega) (c := w.heap.size + 1) (i := n) (.int .u8 (sumV j (vAt j low high n))))
       have V2 := Aside0.mk (V1.out.other (show w.heap.size + 2 ≠ w.heap.size + 1 by omega) (c := w.heap.size + 1) (i := n) (.int .u8 (sumV j (vAt j low high n))))
       have HB2 := Aside0.mk (bsetAt (i := n) HB.out (show w.heap.size ≤ w.heap.size + 1 by omega) (.int .u8 (sumV j (vAt j low high n))))
       clear c0 c1 c2 co fo K1 V1 HB O1 hs hs2
       generalize wr.setCell ⟨w.heap.size + 1, n, none⟩ (.int .u8 (sumV j (vAt j low high n))) = w5 at O2 K2 V2 HB2 ⊢
       have ev : Aside0 (vAt j low high (n + 1) = bumpFrom low high j (vAt j low high n)) := ⟨rfl⟩
       generalize vAt j low high n = v0 at V2 HV ev ⊢
       go_loopw [9] (fun i W => ∃ (q : Nat) (v : List Int), q ≤ j ∧ i = .int .i64 ((q : Int) - 1) ∧ Aside0 (InV v) ∧ IRow W w.heap.size 88 .i64 [(j : Int), low, high, plain] ∧ IRow W (w.heap.size + 1) 91 .u8 (szAt j low high (n + 1)) ∧ IRow W (w.heap.size + 2) 117 .i64 v ∧ Below w.heap.size w W ∧ Aside0 (bumpFrom low high q v = bumpFrom low high j v0))
        (fun i _ => (intOf i + 1).toNat)
       case atStart => exact ⟨j, v0, Nat.le_refl _, by go_num, HV, K2.out, O2.out, V2.out, HB2.out, ⟨rfl⟩⟩
       case round =>
        clear K2 O2 V2 HB2 HV
        obtain ⟨q, v, hq, rfl, HV, k2, o2, v2, hB, EV⟩ := hrel
        have K2 := Aside0.mk k2
        have O2 := Aside0.mk o2
        have V2 := Aside0.mk v2
        have HB := Aside0.mk hB
        clear k2 o2 v2 hB
        rcases Nat.eq_zero_or_pos q with hq0 | hq0
        ·subst hq0
         go_wp2
         go_roundw
         case rel => exact ⟨n + 1, by omega, by go_num, K2.out, O2.out, (by rw [ev.out, ← EV.out]; exact V2.out), HB.out⟩
         case measure => simp [intOf]; omega
        ·obtain ⟨q, rfl⟩ : ∃ r, q = r + 1 := ⟨q - 1, by omega⟩
         have eq1 : (((q + 1 : Nat) : Int) - 1) = (q : Int) := by omega
         rw [eq1]
         clear eq1
         have hqi : (q : Int) < 4 := by omega
         have c1 := K2.out.cell 1 (by simp)
         have c2 := K2.out.cell 2 (by simp)
         have r1 : rd [(j : Int), low, high, plain] ((1 : Nat) : Int) = low := rfl
         have r2 : rd [(j : Int), low, high, plain] ((2 : Nat) : Int) = high := rfl
         rw [r1] at c1
         rw [r2] at c2
         clear r1 r2
         have cq := V2.out.cell q (by rw [HV.out.1]; omega)
         have fq := V2.out.frozen q
         have hx := HV.out.2 q
         have OKs := OK.out
         have v3 := V2.out.set q (rd v q + 1)
         have cq3 := v3.cell q (by rw [List.length_set, HV.out.1]; omega)
         have er : rd (v.set q (rd v q + 1)) (q : Int) = rd v q + 1 := by rw [rd_set, if_pos ⟨rfl, by rw [HV.out.1]; omega⟩]
         rw [er] at cq3
         have fq3 := v3.frozen q
         have K3 := Aside0.mk (K2.out.other (show w.heap.size ≠ w.heap.size + 2 by omega) (c := w.heap.size + 2) (i := q) (.int .i64 (rd v q + 1)))
         have O3 := Aside0.mk (O2.out.other (show w.heap.size + 1 ≠ w.heap.size + 2 by omega) (c := w.heap.size + 2) (i := q) (.int .i64 (rd v q + 1)))
         have HB3 := Aside0.mk (bsetAt (i := q) HB.out (show w.heap.size ≤ w.heap.size + 2 by omega) (.int .i64 (rd v q + 1)))
         have V3 := Aside0.mk v3
         have CQ3 := Aside0.mk cq3
         have FQ3 := Aside0.mk fq3
         have ER := Aside0.mk er
         clear v3 cq3 fq3 er
         go_wp2
         generalize wr.setCell ⟨w.heap.size + 2, q, none⟩ (.int .i64 (rd v q + 1)) = w6 at K3 O3 HB3 V3 CQ3 FQ3 ⊢
         clear c1 c2 cq fq K2 O2 V2 HB
         have c1 := K3.out.cell 1 (by simp)
         have c2 := K3.out.cell 2 (by simp)
         have r1 : rd [(j : Int), low, high, plain] ((1 : Nat) : Int) = low := rfl
         have r2 : rd [(j : Int), low, high, plain] ((2 : Nat) : Int) = high := rfl
         rw [r1] at c1
         rw [r2] at c2
         clear r1 r2
         have cq := CQ3.out
         have fq := FQ3.out
         by_cases hle : rd v q + 1 ≤ high
         ·have EV2 : Aside0 (v.set q (rd v q + 1) = bumpFrom low high j v0) := ⟨by rw [← EV.out, bumpFrom, if_pos hle]⟩
          go_quiet (fail)
          go_wp2
          go_roundw
          case rel => exact ⟨n + 1, by omega, by go_num, K3.out.drewN _, O3.out.drewN _, (by rw [ev.out, ← EV2.out]; exact V3.out.drewN _), below_drewN' HB3.out _⟩
          case measure => simp [intOf]; omega
         ·have EV2 : Aside0 (bumpFrom low high q (v.set q low) = bumpFrom low high j v0) := ⟨by rw [← EV.out, bumpFrom, if_neg hle]⟩
          have V4 := Aside0.mk ((V3.out.set q low))
          have HV4 := Aside0.mk (HV.out.set q low OKs.l (by have := OKs.l2; omega))
          have ess : (v.set q (rd v q + 1)).set q low = v.set q low := List.set_set ..
          rw [ess] at V4
          clear ess
          have hlt2 : high < rd v q + 1 := by omega
          go_quiet (fail)
          go_wp2
          go_roundw
          case rel => exact ⟨q, v.set q low, by omega, rfl, HV4, (K3.out.drewN _).other (by omega) _, (O3.out.drewN _).other (by omega) _, (by have := (IRow.drewN V3.out nq).set q low; rw [List.set_set] at this; exact this), bsetAt (below_drewN' HB3.out _) (by omega) _, EV2⟩
          case measure => simp [intOf]
    ·obtain rfl : n = many := by omega
     have O1 := Aside0.mk o1
     have HB := Aside0.mk hB
     clear k1 o1 v1 hB
     go_wp2
     refine bodyPost_ret (results_cell_row rfl _ _ (w.heap.size + 1) 91 (nums .u8 (szAt k low high n)).toArray (0, 0) _ rfl O1.out Try.underlying91 rfl (by kernel_rfl)) rfl ?_
     exact ⟨rfl, HB.out⟩
end Go.Proofs.Ytchflniekbhohaa.P
