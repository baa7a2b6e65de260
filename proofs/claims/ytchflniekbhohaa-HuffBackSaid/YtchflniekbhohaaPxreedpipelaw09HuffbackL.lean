/- Contracts and laws of the books, each proved once: texts of this claim joined in build order. -/
import Derived.Test.YtchflniekbhohaaL0a0
import Derived.Test.YtchflniekbhohaaL3a1
import Derived.Test.YtchflniekbhohaaL6a0
import Derived.Test.YtchflniekbhohaaHFitsL
import Derived.Test.YtchflniekbhohaaHGetL
import Derived.Test.YtchflniekbhohaaHHGetL

-- PRINTED by print.py (a twelfth state) out of the translation. Not trusted: Lean checks it.
namespace Go.Proofs.Ytchflniekbhohaa.P
open Go.RowKit Go.Proofs.YtchflniekbhohaaW.PrintWords Go.Proofs.YtchflniekbhohaaW.PrintLast Go.Proofs.YtchflniekbhohaaW.PrintMore
attribute [local go_sem] max2_int min2_int max_two min_two max_three min_three max_four min_four   -- for this text's walks alone
set_option linter.unusedVariables false
set_option linter.unusedSimpArgs false

/-! ### reedpipelaw09_HuffBack: function 8 -/
mutual
def reedpipelaw09_HuffBack.j0 : Nat → Int → List Int → List Int → List Int → Int → Bool → Bool → Option (Bool)
 | 0, _, _, _, _, _, _, _ => none
 | k + 1, x0, x1, x2, x3, x4, x11, x45 => if x45 = true then (some x11) else ((book_Get.f (wrap64 ((Int.tmod (wrap64 (x0)) 11) + 1))).bind fun bt784 => (if bt784.2.2.2.2 = 0 then ((huff_Put.f k ([] : List Int) bt784.1 bt784.2.1 bt784.2.2.1 bt784.2.2.2.1 x1).bind fun bt794 => ((huff_Fits.f bt784.1 x1).bind fun bt798 => (if bt798.2 = 0 then (reedpipelaw09_HuffBack.j1 k x1 x2 x3 x4 bt794.1 bt794.2 ((bt794.2 == 0) != bt798.1) bt784.1 bt784.2.1 bt784.2.2.1 bt784.2.2.2.1) else (reedpipelaw09_HuffBack.j1 k x1 x2 x3 x4 bt794.1 bt794.2 ((bt794.2 == 0) != false) bt784.1 bt784.2.1 bt784.2.2.1 bt784.2.2.2.1)))) else (some false)))
def reedpipelaw09_HuffBack.j1 : Nat → List Int → List Int → List Int → Int → List Int → Int → Bool → Int → Int → List Int → List Int → Option (Bool)
 | 0, _, _, _, _, _, _, _, _, _, _, _ => none
 | k + 1, x1, x2, x3, x4, x14, x15, x77, x794000, x794001, x794002, x794003 => if x77 = true then (some false) else (if x15 = 0 then ((some (([] : List Int) : List Int)).bind fun y800 => (if y800.length + x14.length < 140737488355328 then ((some (y800 ++ x14 : List Int)).bind fun y803 => (if y803.length + x2.length < 140737488355328 then ((huff_Get.f (y803 ++ x2) 0 x794000 x794001 x794002 x794003).bind fun bt809 => ((huff_Cost.f k x794000 x794001 x794002 x794003 x1).bind fun bt814 => (if bt809.2.2 = 0 then ((reedpiperef06_Ints.f k bt809.1 x1).bind fun t816 => (if t816 = true then (if bt809.2.1 = (x14.length : Int) then (if bt814.2 = 0 then (if bt814.1 = (x14.length : Int) then (reedpipelaw09_HuffBack.j2 k x3 x4 x794000 x794001 x794002 x794003) else (some false)) else (some false)) else (some false)) else (some false))) else (some false)))) else (none))) else (none))) else (reedpipelaw09_HuffBack.j2 k x3 x4 x794000 x794001 x794002 x794003))
def reedpipelaw09_HuffBack.j2 : Nat → List Int → Int → Int → Int → List Int → List Int → Option (Bool)
 | 0, _, _, _, _, _, _ => none
 | k + 1, x3, x4, x794000, x794001, x794002, x794003 => (huff_Get.f x3 x4 x794000 x794001 x794002 x794003).bind fun bt817 => (if bt817.2.2 = 0 then ((huff_Put.f k ([] : List Int) x794000 x794001 x794002 x794003 bt817.1).bind fun bt822 => (if bt822.2 = 0 then (if 0 ≤ x4 then (if x4 ≤ bt817.2.1 then (if bt817.2.1 ≤ (x3.length : Int) then (some ((strOfNums bt822.1).toList == (strOfNums ((x3.take (bt817.2.1 : Int).toNat).drop (x4 : Int).toNat)).toList)) else (none)) else (none)) else (none)) else (some false))) else (if (bt817.1.length : Int) = 0 then (some (bt817.2.1 == 0)) else (some false)))
end
def reedpipelaw09_HuffBack.f (k : Nat) (a0 : Int) (l1 : List Int) (l2 : List Int) (l3 : List Int) (a4 : Int) : Option (Bool) := (reedpipelaw09_alive.f k).bind fun t783 => (if (l1.length : Int) > 10 then (reedpipelaw09_HuffBack.j0 k a0 l1 l2 l3 a4 t783 true) else (if (l2.length : Int) > 10000 then (reedpipelaw09_HuffBack.j0 k a0 l1 l2 l3 a4 t783 true) else (if (l3.length : Int) > 10000 then (reedpipelaw09_HuffBack.j0 k a0 l1 l2 l3 a4 t783 true) else (reedpipelaw09_HuffBack.j0 k a0 l1 l2 l3 a4 t783 (!t783)))))
theorem reedpipelaw09_HuffBack.mono_l : ∀ k, (∀ y0 y1 y2 y3 y4 y5 y6, LeO (reedpipelaw09_HuffBack.j0 k y0 y1 y2 y3 y4 y5 y6) (reedpipelaw09_HuffBack.j0 (k + 1) y0 y1 y2 y3 y4 y5 y6)) ∧ (∀ y0 y1 y2 y3 y4 y5 y6 y7 y8 y9 y10, LeO (reedpipelaw09_HuffBack.j1 k y0 y1 y2 y3 y4 y5 y6 y7 y8 y9 y10) (reedpipelaw09_HuffBack.j1 (k + 1) y0 y1 y2 y3 y4 y5 y6 y7 y8 y9 y10)) ∧ (∀ y0 y1 y2 y3 y4 y5, LeO (reedpipelaw09_HuffBack.j2 k y0 y1 y2 y3 y4 y5) (reedpipelaw09_HuffBack.j2 (k + 1) y0 y1 y2 y3 y4 y5))
 | 0 => ⟨fun _ _ _ _ _ _ _ r h => by simp [reedpipelaw09_HuffBack.j0] at h, fun _ _ _ _ _ _ _ _ _ _ _ r h => by simp [reedpipelaw09_HuffBack.j1] at h, fun _ _ _ _ _ _ r h => by simp [reedpipelaw09_HuffBack.j2] at h⟩
 | k + 1 => by
  obtain ⟨ih0, ih1, ih2⟩ := reedpipelaw09_HuffBack.mono_l k
  refine ⟨?_, ?_, ?_⟩
  ·intro y0 y1 y2 y3 y4 y5 y6
   unfold reedpipelaw09_HuffBack.j0
   repeat' first
   | (with_reducible exact ih0 _ _ _ _ _ _ _)
   | (with_reducible exact ih1 _ _ _ _ _ _ _ _ _ _ _)
   | (with_reducible exact ih2 _ _ _ _ _ _)
   | (with_reducible exact huff_Cost.mono _ _ _ _ _ _)
   | (with_reducible exact huff_Put.mono _ _ _ _ _ _ _)
   | (with_reducible exact reedpipelaw09_alive.mono _)
   | (with_reducible exact reedpiperef06_Ints.mono _ _ _)
   | (with_reducible exact LeO.refl _)
   | (with_reducible exact LeO.none _)
   | (with_reducible refine LeO.ite ?_ ?_)
   | (with_reducible refine LeO.bind ?_ (fun _ => ?_))
   | exact ih0 _ _ _ _ _ _ _
   | exact ih1 _ _ _ _ _ _ _ _ _ _ _
   | exact ih2 _ _ _ _ _ _
   | exact huff_Cost.mono _ _ _ _ _ _
   | exact huff_Put.mono _ _ _ _ _ _ _
   | exact reedpipelaw09_alive.mono _
   | exact reedpiperef06_Ints.mono _ _ _
   | exact LeO.none _
   | refine LeO.ite ?_ ?_
   | refine LeO.bind ?_ (fun _ => ?_)
  ·intro y0 y1 y2 y3 y4 y5 y6 y7 y8 y9 y10
   unfold reedpipelaw09_HuffBack.j1
   repeat' first
   | (with_reducible exact ih0 _ _ _ _ _ _ _)
   | (with_reducible exact ih1 _ _ _ _ _ _ _ _ _ _ _)
   | (with_reducible exact ih2 _ _ _ _ _ _)
   | (with_reducible exact huff_Cost.mono _ _ _ _ _ _)
   | (with_reducible exact huff_Put.mono _ _ _ _ _ _ _)
   | (with_reducible exact reedpipelaw09_alive.mono _)
   | (with_reducible exact reedpiperef06_Ints.mono _ _ _)
   | (with_reducible exact LeO.refl _)
   | (with_reducible exact LeO.none _)
   | (with_reducible refine LeO.ite ?_ ?_)
   | (with_reducible refine LeO.bind ?_ (fun _ => ?_))
   | exact ih0 _ _ _ _ _ _ _
   | exact ih1 _ _ _ _ _ _ _ _ _ _ _
   | exact ih2 _ _ _ _ _ _
   | exact huff_Cost.mono _ _ _ _ _ _
   | exact huff_Put.mono _ _ _ _ _ _ _
   | exact reedpipelaw09_alive.mono _
   | exact reedpiperef06_Ints.mono _ _ _
   | exact LeO.none _
   | refine LeO.ite ?_ ?_
   | refine LeO.bind ?_ (fun _ => ?_)
  ·intro y0 y1 y2 y3 y4 y5
   unfold reedpipelaw09_HuffBack.j2
   repeat' first
   | (with_reducible exact ih0 _ _ _ _ _ _ _)
   | (with_reducible exact ih1 _ _ _ _ _ _ _ _ _ _ _)
   | (with_reducible exact ih2 _ _ _ _ _ _)
   | (with_reducible exact huff_Cost.mono _ _ _ _ _ _)
   | (with_reducible exact huff_Put.mono _ _ _ _ _ _ _)
   | (with_reducible exact reedpipelaw09_alive.mono _)
   | (with_reducible exact reedpiperef06_Ints.mono _ _ _)
   | (with_reducible exact LeO.refl _)
   | (with_reducible exact LeO.none _)
   | (with_reducible refine LeO.ite ?_ ?_)
   | (with_reducible refine LeO.bind ?_ (fun _ => ?_))
   | exact ih0 _ _ _ _ _ _ _
   | exact ih1 _ _ _ _ _ _ _ _ _ _ _
   | exact ih2 _ _ _ _ _ _
   | exact huff_Cost.mono _ _ _ _ _ _
   | exact huff_Put.mono _ _ _ _ _ _ _
   | exact reedpipelaw09_alive.mono _
   | exact reedpiperef06_Ints.mono _ _ _
   | exact LeO.none _
   | refine LeO.ite ?_ ?_
   | refine LeO.bind ?_ (fun _ => ?_)
theorem reedpipelaw09_HuffBack.mono : ∀ a0 a1 a2 a3 a4 k, LeO (reedpipelaw09_HuffBack.f k a0 a1 a2 a3 a4) (reedpipelaw09_HuffBack.f (k + 1) a0 a1 a2 a3 a4) := by
 intro a0 a1 a2 a3 a4 k
 obtain ⟨ih0, ih1, ih2⟩ := reedpipelaw09_HuffBack.mono_l k
 unfold reedpipelaw09_HuffBack.f
 repeat' first
   | (with_reducible exact ih0 _ _ _ _ _ _ _)
   | (with_reducible exact ih1 _ _ _ _ _ _ _ _ _ _ _)
   | (with_reducible exact ih2 _ _ _ _ _ _)
   | (with_reducible exact huff_Cost.mono _ _ _ _ _ _)
   | (with_reducible exact huff_Put.mono _ _ _ _ _ _ _)
   | (with_reducible exact reedpipelaw09_alive.mono _)
   | (with_reducible exact reedpiperef06_Ints.mono _ _ _)
   | (with_reducible exact LeO.refl _)
   | (with_reducible exact LeO.none _)
   | (with_reducible refine LeO.ite ?_ ?_)
   | (with_reducible refine LeO.bind ?_ (fun _ => ?_))
   | exact ih0 _ _ _ _ _ _ _
   | exact ih1 _ _ _ _ _ _ _ _ _ _ _
   | exact ih2 _ _ _ _ _ _
   | exact huff_Cost.mono _ _ _ _ _ _
   | exact huff_Put.mono _ _ _ _ _ _ _
   | exact reedpipelaw09_alive.mono _
   | exact reedpiperef06_Ints.mono _ _ _
   | exact LeO.none _
   | refine LeO.ite ?_ ?_
   | refine LeO.bind ?_ (fun _ => ?_)
def reedpipelaw09_HuffBack.T12 : Bool × List (List Nat × List Nat) := (true, [([], []), ([], []), ([0, 1], [0, 1]), ([], []), ([2, 3, 2], [2, 3]), ([], []), ([4, 5, 4], [4, 5]), ([6], [6]), ([7], [7]), ([7], [7]), ([7], [7]), ([8, 6, 0, 1, 2, 3, 4, 5, 6, 7, 8], [8]), ([9, 11, 0, 1, 2, 3, 4, 5, 6, 7, 8, 9, 11], [9]), ([10, 12, 0, 1, 2, 3, 4, 5, 6, 7, 8, 9, 10, 11, 12], [10])])
def reedpipelaw09_HuffBack.B12 : List Nat := [0, 0, 3, 0, 15, 0, 63, 127, 255, 255, 255, 511, 3071, 8191]
theorem reedpipelaw09_HuffBack.tab12 : rtab .any (opsOf Try.f8 12) = reedpipelaw09_HuffBack.T12 := by kernel_rfl
theorem reedpipelaw09_HuffBack.bits12 : waitsOk reedpipelaw09_HuffBack.T12.2 reedpipelaw09_HuffBack.B12 = true := by kernel_rfl
def reedpipelaw09_HuffBack.T20 : Bool × List (List Nat × List Nat) := (true, [([], []), ([0], [0]), ([1], [1]), ([2], [2]), ([3, 2], [2, 3]), ([2], [2]), ([2], [2]), ([2], [2]), ([5, 6, 7, 2], [2, 5, 6, 7]), ([8, 2], [2, 8]), ([4, 9, 2], [2, 4, 9]), ([2, 10], [2, 10]), ([11, 2, 0, 1, 2, 3, 4, 5, 6, 7, 8, 9, 10, 11], [11])])
def reedpipelaw09_HuffBack.B20 : List Nat := [0, 1, 3, 7, 15, 7, 7, 7, 231, 487, 1023, 2047, 4095]
theorem reedpipelaw09_HuffBack.tab20 : rtab .any (opsOf Try.f8 20) = reedpipelaw09_HuffBack.T20 := by kernel_rfl
theorem reedpipelaw09_HuffBack.bits20 : waitsOk reedpipelaw09_HuffBack.T20.2 reedpipelaw09_HuffBack.B20 = true := by kernel_rfl
set_option maxHeartbeats 8000000 in
set_option maxRecDepth 100000 in
theorem reedpipelaw09_HuffBack.calls (k : Nat) (a0 : Int) (A1 : Option Addr) (c1 : Nat) (l1 : List Int) (A2 : Option Addr) (c2 : Nat) (l2 : List Int) (A3 : Option Addr) (c3 : Nat) (l3 : List Int) (a4 : Int) (r : Bool) (w : World) (hr1 : Kd.C (Kd.int .i64) w A1 l1.length l1) (hc1 : l1.length ≤ c1) (hr2 : Kd.C (Kd.int .u8) w A2 l2.length l2) (hc2 : l2.length ≤ c2) (hr3 : Kd.C (Kd.int .u8) w A3 l3.length l3) (hc3 : l3.length ≤ c3) (h : reedpipelaw09_HuffBack.f k a0 l1 l2 l3 a4 = some r) (hrT : r = true) :
  Calls Try.prog 8 #[.int .u8 a0, .slice A1 l1.length c1, .slice A2 l2.length c2, .slice A3 l3.length c3, .int .i64 a4] w fun e w' => e = .returned (.bool r) ∧ Below w.heap.size w w' := by
 have hu25 := Try.underlying25
 have HR1 := Aside0.mk hr1
 have HC1 := Aside0.mk hc1
 clear hr1 hc1
 have HR2 := Aside0.mk hr2
 have HC2 := Aside0.mk hc2
 clear hr2 hc2
 have HR3 := Aside0.mk hr3
 have HC3 := Aside0.mk hc3
 clear hr3 hc3
 have HB := Aside0.mk (Below.refl w.heap.size w)
 have H : ((reedpipelaw09_alive.f k).bind fun t783 => (if (l1.length : Int) > 10 then (reedpipelaw09_HuffBack.j0 k a0 l1 l2 l3 a4 t783 true) else (if (l2.length : Int) > 10000 then (reedpipelaw09_HuffBack.j0 k a0 l1 l2 l3 a4 t783 true) else (if (l3.length : Int) > 10000 then (reedpipelaw09_HuffBack.j0 k a0 l1 l2 l3 a4 t783 true) else (reedpipelaw09_HuffBack.j0 k a0 l1 l2 l3 a4 t783 (!t783)))))) = some r := h
 clear h
 replace H := Option.bind_eq_some_iff.mp H
 obtain ⟨t783, A60, H⟩ := H
 replace H : (if (l1.length : Int) > 10 then (reedpipelaw09_HuffBack.j0 k a0 l1 l2 l3 a4 t783 true) else (if (l2.length : Int) > 10000 then (reedpipelaw09_HuffBack.j0 k a0 l1 l2 l3 a4 t783 true) else (if (l3.length : Int) > 10000 then (reedpipelaw09_HuffBack.j0 k a0 l1 l2 l3 a4 t783 true) else (reedpipelaw09_HuffBack.j0 k a0 l1 l2 l3 a4 t783 (!t783))))) = some r := H
 have A6 := Aside0.mk A60
 clear A60
 have HC7 := Aside0.mk H
 clear H
 go_enter Try.func8, Try.ntmps8
 go_upto_region 2 with (first | ((with_reducible refine gate_callee (f := 25) rfl ?_); refine goesL_ (some 28) rfl rfl Try.func25 (by kernel_rfl) rfl #[] rfl (by (try simp only [List.map_toArray, List.map_cons, List.map_nil]); first | done | rfl | (simp only [List.length_drop, List.length_take]; rfl)) ?_; (with_reducible refine (reedpipelaw09_alive.calls k  t783 _ A6.out).mono ?_); rintro e w8 ⟨rfl, hb⟩; refine ⟨_, rfl, ?_⟩; have n0_ := Aside0.mk (below_step (by repeat (first | (with_reducible first | exact HB.out | apply below_alloc | apply pw_below_drewN | apply below_drew1) | exact HB.out)) hb); clear HB; have HB := n0_; clear n0_; (try clear hb); (try clear hb2); (try clear hk); (try clear hi)))
 (try simp only [Act.put, List.setIfInBounds_toArray, List.set_cons_zero, List.set_cons_succ])
 go_cut [45] (fun v45 wc => ∃ (kq : Nat) (x45_6 : Bool), v45 = .bool x45_6 ∧ Aside0 (reedpipelaw09_HuffBack.j0 kq a0 l1 l2 l3 a4 t783 x45_6 = some r) ∧ Aside0 (kq ≤ k) ∧ Aside0 (Below w.heap.size w wc))
 case first =>
  have H := HC7.out
  clear HC7
  by_cases c9 : (l1.length : Int) > 10
  ·rw [if_pos c9] at H
   have c9b0 : decide (10 < (l1.length : Int)) = true := decide_eq_true c9
   have c9b1 : decide (10 < l1.length) = true := decide_eq_true (by omega)
   clear c9
   (first | rw [c9b0] | (simp only [i64_w, i32_w]; rw [c9b0]) | skip)
   have H' := Aside0.mk H
   clear H
   go_wp2
   go_meet
   case rel => exact ⟨_, (true), (by first | rfl | (simp; done) | (simp [*]; done)), H', ⟨by first | omega | exact Nat.le_refl _⟩, ⟨by repeat (first | (with_reducible first | exact HB.out | apply below_alloc | apply pw_below_drewN | apply below_drew1) | exact HB.out)⟩⟩
  ·rw [if_neg c9] at H
   have c9b0 : decide (10 < (l1.length : Int)) = false := decide_eq_false c9
   have c9b1 : decide (10 < l1.length) = false := decide_eq_false (by omega)
   clear c9
   (first | rw [c9b0] | (simp only [i64_w, i32_w]; rw [c9b0]) | skip)
   by_cases c10 : (l2.length : Int) > 10000
   ·rw [if_pos c10] at H
    have c10b0 : decide (10000 < (l2.length : Int)) = true := decide_eq_true c10
    have c10b1 : decide (10000 < l2.length) = true := decide_eq_true (by omega)
    clear c10
    have H' := Aside0.mk H
    clear H
    go_wp2
    go_meet
    case rel => exact ⟨_, (true), (by first | rfl | (simp; done) | (simp [*]; done)), H', ⟨by first | omega | exact Nat.le_refl _⟩, ⟨by repeat (first | (with_reducible first | exact HB.out | apply below_alloc | apply pw_below_drewN | apply below_drew1) | exact HB.out)⟩⟩
   ·rw [if_neg c10] at H
    have c10b0 : decide (10000 < (l2.length : Int)) = false := decide_eq_false c10
    have c10b1 : decide (10000 < l2.length) = false := decide_eq_false (by omega)
    clear c10
    by_cases c11 : (l3.length : Int) > 10000
    ·rw [if_pos c11] at H
     have c11b0 : decide (10000 < (l3.length : Int)) = true := decide_eq_true c11
     have c11b1 : decide (10000 < l3.length) = true := decide_eq_true (by omega)
     clear c11
     have H' := Aside0.mk H
     clear H
     go_wp2
     go_meet
     case rel => exact ⟨_, (true), (by first | rfl | (simp; done) | (simp [*]; done)), H', ⟨by first | omega | exact Nat.le_refl _⟩, ⟨by repeat (first | (with_reducible first | exact HB.out | apply below_alloc | apply pw_below_drewN | apply below_drew1) | exact HB.out)⟩⟩
    ·rw [if_neg c11] at H
     have c11b0 : decide (10000 < (l3.length : Int)) = false := decide_eq_false c11
     have c11b1 : decide (10000 < l3.length) = false := decide_eq_false (by omega)
     clear c11
     have H' := Aside0.mk H
     clear H
     go_wp2
     go_meet
     case rel => exact ⟨_, (!t783), (by first | rfl | (simp; done) | (simp [*]; done)), H', ⟨by first | omega | exact Nat.le_refl _⟩, ⟨by repeat (first | (with_reducible first | exact HB.out | apply below_alloc | apply pw_below_drewN | apply below_drew1) | exact HB.out)⟩⟩
 case rest =>
  clear HC7
  try clear c1
  try clear c2
  try clear p2
  try clear c3
  try clear c8
  try clear c9
  try clear c9b0
  try clear c9b1
  try clear c10
  try clear c10b0
  try clear c10b1
  try clear c11
  try clear c11b0
  try clear c11b1
  obtain ⟨kq, x45_6, rfl, HA, HJ6, HB⟩ := hcut
  cases kq with
  | zero => exact absurd HA.out (by simp [reedpipelaw09_HuffBack.j0])
  | succ kj6 =>
   have H := HA.out
   clear HA
   simp only [reedpipelaw09_HuffBack.j0] at H
   by_cases c12 : x45_6 = true
   ·subst c12
    have H1 : (some t783) = some r := by rw [if_pos rfl] at H; exact H
    clear H
    have H := H1
    clear H1
    obtain rfl := Option.some.inj H
    go_wp2
    go_ret
    exact ⟨by first | rfl | (simp [errW_none, errW_some] <;> rfl) | (simp [*, errW_none, errW_some] <;> rfl), by repeat (first | (with_reducible first | exact HB.out | apply below_alloc | apply pw_below_drewN | apply below_drew1) | exact HB.out)⟩
   ·replace c12 := Bool.eq_false_iff.mpr c12
    subst c12
    have H1 : ((book_Get.f (wrap64 ((Int.tmod (wrap64 (a0)) 11) + 1))).bind fun bt784 => (if bt784.2.2.2.2 = 0 then ((huff_Put.f kj6 ([] : List Int) bt784.1 bt784.2.1 bt784.2.2.1 bt784.2.2.2.1 l1).bind fun bt794 => ((huff_Fits.f bt784.1 l1).bind fun bt798 => (if bt798.2 = 0 then (reedpipelaw09_HuffBack.j1 kj6 l1 l2 l3 a4 bt794.1 bt794.2 ((bt794.2 == 0) != bt798.1) bt784.1 bt784.2.1 bt784.2.2.1 bt784.2.2.2.1) else (reedpipelaw09_HuffBack.j1 kj6 l1 l2 l3 a4 bt794.1 bt794.2 ((bt794.2 == 0) != false) bt784.1 bt784.2.1 bt784.2.2.1 bt784.2.2.2.1)))) else (some false))) = some r := by rw [if_neg (show ¬ (false = true) by decide)] at H; exact H
    clear H
    have H := H1
    clear H1
    replace H := Option.bind_eq_some_iff.mp H
    obtain ⟨⟨t784, t785, t786, t789, t792⟩, A130, H⟩ := H
    replace H : (if t792 = 0 then ((huff_Put.f kj6 ([] : List Int) t784 t785 t786 t789 l1).bind fun bt794 => ((huff_Fits.f t784 l1).bind fun bt798 => (if bt798.2 = 0 then (reedpipelaw09_HuffBack.j1 kj6 l1 l2 l3 a4 bt794.1 bt794.2 ((bt794.2 == 0) != bt798.1) t784 t785 t786 t789) else (reedpipelaw09_HuffBack.j1 kj6 l1 l2 l3 a4 bt794.1 bt794.2 ((bt794.2 == 0) != false) t784 t785 t786 t789)))) else (some false)) = some r := H
    have A13 := Aside0.mk A130
    clear A130
    by_cases c14 : t792 = 0
    ·rw [if_pos c14] at H
     have c14b0 : (t792 == 0) = true := beq_iff_eq.mpr c14
     have c14b1 : (t792 != 0) = false := bne_eq_false_iff_eq.mpr c14
     clear c14
     replace H := Option.bind_eq_some_iff.mp H
     obtain ⟨⟨t794, t797⟩, A150, H⟩ := H
     replace H : ((huff_Fits.f t784 l1).bind fun bt798 => (if bt798.2 = 0 then (reedpipelaw09_HuffBack.j1 kj6 l1 l2 l3 a4 t794 t797 ((t797 == 0) != bt798.1) t784 t785 t786 t789) else (reedpipelaw09_HuffBack.j1 kj6 l1 l2 l3 a4 t794 t797 ((t797 == 0) != false) t784 t785 t786 t789))) = some r := H
     have A15 := Aside0.mk A150
     clear A150
     replace H := Option.bind_eq_some_iff.mp H
     obtain ⟨⟨t798, t799⟩, A160, H⟩ := H
     replace H : (if t799 = 0 then (reedpipelaw09_HuffBack.j1 kj6 l1 l2 l3 a4 t794 t797 ((t797 == 0) != t798) t784 t785 t786 t789) else (reedpipelaw09_HuffBack.j1 kj6 l1 l2 l3 a4 t794 t797 ((t797 == 0) != false) t784 t785 t786 t789)) = some r := H
     have A16 := Aside0.mk A160
     clear A160
     have HC17 := Aside0.mk H
     clear H
     go_upto_region 9 with (first | ((with_reducible refine gate_callee (f := 26) rfl ?_); refine goesL_ (some 52) rfl rfl Try.func26 (by kernel_rfl) rfl #[.int .i64 (wrap64 ((Int.tmod (wrap64 (a0)) 11) + 1))] rfl (by (try simp only [List.map_toArray, List.map_cons, List.map_nil]); first | done | rfl | (simp only [List.length_drop, List.length_take]; rfl)) ?_; (with_reducible refine (book_Get.calls (wrap64 ((Int.tmod (wrap64 (a0)) 11) + 1)) t784 t785 t786 t789 t792 _ A13.out).mono ?_); rintro e w18 ⟨v787, v790, rfl, ho0, ho1, hb⟩; refine ⟨_, rfl, ?_⟩; have n0_ := Aside0.mk (Kd.R_lower ho0 (below_size (by repeat (first | (with_reducible first | exact HB.out | apply below_alloc | apply pw_below_drewN | apply below_drew1) | exact HB.out)))); have n1_ := Aside0.mk (Kd.R_lower ho1 (below_size (by repeat (first | (with_reducible first | exact HB.out | apply below_alloc | apply pw_below_drewN | apply below_drew1) | exact HB.out)))); have n2_ := Aside0.mk (below_step (by repeat (first | (with_reducible first | exact HB.out | apply below_alloc | apply pw_below_drewN | apply below_drew1) | exact HB.out)) hb); clear HB; have HO788 := n0_; have HO791 := n1_; have HB := n2_; clear n0_ n1_ n2_; (try clear hb); (try clear hb2); (try clear hk); (try clear hi); (try clear ho0); (try clear ho1)) | ((with_reducible refine gate_dst (N := 12) rfl ?_); (try (refine gate_guard (by rfl) ?_; dsimp only)); refine box_event ?hg (N := 12) ?hd (cs := #[.int .i64 0, .int .i64 0, .slice none 0 0, .slice none 0 0]) (t := 25) ?hr ?_; (case hd => rfl); (case hg => rfl); (case hr => first | (go_simp; done) | (go_simp; rfl)); intro gb793 hg w19 hbox hb; have n0_ := Aside0.mk (Kd.R_below (by (with_reducible repeat (first | apply Kd.R_alloc | apply Kd.R_drewN | apply Kd.R_drew)); exact HO788.out) hb); have n1_ := Aside0.mk (Kd.R_below (by (with_reducible repeat (first | apply Kd.R_alloc | apply Kd.R_drewN | apply Kd.R_drew)); exact HO791.out) hb); have n2_ := Aside0.mk (below_step (by repeat (first | (with_reducible first | exact HB.out | apply below_alloc | apply pw_below_drewN | apply below_drew1) | exact HB.out)) hb); have n3_ := Aside0.mk (hbox); have n4_ := Aside0.mk ((by rw [hg]; exact (below_size (by repeat (first | (with_reducible first | exact HB.out | apply below_alloc | apply pw_below_drewN | apply below_drew1) | exact HB.out))) : w.heap.size ≤ gb793)); have n5_ := Aside0.mk ((by rw [hg]; exact (below_size (by repeat (first | (with_reducible first | exact HB.out | apply below_alloc | apply pw_below_drewN | apply below_drew1) | exact HB.out))) : w.heap.size ≤ gb793)); clear HO788; clear HO791; clear HB; have HO788 := n0_; have HO791 := n1_; have HB := n2_; have BK793 := n3_; have GW793 := n4_; have GE793 := n5_; clear n0_ n1_ n2_ n3_ n4_ n5_; clear hb hbox hg; have hcz20_0 : w19.cell? ⟨gb793, 0, none⟩ = some (.int .i64 0) := (blk_cell BK793.out 0).trans rfl; have hcz20_1 : w19.cell? ⟨gb793, 1, none⟩ = some (.int .i64 0) := (blk_cell BK793.out 1).trans rfl; have hcz20_2 : w19.cell? ⟨gb793, 2, none⟩ = some (.slice none 0 0) := (blk_cell BK793.out 2).trans rfl; have hcz20_3 : w19.cell? ⟨gb793, 3, none⟩ = some (.slice none 0 0) := (blk_cell BK793.out 3).trans rfl; have hfz20_0 := blk_frozen BK793.out 0; have hfz20_1 := blk_frozen BK793.out 1; have hfz20_2 := blk_frozen BK793.out 2; have hfz20_3 := blk_frozen BK793.out 3; obtain ⟨Ao21, co21, eo21⟩ := Kd.R_slice HO788.out; subst eo21; obtain ⟨Ao22, co22, eo22⟩ := Kd.R_slice HO791.out; subst eo22) | ((with_reducible refine gate_store (t := 25) (p := 12) rfl ?_); refine store_event (t := 25) (p := 12) (v := ?vo_w23) (w1 := ((((w19.setCell ⟨gb793, 0, none⟩ (.int .i64 t784)).setCell ⟨gb793, 1, none⟩ (.int .i64 t785)).setCell ⟨gb793, 2, none⟩ (.slice Ao21 t786.length co21)).setCell ⟨gb793, 3, none⟩ (.slice Ao22 t789.length co22))) ?hg ?ho ?hn ?hr ?_; (case ho => rfl); (case hg => rfl); (case hn => rfl); (case hr => first | (go_simp; done) | (go_simp; rfl)); intro w23 hw; have n0_ : Aside0 (Kd.R (Kd.int .i64) 3 w23 w.heap.size (fun k_ => some k_ ≠ (.slice Ao22 t789.length co22 : Value).ownBlock) (.slice Ao21 t786.length co21) t786) := ⟨(by rw [hw]; exact (by (with_reducible repeat (first | apply Kd.R_alloc | apply Kd.R_drewN | apply Kd.R_drew)); exact Kd.R_mono (Kd.R_far (p := ⟨gb793, 3, none⟩) (Kd.R_far (p := ⟨gb793, 2, none⟩) (Kd.R_far (p := ⟨gb793, 1, none⟩) (Kd.R_far (p := ⟨gb793, 0, none⟩) (Kd.R_types HO788.out BK793.out (by decide)) (fun _ hk => hk.2) (.int .i64 t784)) (fun _ hk => hk.2) (.int .i64 t785)) (fun _ hk => hk.2) (.slice Ao21 t786.length co21)) (fun _ hk => hk.2) (.slice Ao22 t789.length co22)) (fun _ hk => hk.1)))⟩; have n1_ : Aside0 (Kd.R (Kd.int .i64) 3 w23 w.heap.size (fun k_ => some k_ ≠ (.slice Ao21 t786.length co21 : Value).ownBlock) (.slice Ao22 t789.length co22) t789) := ⟨(by rw [hw]; exact (by (with_reducible repeat (first | apply Kd.R_alloc | apply Kd.R_drewN | apply Kd.R_drew)); exact Kd.R_mono (Kd.R_far (p := ⟨gb793, 3, none⟩) (Kd.R_far (p := ⟨gb793, 2, none⟩) (Kd.R_far (p := ⟨gb793, 1, none⟩) (Kd.R_far (p := ⟨gb793, 0, none⟩) (Kd.R_types HO791.out BK793.out (by decide)) (fun _ hk => hk.2) (.int .i64 t784)) (fun _ hk => hk.2) (.int .i64 t785)) (fun _ hk => hk.2) (.slice Ao21 t786.length co21)) (fun _ hk => hk.2) (.slice Ao22 t789.length co22)) (fun _ hk => hk.1)))⟩; have n2_ : Aside0 (w23.heap[gb793]? = some (.cells #[.int .i64 t784, .int .i64 t785, .slice Ao21 t786.length co21, .slice Ao22 t789.length co22] 25 (0, 0))) := ⟨(by rw [hw]; exact (by (with_reducible repeat (first | refine blk_drewN ?_ _ | refine blk_drew ?_ | refine blk_alloc ?_ _)); refine blk_put (cs := #[.int .i64 t784, .int .i64 t785, .slice Ao21 t786.length co21, .slice none 0 0]) ?_ 3 _ rfl; (with_reducible repeat (first | refine blk_drewN ?_ _ | refine blk_drew ?_ | refine blk_alloc ?_ _)); refine blk_put (cs := #[.int .i64 t784, .int .i64 t785, .slice none 0 0, .slice none 0 0]) ?_ 2 _ rfl; (with_reducible repeat (first | refine blk_drewN ?_ _ | refine blk_drew ?_ | refine blk_alloc ?_ _)); refine blk_put (cs := #[.int .i64 t784, .int .i64 0, .slice none 0 0, .slice none 0 0]) ?_ 1 _ rfl; (with_reducible repeat (first | refine blk_drewN ?_ _ | refine blk_drew ?_ | refine blk_alloc ?_ _)); refine blk_put (cs := #[.int .i64 0, .int .i64 0, .slice none 0 0, .slice none 0 0]) ?_ 0 _ rfl; (with_reducible repeat (first | refine blk_drewN ?_ _ | refine blk_drew ?_ | refine blk_alloc ?_ _)); exact BK793.out))⟩; have n3_ : Aside0 (Below w.heap.size w w23) := ⟨(by rw [hw]; exact (by repeat (first | (with_reducible first | exact HB.out | apply below_alloc | apply pw_below_drewN | apply below_drew1 | refine below_set ?_ GE793.out) | exact HB.out)))⟩; clear hw; clear HO788; clear HO791; clear BK793; clear HB; have HO788 := n0_; have HO791 := n1_; have BK793 := n2_; have HB := n3_; clear n0_ n1_ n2_ n3_; have hcz24_0 : w23.cell? ⟨gb793, 0, none⟩ = some (.int .i64 t784) := (blk_cell BK793.out 0).trans rfl; have hcz24_1 : w23.cell? ⟨gb793, 1, none⟩ = some (.int .i64 t785) := (blk_cell BK793.out 1).trans rfl; have hcz24_2 : w23.cell? ⟨gb793, 2, none⟩ = some (.slice Ao21 t786.length co21) := (blk_cell BK793.out 2).trans rfl; have hcz24_3 : w23.cell? ⟨gb793, 3, none⟩ = some (.slice Ao22 t789.length co22) := (blk_cell BK793.out 3).trans rfl; have hfz24_0 := blk_frozen BK793.out 0; have hfz24_1 := blk_frozen BK793.out 1; have hfz24_2 := blk_frozen BK793.out 2; have hfz24_3 := blk_frozen BK793.out 3) | ((with_reducible refine gate_callee (f := 10) rfl ?_); refine goesL_ (some 60) rfl rfl Try.func10 (by kernel_rfl) rfl #[.slice none 0 0, .agg #[.int .i64 t784, .int .i64 t785, .slice Ao21 t786.length co21, .slice Ao22 t789.length co22], .slice A1 l1.length c1] rfl (by (try simp only [List.map_toArray, List.map_cons, List.map_nil]); first | done | rfl | (simp only [List.length_drop, List.length_take]; rfl)) ?_; (refine (huff_Put.calls kj6 (fun k_ => False) _ _ ([] : List Int) t784 t785 _ _ t786 _ _ t789 _ _ l1 t794 t797 _ ?side1 ?side2 ?side3 ?side4 ?side5 ?side6 ?side7 A15.out).mono ?_); (case side1 => exact Kd.V_nil _ _ _ _ _); (case side2 => repeat (first | exact (Kd.R_reads' HO788.out).2.2 | (with_reducible refine Kd.C_alloc ?_ _) | (with_reducible refine Kd.C_drewN ?_ _) | (with_reducible refine Kd.C_drew ?_))); (case side3 => exact (Kd.R_reads' HO788.out).2.1); (case side4 => repeat (first | exact (Kd.R_reads' HO791.out).2.2 | (with_reducible refine Kd.C_alloc ?_ _) | (with_reducible refine Kd.C_drewN ?_ _) | (with_reducible refine Kd.C_drew ?_))); (case side5 => exact (Kd.R_reads' HO791.out).2.1); (case side6 => repeat (first | exact (Kd.C_below HR1.out HB.out) | (with_reducible refine Kd.C_alloc ?_ _) | (with_reducible refine Kd.C_drewN ?_ _) | (with_reducible refine Kd.C_drew ?_))); (case side7 => exact HC1.out); rintro e w25 ⟨v795, rfl, ho0, hb⟩; refine ⟨_, rfl, ?_⟩; have n0_ := Aside0.mk (Kd.R_below (by (with_reducible repeat (first | apply Kd.R_alloc | apply Kd.R_drewN | apply Kd.R_drew)); exact HO788.out) hb); have n1_ := Aside0.mk (Kd.R_below (by (with_reducible repeat (first | apply Kd.R_alloc | apply Kd.R_drewN | apply Kd.R_drew)); exact HO791.out) hb); have n2_ := Aside0.mk (Kd.R_lower (Kd.R_mono (ok' := fun k_ => True) ho0 (fun _ hk_ => trivial)) (below_size (by repeat (first | (with_reducible first | exact HB.out | apply below_alloc | apply pw_below_drewN | apply below_drew1 | refine below_set ?_ GE793.out) | exact HB.out)))); have n3_ := Aside0.mk (blk_below (g := gb793) (o := .cells #[.int .i64 t784, .int .i64 t785, .slice Ao21 t786.length co21, .slice Ao22 t789.length co22] 25 (0, 0)) (by (with_reducible repeat (first | refine blk_drewN ?_ _ | refine blk_drew ?_ | refine blk_alloc ?_ _)); exact BK793.out) hb); have n4_ := Aside0.mk (below_step (by repeat (first | (with_reducible first | exact HB.out | apply below_alloc | apply pw_below_drewN | apply below_drew1 | refine below_set ?_ GE793.out) | exact HB.out)) hb); clear HO788; clear HO791; clear BK793; clear HB; have HO788 := n0_; have HO791 := n1_; have HO796 := n2_; have BK793 := n3_; have HB := n4_; clear n0_ n1_ n2_ n3_ n4_; (try clear hb); (try clear hb2); (try clear hk); (try clear hi); (try clear ho0); have hcz26_0 : w25.cell? ⟨gb793, 0, none⟩ = some (.int .i64 t784) := (blk_cell BK793.out 0).trans rfl; have hcz26_1 : w25.cell? ⟨gb793, 1, none⟩ = some (.int .i64 t785) := (blk_cell BK793.out 1).trans rfl; have hcz26_2 : w25.cell? ⟨gb793, 2, none⟩ = some (.slice Ao21 t786.length co21) := (blk_cell BK793.out 2).trans rfl; have hcz26_3 : w25.cell? ⟨gb793, 3, none⟩ = some (.slice Ao22 t789.length co22) := (blk_cell BK793.out 3).trans rfl; have hfz26_0 := blk_frozen BK793.out 0; have hfz26_1 := blk_frozen BK793.out 1; have hfz26_2 := blk_frozen BK793.out 2; have hfz26_3 := blk_frozen BK793.out 3) | ((with_reducible refine gate_callee (f := 16) rfl ?_); refine goesL_ (some 67) rfl rfl Try.func16 (by kernel_rfl) rfl #[.int .i64 t784, .slice A1 l1.length c1] rfl (by (try simp only [List.map_toArray, List.map_cons, List.map_nil]); first | done | rfl | (simp only [List.length_drop, List.length_take]; rfl)) ?_; (with_reducible refine (huff_Fits.calls t784 _ _ l1 t798 t799 _ ?side1 ?side2 A16.out).mono ?_); (case side1 => repeat (first | exact (Kd.C_below HR1.out HB.out) | (with_reducible refine Kd.C_alloc ?_ _) | (with_reducible refine Kd.C_drewN ?_ _) | (with_reducible refine Kd.C_drew ?_))); (case side2 => exact HC1.out); rintro e w27 ⟨rfl, hb⟩; refine ⟨_, rfl, ?_⟩; have n0_ := Aside0.mk (Kd.R_below (by (with_reducible repeat (first | apply Kd.R_alloc | apply Kd.R_drewN | apply Kd.R_drew)); exact HO788.out) hb); have n1_ := Aside0.mk (Kd.R_below (by (with_reducible repeat (first | apply Kd.R_alloc | apply Kd.R_drewN | apply Kd.R_drew)); exact HO791.out) hb); have n2_ := Aside0.mk (Kd.R_below (by (with_reducible repeat (first | apply Kd.R_alloc | apply Kd.R_drewN | apply Kd.R_drew)); exact HO796.out) hb); have n3_ := Aside0.mk (blk_below (g := gb793) (o := .cells #[.int .i64 t784, .int .i64 t785, .slice Ao21 t786.length co21, .slice Ao22 t789.length co22] 25 (0, 0)) (by (with_reducible repeat (first | refine blk_drewN ?_ _ | refine blk_drew ?_ | refine blk_alloc ?_ _)); exact BK793.out) hb); have n4_ := Aside0.mk (below_step (by repeat (first | (with_reducible first | exact HB.out | apply below_alloc | apply pw_below_drewN | apply below_drew1 | refine below_set ?_ GE793.out) | exact HB.out)) hb); clear HO788; clear HO791; clear HO796; clear BK793; clear HB; have HO788 := n0_; have HO791 := n1_; have HO796 := n2_; have BK793 := n3_; have HB := n4_; clear n0_ n1_ n2_ n3_ n4_; (try clear hb); (try clear hb2); (try clear hk); (try clear hi)))
     (try simp only [Act.put, List.setIfInBounds_toArray, List.set_cons_zero, List.set_cons_succ])
     go_cut [77] (fun v77 wc => ∃ (kq : Nat) (x77_16 : Bool), v77 = .bool x77_16 ∧ Aside0 (reedpipelaw09_HuffBack.j1 kq l1 l2 l3 a4 t794 t797 x77_16 t784 t785 t786 t789 = some r) ∧ Aside0 (kq ≤ kj6) ∧ Aside0 (Kd.R (Kd.int .u8) 5 wc w.heap.size (fun _ => True) v795 t794) ∧ Aside0 (Kd.R (Kd.int .i64) 3 wc w.heap.size (fun k_ => some k_ ≠ ((.slice Ao22 t789.length co22) : Value).ownBlock) (.slice Ao21 t786.length co21) t786) ∧ Aside0 (Kd.R (Kd.int .i64) 3 wc w.heap.size (fun k_ => some k_ ≠ ((.slice Ao21 t786.length co21) : Value).ownBlock) (.slice Ao22 t789.length co22) t789) ∧ Aside0 (wc.heap[gb793]? = some (.cells #[.int .i64 t784, .int .i64 t785, (.slice Ao21 t786.length co21), (.slice Ao22 t789.length co22)] 25 (0, 0))) ∧ Aside0 (Below w.heap.size w wc))
     case first =>
      have H := HC17.out
      clear HC17
      by_cases c28 : t799 = 0
      ·rw [if_pos c28] at H
       have c28b0 : (t799 == 0) = true := beq_iff_eq.mpr c28
       have c28b1 : (t799 != 0) = false := bne_eq_false_iff_eq.mpr c28
       clear c28
       (first | rw [c28b0] | (simp only [i64_w, i32_w]; rw [c28b0]) | skip)
       have H' := Aside0.mk H
       clear H
       go_wp2
       go_meet
       case rel => exact ⟨_, (((t797 == 0) != t798)), (by first | rfl | (simp; done) | (simp [*]; done)), H', ⟨by have := HJ6.out; first | omega | exact Nat.le_refl _⟩, ⟨by (with_reducible repeat (first | apply Kd.R_alloc | apply Kd.R_drewN | apply Kd.R_drew)); exact HO796.out⟩, ⟨by (with_reducible repeat (first | apply Kd.R_alloc | apply Kd.R_drewN | apply Kd.R_drew)); exact HO788.out⟩, ⟨by (with_reducible repeat (first | apply Kd.R_alloc | apply Kd.R_drewN | apply Kd.R_drew)); exact HO791.out⟩, ⟨by (with_reducible repeat (first | refine blk_drewN ?_ _ | refine blk_drew ?_ | refine blk_alloc ?_ _)); exact BK793.out⟩, ⟨by repeat (first | (with_reducible first | exact HB.out | apply below_alloc | apply pw_below_drewN | apply below_drew1 | refine below_set ?_ GE793.out) | exact HB.out)⟩⟩
      ·rw [if_neg c28] at H
       have c28b0 : (t799 == 0) = false := beq_eq_false_iff_ne.mpr c28
       have c28b1 : (t799 != 0) = true := bne_iff_ne.mpr c28
       (first | rw [c28b0] | (simp only [i64_w, i32_w]; rw [c28b0]) | skip)
       have H' := Aside0.mk H
       clear H
       go_wp2
       go_meet
       case rel => exact ⟨_, (((t797 == 0) != false)), (by first | rfl | (simp; done) | (simp [*]; done)), H', ⟨by have := HJ6.out; first | omega | exact Nat.le_refl _⟩, ⟨by (with_reducible repeat (first | apply Kd.R_alloc | apply Kd.R_drewN | apply Kd.R_drew)); exact HO796.out⟩, ⟨by (with_reducible repeat (first | apply Kd.R_alloc | apply Kd.R_drewN | apply Kd.R_drew)); exact HO788.out⟩, ⟨by (with_reducible repeat (first | apply Kd.R_alloc | apply Kd.R_drewN | apply Kd.R_drew)); exact HO791.out⟩, ⟨by (with_reducible repeat (first | refine blk_drewN ?_ _ | refine blk_drew ?_ | refine blk_alloc ?_ _)); exact BK793.out⟩, ⟨by repeat (first | (with_reducible first | exact HB.out | apply below_alloc | apply pw_below_drewN | apply below_drew1 | refine below_set ?_ GE793.out) | exact HB.out)⟩⟩
     case rest =>
      clear HC17
      try clear c1
      try clear c2
      try clear p2
      try clear c3
      try clear p6
      try clear c8
      try clear c9
      try clear c9b0
      try clear c9b1
      try clear c10
      try clear c10b0
      try clear c10b1
      try clear c11
      try clear c11b0
      try clear c11b1
      try clear c12
      try clear c14
      try clear c14b0
      try clear c14b1
      try clear c16
      try clear c25
      try clear c26
      try clear c28
      try clear c28b0
      try clear c28b1
      try clear hcz20_0
      try clear hcz20_1
      try clear hcz20_2
      try clear hcz20_3
      try clear hcz24_0
      try clear hcz24_1
      try clear hcz24_2
      try clear hcz24_3
      try clear hcz26_0
      try clear hcz26_1
      try clear hcz26_2
      try clear hcz26_3
      try clear hfz20_0
      try clear hfz20_1
      try clear hfz20_2
      try clear hfz20_3
      try clear hfz24_0
      try clear hfz24_1
      try clear hfz24_2
      try clear hfz24_3
      try clear hfz26_0
      try clear hfz26_1
      try clear hfz26_2
      try clear hfz26_3
      try clear p2
      obtain ⟨kq, x77_16, rfl, HA, HJ16, HO_14, HO_794002, HO_794003, BK793, HB⟩ := hcut
      cases kq with
      | zero => exact absurd HA.out (by simp [reedpipelaw09_HuffBack.j1])
      | succ kj16 =>
       have H := HA.out
       clear HA
       simp only [reedpipelaw09_HuffBack.j1] at H
       by_cases c29 : x77_16 = true
       ·subst c29
        have H1 : (some false) = some r := by rw [if_pos rfl] at H; exact H
        clear H
        have H := H1
        clear H1
        exact absurd ((Option.some.inj H).trans hrT) (by decide)
       ·replace c29 := Bool.eq_false_iff.mpr c29
        subst c29
        have H1 : (if t797 = 0 then ((some (([] : List Int) : List Int)).bind fun y800 => (if y800.length + t794.length < 140737488355328 then ((some (y800 ++ t794 : List Int)).bind fun y803 => (if y803.length + l2.length < 140737488355328 then ((huff_Get.f (y803 ++ l2) 0 t784 t785 t786 t789).bind fun bt809 => ((huff_Cost.f kj16 t784 t785 t786 t789 l1).bind fun bt814 => (if bt809.2.2 = 0 then ((reedpiperef06_Ints.f kj16 bt809.1 l1).bind fun t816 => (if t816 = true then (if bt809.2.1 = (t794.length : Int) then (if bt814.2 = 0 then (if bt814.1 = (t794.length : Int) then (reedpipelaw09_HuffBack.j2 kj16 l3 a4 t784 t785 t786 t789) else (some false)) else (some false)) else (some false)) else (some false))) else (some false)))) else (none))) else (none))) else (reedpipelaw09_HuffBack.j2 kj16 l3 a4 t784 t785 t786 t789)) = some r := by rw [if_neg (show ¬ (false = true) by decide)] at H; exact H
        clear H
        have H := H1
        clear H1
        have HC30 := Aside0.mk H
        clear H
        go_upto_if 79 with (fail)
        go_cut [] (fun wc => ∃ (kq : Nat), Aside0 (reedpipelaw09_HuffBack.j2 kq l3 a4 t784 t785 t786 t789 = some r) ∧ Aside0 (kq ≤ kj16) ∧ Aside0 (Kd.R (Kd.int .i64) 3 wc w.heap.size (fun k_ => some k_ ≠ ((.slice Ao22 t789.length co22) : Value).ownBlock) (.slice Ao21 t786.length co21) t786) ∧ Aside0 (Kd.R (Kd.int .i64) 3 wc w.heap.size (fun k_ => some k_ ≠ ((.slice Ao21 t786.length co21) : Value).ownBlock) (.slice Ao22 t789.length co22) t789) ∧ Aside0 (wc.heap[gb793]? = some (.cells #[.int .i64 t784, .int .i64 t785, (.slice Ao21 t786.length co21), (.slice Ao22 t789.length co22)] 25 (0, 0))) ∧ Aside0 (Below w.heap.size w wc))
        case first =>
         have H := HC30.out
         clear HC30
         by_cases c31 : t797 = 0
         ·rw [if_pos c31] at H
          have c31b0 : (t797 == 0) = true := beq_iff_eq.mpr c31
          have c31b1 : (t797 != 0) = false := bne_eq_false_iff_eq.mpr c31
          clear c31
          (first | rw [c31b0] | (simp only [i64_w, i32_w]; rw [c31b0]) | skip)
          obtain ⟨y800, hy800⟩ : ∃ y_ : List Int, y_ = (([] : List Int)) := ⟨_, rfl⟩
          replace H : (if y800.length + t794.length < 140737488355328 then ((some (y800 ++ t794 : List Int)).bind fun y803 => (if y803.length + l2.length < 140737488355328 then ((huff_Get.f (y803 ++ l2) 0 t784 t785 t786 t789).bind fun bt809 => ((huff_Cost.f kj16 t784 t785 t786 t789 l1).bind fun bt814 => (if bt809.2.2 = 0 then ((reedpiperef06_Ints.f kj16 bt809.1 l1).bind fun t816 => (if t816 = true then (if bt809.2.1 = (t794.length : Int) then (if bt814.2 = 0 then (if bt814.1 = (t794.length : Int) then (reedpipelaw09_HuffBack.j2 kj16 l3 a4 t784 t785 t786 t789) else (some false)) else (some false)) else (some false)) else (some false))) else (some false)))) else (none))) else (none)) = some r := by first | (rw [hy800]; with_reducible exact H) | (have H2_ := (Option.bind_some _ _).symm.trans H; rw [hy800]; with_reducible exact H2_) | (have H2_ := (Option.bind_some _ _).symm.trans H; with_reducible exact H2_) | with_reducible exact H | (rw [hy800]; exact H) | exact H
          have Ny800 := Aside0.mk hy800
          clear hy800
          by_cases c32 : y800.length + t794.length < 140737488355328
          ·rw [if_pos c32] at H
           have LMc32 := Aside0.mk c32
           clear c32
           obtain ⟨y803, hy803⟩ : ∃ y_ : List Int, y_ = (y800 ++ t794) := ⟨_, rfl⟩
           replace H : (if y803.length + l2.length < 140737488355328 then ((huff_Get.f (y803 ++ l2) 0 t784 t785 t786 t789).bind fun bt809 => ((huff_Cost.f kj16 t784 t785 t786 t789 l1).bind fun bt814 => (if bt809.2.2 = 0 then ((reedpiperef06_Ints.f kj16 bt809.1 l1).bind fun t816 => (if t816 = true then (if bt809.2.1 = (t794.length : Int) then (if bt814.2 = 0 then (if bt814.1 = (t794.length : Int) then (reedpipelaw09_HuffBack.j2 kj16 l3 a4 t784 t785 t786 t789) else (some false)) else (some false)) else (some false)) else (some false))) else (some false)))) else (none)) = some r := by first | (rw [hy803]; with_reducible exact H) | (have H2_ := (Option.bind_some _ _).symm.trans H; rw [hy803]; with_reducible exact H2_) | (have H2_ := (Option.bind_some _ _).symm.trans H; with_reducible exact H2_) | with_reducible exact H | (rw [hy803]; exact H) | exact H
           have Ny803 := Aside0.mk hy803
           clear hy803
           by_cases c33 : y803.length + l2.length < 140737488355328
           ·rw [if_pos c33] at H
            have LMc33 := Aside0.mk c33
            clear c33
            obtain ⟨y806, hy806⟩ : ∃ y_ : List Int, y_ = (y803 ++ l2) := ⟨_, rfl⟩
            replace H : ((huff_Get.f y806 0 t784 t785 t786 t789).bind fun bt809 => ((huff_Cost.f kj16 t784 t785 t786 t789 l1).bind fun bt814 => (if bt809.2.2 = 0 then ((reedpiperef06_Ints.f kj16 bt809.1 l1).bind fun t816 => (if t816 = true then (if bt809.2.1 = (t794.length : Int) then (if bt814.2 = 0 then (if bt814.1 = (t794.length : Int) then (reedpipelaw09_HuffBack.j2 kj16 l3 a4 t784 t785 t786 t789) else (some false)) else (some false)) else (some false)) else (some false))) else (some false)))) = some r := by first | (rw [hy806]; with_reducible exact H) | (have H2_ := (Option.bind_some _ _).symm.trans H; rw [hy806]; with_reducible exact H2_) | (have H2_ := (Option.bind_some _ _).symm.trans H; with_reducible exact H2_) | with_reducible exact H | (rw [hy806]; exact H) | exact H
            have Ny806 := Aside0.mk hy806
            clear hy806
            replace H := Option.bind_eq_some_iff.mp H
            obtain ⟨⟨t809, t812, t813⟩, A340, H⟩ := H
            replace H : ((huff_Cost.f kj16 t784 t785 t786 t789 l1).bind fun bt814 => (if t813 = 0 then ((reedpiperef06_Ints.f kj16 t809 l1).bind fun t816 => (if t816 = true then (if t812 = (t794.length : Int) then (if bt814.2 = 0 then (if bt814.1 = (t794.length : Int) then (reedpipelaw09_HuffBack.j2 kj16 l3 a4 t784 t785 t786 t789) else (some false)) else (some false)) else (some false)) else (some false))) else (some false))) = some r := H
            have A34 := Aside0.mk A340
            clear A340
            replace H := Option.bind_eq_some_iff.mp H
            obtain ⟨⟨t814, t815⟩, A350, H⟩ := H
            replace H : (if t813 = 0 then ((reedpiperef06_Ints.f kj16 t809 l1).bind fun t816 => (if t816 = true then (if t812 = (t794.length : Int) then (if t815 = 0 then (if t814 = (t794.length : Int) then (reedpipelaw09_HuffBack.j2 kj16 l3 a4 t784 t785 t786 t789) else (some false)) else (some false)) else (some false)) else (some false))) else (some false)) = some r := H
            have A35 := Aside0.mk A350
            clear A350
            by_cases c36 : t813 = 0
            ·rw [if_pos c36] at H
             have c36b0 : (t813 == 0) = true := beq_iff_eq.mpr c36
             have c36b1 : (t813 != 0) = false := bne_eq_false_iff_eq.mpr c36
             clear c36
             replace H := Option.bind_eq_some_iff.mp H
             obtain ⟨t816, A370, H⟩ := H
             replace H : (if t816 = true then (if t812 = (t794.length : Int) then (if t815 = 0 then (if t814 = (t794.length : Int) then (reedpipelaw09_HuffBack.j2 kj16 l3 a4 t784 t785 t786 t789) else (some false)) else (some false)) else (some false)) else (some false)) = some r := H
             have A37 := Aside0.mk A370
             clear A370
             by_cases c38 : t816 = true
             ·subst c38
              have H1 : (if t812 = (t794.length : Int) then (if t815 = 0 then (if t814 = (t794.length : Int) then (reedpipelaw09_HuffBack.j2 kj16 l3 a4 t784 t785 t786 t789) else (some false)) else (some false)) else (some false)) = some r := by rw [if_pos rfl] at H; exact H
              clear H
              have H := H1
              clear H1
              by_cases c39 : t812 = (t794.length : Int)
              ·rw [if_pos c39] at H
               have c39b0 : (t812 == (t794.length : Int)) = true := beq_iff_eq.mpr c39
               have c39b1 : (t812 != (t794.length : Int)) = false := bne_eq_false_iff_eq.mpr c39
               clear c39
               by_cases c40 : t815 = 0
               ·rw [if_pos c40] at H
                have c40b0 : (t815 == 0) = true := beq_iff_eq.mpr c40
                have c40b1 : (t815 != 0) = false := bne_eq_false_iff_eq.mpr c40
                clear c40
                by_cases c41 : t814 = (t794.length : Int)
                ·rw [if_pos c41] at H
                 have c41b0 : (t814 == (t794.length : Int)) = true := beq_iff_eq.mpr c41
                 have c41b1 : (t814 != (t794.length : Int)) = false := bne_eq_false_iff_eq.mpr c41
                 clear c41
                 have H' := Aside0.mk H
                 clear H
                 try go_wp2
                 have n0_ := Aside0.mk (Kd.R_drew HO_14.out)
                 have n1_ := Aside0.mk (Kd.R_drew HO_794002.out)
                 have n2_ := Aside0.mk (Kd.R_drew HO_794003.out)
                 have n3_ := Aside0.mk (blk_drew BK793.out)
                 have n4_ := Aside0.mk (below_drew1 HB.out)
                 clear HO_14
                 clear HO_794002
                 clear HO_794003
                 clear BK793
                 clear HB
                 have HO_14 := n0_
                 have HO_794002 := n1_
                 have HO_794003 := n2_
                 have BK793 := n3_
                 have HB := n4_
                 clear n0_ n1_ n2_ n3_ n4_
                 refine start_ (n := 14) (S := fun w' => w'.cell? ⟨gb793, 0, none⟩ = some (.int .i64 t784) ∧ w'.cell? ⟨gb793, 1, none⟩ = some (.int .i64 t785) ∧ w'.cell? ⟨gb793, 2, none⟩ = some (.slice Ao21 t786.length co21) ∧ w'.cell? ⟨gb793, 3, none⟩ = some (.slice Ao22 t789.length co22)) (ds := []) #[false, false, false, false, false, false, false, false, false, false, false, false, false, false] (by kernel_rfl) rfl rfl ⟨(blk_cell BK793.out 0).trans rfl, (blk_cell BK793.out 1).trans rfl, (blk_cell BK793.out 2).trans rfl, (blk_cell BK793.out 3).trans rfl⟩ (fun hHeld => ?_); refine with_tabW reedpipelaw09_HuffBack.tab12 reedpipelaw09_HuffBack.bits12 (fun HT_ HW_ => ?_)
                 generalize wc.drew = w42 at HO_14 HO_794002 HO_794003 BK793 HB hHeld ⊢
                 refine pure_ (i := 1) (N := some 82) (v := ?_) (a' := ?_) #[false, true, false, false, false, false, false, false, false, false, false, false, false, false] rfl rfl (any_of HT_.out (by kernel_rfl)) (fun _ _ _ h => h) (Or.inl ⟨by rfl, ?_⟩) ?_ ?_
                 rotate_left
                 ·intro w'
                  go_simp
                  with_reducible rfl
                 rotate_left
                 ·simp only [Act.put, List.setIfInBounds_toArray, List.set_cons_zero, List.set_cons_succ, i64_w, i32_w]
                  rfl
                 refine pure_ (i := 3) (N := some 84) (v := ?_) (a' := ?_) #[false, true, false, true, false, false, false, false, false, false, false, false, false, false] rfl rfl (any_of HT_.out (by kernel_rfl)) (fun _ _ _ h => h) (Or.inl ⟨by rfl, ?_⟩) ?_ ?_
                 rotate_left
                 ·intro w'
                  go_simp
                  with_reducible rfl
                 rotate_left
                 ·simp only [Act.put, List.setIfInBounds_toArray, List.set_cons_zero, List.set_cons_succ, i64_w, i32_w]
                  rfl
                 refine take_ (i := 5) (N := some 86) (v := ?_) (a' := ?_) #[false, true, false, true, false, true, false, false, false, false, false, false, false, false] rfl rfl (take_ofW HT_.out HW_.out (by kernel_rfl)) (fun _ _ _ h => h) (Or.inl ⟨by rfl, ?_⟩) hHeld ?_ ?_
                 rotate_left
                 ·rintro w' ⟨s0, s1, s2, s3⟩
                  go_simp
                  with_reducible rfl
                 rotate_left
                 ·simp only [Act.put, List.setIfInBounds_toArray, List.set_cons_zero, List.set_cons_succ, i64_w, i32_w]
                  rfl
                 refine one_ (i := 0) (N := some 81) #[true, true, false, true, false, true, false, false, false, false, false, false, false, false] rfl rfl (one_of HT_.out (by kernel_rfl)) (by decide) (fun K hK => ?_)
                 refine Kd.R_lit_step (Kd.int .u8) _ 5 ?hg (N := 81) ?hd (xs := ([] : List Int)) (inner := []) (ok := fun _ => True) (okp := fun _ => True) ?hr ?hp (fun _ hk => hk) trivial (Below.refl _ _) (Nat.le_refl _) (by simp) ?_; (case hd => rfl); (case hg => rfl); (case hr => first | (go_simp; done) | (go_simp; rfl)); (case hp => exact (Reps.none _ _))
                 intro v801 w43 ho44 hb hg_ hnew_
                 clear hg_ hnew_
                 (first | rw [← Ny800.out] at ho44 | (simp only [Int.reduceToNat] at ho44; rw [← Ny800.out] at ho44))
                 have n0_ := Aside0.mk (Kd.R_elder' (by (with_reducible repeat (first | apply Kd.R_alloc | apply Kd.R_drewN | apply Kd.R_drew)); exact HO_14.out) (Kd.R_base ho44) hb)
                 have n1_ := Aside0.mk (Kd.R_below (by (with_reducible repeat (first | apply Kd.R_alloc | apply Kd.R_drewN | apply Kd.R_drew)); exact HO_794002.out) hb)
                 have n2_ := Aside0.mk (Kd.R_below (by (with_reducible repeat (first | apply Kd.R_alloc | apply Kd.R_drewN | apply Kd.R_drew)); exact HO_794003.out) hb)
                 have n3_ := Aside0.mk (Kd.R_lower (Kd.R_new' ho44 (Kd.R_lt (by (with_reducible repeat (first | apply Kd.R_alloc | apply Kd.R_drewN | apply Kd.R_drew)); exact HO_14.out))) (below_size (by repeat (first | (with_reducible first | exact HB.out | apply below_alloc | apply pw_below_drewN | apply below_drew1 | refine below_set ?_ GE793.out) | exact HB.out))))
                 have n4_ := Aside0.mk (blk_below (g := gb793) (o := .cells #[.int .i64 t784, .int .i64 t785, .slice Ao21 t786.length co21, .slice Ao22 t789.length co22] 25 (0, 0)) (by (with_reducible repeat (first | refine blk_drewN ?_ _ | refine blk_drew ?_ | refine blk_alloc ?_ _)); exact BK793.out) hb)
                 have n5_ := Aside0.mk (below_step (by repeat (first | (with_reducible first | exact HB.out | apply below_alloc | apply pw_below_drewN | apply below_drew1 | refine below_set ?_ GE793.out) | exact HB.out)) hb)
                 clear HO_14
                 clear HO_794002
                 clear HO_794003
                 clear BK793
                 clear HB
                 have HO_14 := n0_
                 have HO_794002 := n1_
                 have HO_794003 := n2_
                 have HO802 := n3_
                 have BK793 := n4_
                 have HB := n5_
                 clear n0_ n1_ n2_ n3_ n4_ n5_
                 clear hb ho44
                 obtain ⟨Ao46, co46, eo46⟩ := Kd.R_slice HO_14.out
                 (first | subst eo46 | (injection eo46 with f1_ f2_ f3_; have f4_ := f1_.symm; have f5_ := f3_.symm; clear f1_ f2_ f3_; subst f4_; subst f5_))
                 refine hK.out _ _ ⟨(blk_cell BK793.out 0).trans rfl, (blk_cell BK793.out 1).trans rfl, (blk_cell BK793.out 2).trans rfl, (blk_cell BK793.out 3).trans rfl⟩ (fun hHeld => ?_)
                 clear hK K
                 refine norm_ (a' := ?_) ?_ ?_
                 rotate_left
                 ·show Act.put _ (some 81) _ = _
                  simp only [Act.put, List.setIfInBounds_toArray, List.set_cons_zero, List.set_cons_succ, i64_w, i32_w]
                  rfl
                 refine one_ (i := 2) (N := some 83) #[true, true, true, true, false, true, false, false, false, false, false, false, false, false] rfl rfl (one_of HT_.out (by kernel_rfl)) (by decide) (fun K hK => ?_)
                 refine Kd.R_append_rows_step (Kd.int .u8) (w0 := w) w.heap.size (by rfl) (.tmp 81) (.tmp 82) 22 5 (.int .u8 0) 1 rfl Try.underlying22 info5 rfl (by decide) (by omega) v801 y800 t794 _ _ _ (fun k_ => some k_ ≠ (.slice Ao46 t794.length co46 : Value).ownBlock) (fun _ => False) rfl rfl ?aO ?aR (fun _ _ h => h) (fun _ h => h.elim) ?aF ?aB ?aS ?aL ?_
                 (case aR => repeat (first | exact (Kd.R_reads' HO_14.out).2.2 | (with_reducible refine Kd.C_alloc ?_ _) | (with_reducible refine Kd.C_drewN ?_ _) | (with_reducible refine Kd.C_drew ?_)))
                 (case aB => exact (by repeat (first | (with_reducible first | exact HB.out | apply below_alloc | apply pw_below_drewN | apply below_drew1 | refine below_set ?_ GE793.out) | exact HB.out)))
                 (case aF => exact (fun k_ hk => Kd.fresh' (Kd.R_lt (by (with_reducible repeat (first | apply Kd.R_alloc | apply Kd.R_drewN | apply Kd.R_drew)); exact HO_14.out)) k_ hk))
                 (case aO => exact (by (with_reducible repeat (first | apply Kd.R_alloc | apply Kd.R_drewN | apply Kd.R_drew)); exact Kd.R_mono HO802.out (fun _ hk => hk.2)))
                 (case aS => exact (below_size (by repeat (first | (with_reducible first | exact HB.out | apply below_alloc | apply pw_below_drewN | apply below_drew1 | refine below_set ?_ GE793.out) | exact HB.out))))
                 (case aL => have := LMc32.out; omega)
                 intro v804 w45 ho hb hg hat
                 rw [← Ny803.out] at ho
                 have n0_ := Aside0.mk (Kd.R_after (ok := (fun _ => True)) (by (with_reducible repeat (first | apply Kd.R_alloc | apply Kd.R_drewN | apply Kd.R_drew)); exact HO_14.out) hg hat)
                 have n1_ := Aside0.mk (Kd.R_over' (by (with_reducible repeat (first | apply Kd.R_alloc | apply Kd.R_drewN | apply Kd.R_drew)); exact HO_794002.out) (Kd.R_typed (by (with_reducible repeat (first | apply Kd.R_alloc | apply Kd.R_drewN | apply Kd.R_drew)); exact HO802.out)) (by decide) hg)
                 have n2_ := Aside0.mk (Kd.R_over' (by (with_reducible repeat (first | apply Kd.R_alloc | apply Kd.R_drewN | apply Kd.R_drew)); exact HO_794003.out) (Kd.R_typed (by (with_reducible repeat (first | apply Kd.R_alloc | apply Kd.R_drewN | apply Kd.R_drew)); exact HO802.out)) (by decide) hg)
                 have n3_ := Aside0.mk (blk_grown (g := gb793) (o := .cells #[.int .i64 t784, .int .i64 t785, .slice Ao21 t786.length co21, .slice Ao22 t789.length co22] 25 (0, 0)) (by (with_reducible repeat (first | refine blk_drewN ?_ _ | refine blk_drew ?_ | refine blk_alloc ?_ _)); exact BK793.out) hg (Kd.R_ne HO802.out BK793.out (by decide)))
                 have n4_ := Aside0.mk (hb)
                 have n5_ := Aside0.mk (ho)
                 clear HO_14
                 clear HO_794002
                 clear HO_794003
                 clear BK793
                 clear HB
                 clear HO802
                 have HO_14 := n0_
                 have HO_794002 := n1_
                 have HO_794003 := n2_
                 have BK793 := n3_
                 have HB := n4_
                 have HO805 := n5_
                 clear n0_ n1_ n2_ n3_ n4_ n5_
                 clear ho hb hg hat
                 refine hK.out _ _ ⟨(blk_cell BK793.out 0).trans rfl, (blk_cell BK793.out 1).trans rfl, (blk_cell BK793.out 2).trans rfl, (blk_cell BK793.out 3).trans rfl⟩ (fun hHeld => ?_)
                 clear hK K
                 refine norm_ (a' := ?_) ?_ ?_
                 rotate_left
                 ·show Act.put _ (some 83) _ = _
                  simp only [Act.put, List.setIfInBounds_toArray, List.set_cons_zero, List.set_cons_succ, i64_w, i32_w]
                  rfl
                 refine one_ (i := 4) (N := some 85) #[true, true, true, true, true, true, false, false, false, false, false, false, false, false] rfl rfl (one_of HT_.out (by kernel_rfl)) (by decide) (fun K hK => ?_)
                 refine Kd.R_append_rows_step (Kd.int .u8) (w0 := w) w.heap.size (by rfl) (.tmp 83) (.tmp 84) 22 5 (.int .u8 0) 1 rfl Try.underlying22 info5 rfl (by decide) (by omega) v804 y803 l2 _ _ _ (fun k_ => some k_ ≠ (.slice Ao46 t794.length co46 : Value).ownBlock) (fun _ => False) rfl rfl ?aO ?aR (fun _ _ h => h) (fun _ h => h.elim) ?aF ?aB ?aS ?aL ?_
                 (case aR => repeat (first | exact (Kd.C_below HR2.out HB.out) | (with_reducible refine Kd.C_alloc ?_ _) | (with_reducible refine Kd.C_drewN ?_ _) | (with_reducible refine Kd.C_drew ?_)))
                 (case aB => exact (by repeat (first | (with_reducible first | exact HB.out | apply below_alloc | apply pw_below_drewN | apply below_drew1 | refine below_set ?_ GE793.out) | exact HB.out)))
                 (case aF => exact (fun k_ hk => Kd.fresh' (Kd.R_lt (by (with_reducible repeat (first | apply Kd.R_alloc | apply Kd.R_drewN | apply Kd.R_drew)); exact HO_14.out)) k_ hk))
                 (case aO => exact (by (with_reducible repeat (first | apply Kd.R_alloc | apply Kd.R_drewN | apply Kd.R_drew)); exact HO805.out))
                 (case aS => exact (below_size (by repeat (first | (with_reducible first | exact HB.out | apply below_alloc | apply pw_below_drewN | apply below_drew1 | refine below_set ?_ GE793.out) | exact HB.out))))
                 (case aL => have := LMc33.out; omega)
                 intro v807 w47 ho hb hg hat
                 rw [← Ny806.out] at ho
                 have n0_ := Aside0.mk (Kd.R_after (ok := (fun _ => True)) (by (with_reducible repeat (first | apply Kd.R_alloc | apply Kd.R_drewN | apply Kd.R_drew)); exact HO_14.out) hg hat)
                 have n1_ := Aside0.mk (Kd.R_over' (by (with_reducible repeat (first | apply Kd.R_alloc | apply Kd.R_drewN | apply Kd.R_drew)); exact HO_794002.out) (Kd.R_typed (by (with_reducible repeat (first | apply Kd.R_alloc | apply Kd.R_drewN | apply Kd.R_drew)); exact HO805.out)) (by decide) hg)
                 have n2_ := Aside0.mk (Kd.R_over' (by (with_reducible repeat (first | apply Kd.R_alloc | apply Kd.R_drewN | apply Kd.R_drew)); exact HO_794003.out) (Kd.R_typed (by (with_reducible repeat (first | apply Kd.R_alloc | apply Kd.R_drewN | apply Kd.R_drew)); exact HO805.out)) (by decide) hg)
                 have n3_ := Aside0.mk (blk_grown (g := gb793) (o := .cells #[.int .i64 t784, .int .i64 t785, .slice Ao21 t786.length co21, .slice Ao22 t789.length co22] 25 (0, 0)) (by (with_reducible repeat (first | refine blk_drewN ?_ _ | refine blk_drew ?_ | refine blk_alloc ?_ _)); exact BK793.out) hg (Kd.R_ne HO805.out BK793.out (by decide)))
                 have n4_ := Aside0.mk (hb)
                 have n5_ := Aside0.mk (ho)
                 clear HO_14
                 clear HO_794002
                 clear HO_794003
                 clear BK793
                 clear HB
                 clear HO805
                 have HO_14 := n0_
                 have HO_794002 := n1_
                 have HO_794003 := n2_
                 have BK793 := n3_
                 have HB := n4_
                 have HO808 := n5_
                 clear n0_ n1_ n2_ n3_ n4_ n5_
                 clear ho hb hg hat
                 obtain ⟨Ao48, co48, eo48⟩ := Kd.R_slice HO808.out
                 (first | subst eo48 | (injection eo48 with f1_ f2_ f3_; have f4_ := f1_.symm; have f5_ := f3_.symm; clear f1_ f2_ f3_; subst f4_; subst f5_))
                 refine hK.out _ _ ⟨(blk_cell BK793.out 0).trans rfl, (blk_cell BK793.out 1).trans rfl, (blk_cell BK793.out 2).trans rfl, (blk_cell BK793.out 3).trans rfl⟩ (fun hHeld => ?_)
                 clear hK K
                 refine norm_ (a' := ?_) ?_ ?_
                 rotate_left
                 ·show Act.put _ (some 85) _ = _
                  simp only [Act.put, List.setIfInBounds_toArray, List.set_cons_zero, List.set_cons_succ, i64_w, i32_w]
                  rfl
                 refine one_ (i := 6) (N := some 87) #[true, true, true, true, true, true, true, false, false, false, false, false, false, false] rfl rfl (one_of HT_.out (by kernel_rfl)) (by decide) (fun K hK => ?_)
                 refine goes_ Try.func12 (by kernel_rfl) rfl #[.slice Ao48 y806.length co48, .int .i64 0, .agg #[.int .i64 t784, .int .i64 t785, .slice Ao21 t786.length co21, .slice Ao22 t789.length co22]] (by rfl) rfl rfl (by (try simp only [List.map_toArray, List.map_cons, List.map_nil]); first | done | rfl | (simp only [List.length_drop, List.length_take]; rfl)) ?_
                 with_reducible refine (huff_Get.calls _ _ y806 0 t784 t785 _ _ t786 _ _ t789 t809 t812 t813 _ ?side1 ?side2 ?side3 ?side4 ?side5 ?side6 A34.out).mono ?_
                 (case side1 => repeat (first | exact (Kd.R_reads' HO808.out).2.2 | (with_reducible refine Kd.C_alloc ?_ _) | (with_reducible refine Kd.C_drewN ?_ _) | (with_reducible refine Kd.C_drew ?_)))
                 (case side2 => exact (Kd.R_reads' HO808.out).2.1)
                 (case side3 => repeat (first | exact (Kd.R_reads' HO_794002.out).2.2 | (with_reducible refine Kd.C_alloc ?_ _) | (with_reducible refine Kd.C_drewN ?_ _) | (with_reducible refine Kd.C_drew ?_)))
                 (case side4 => exact (Kd.R_reads' HO_794002.out).2.1)
                 (case side5 => repeat (first | exact (Kd.R_reads' HO_794003.out).2.2 | (with_reducible refine Kd.C_alloc ?_ _) | (with_reducible refine Kd.C_drewN ?_ _) | (with_reducible refine Kd.C_drew ?_)))
                 (case side6 => exact (Kd.R_reads' HO_794003.out).2.1)
                 rintro e w49 ⟨v810, rfl, ho0, hb⟩
                 refine ⟨_, rfl, ?_⟩
                 have n0_ := Aside0.mk (Kd.R_below (by (with_reducible repeat (first | apply Kd.R_alloc | apply Kd.R_drewN | apply Kd.R_drew)); exact HO_14.out) hb)
                 have n1_ := Aside0.mk (Kd.R_elder' (by (with_reducible repeat (first | apply Kd.R_alloc | apply Kd.R_drewN | apply Kd.R_drew)); exact HO_794002.out) (Kd.R_base ho0) hb)
                 have n2_ := Aside0.mk (Kd.R_elder' (by (with_reducible repeat (first | apply Kd.R_alloc | apply Kd.R_drewN | apply Kd.R_drew)); exact HO_794003.out) (Kd.R_base ho0) hb)
                 have n3_ := Aside0.mk (Kd.R_below (by (with_reducible repeat (first | apply Kd.R_alloc | apply Kd.R_drewN | apply Kd.R_drew)); exact HO808.out) hb)
                 have n4_ := Aside0.mk (Kd.R_lower (Kd.R_new' (Kd.R_new' ho0 (Kd.R_lt (by (with_reducible repeat (first | apply Kd.R_alloc | apply Kd.R_drewN | apply Kd.R_drew)); exact HO_794002.out))) (Kd.R_lt (by (with_reducible repeat (first | apply Kd.R_alloc | apply Kd.R_drewN | apply Kd.R_drew)); exact HO_794003.out))) (below_size (by repeat (first | (with_reducible first | exact HB.out | apply below_alloc | apply pw_below_drewN | apply below_drew1 | refine below_set ?_ GE793.out) | exact HB.out))))
                 have n5_ := Aside0.mk (blk_below (g := gb793) (o := .cells #[.int .i64 t784, .int .i64 t785, .slice Ao21 t786.length co21, .slice Ao22 t789.length co22] 25 (0, 0)) (by (with_reducible repeat (first | refine blk_drewN ?_ _ | refine blk_drew ?_ | refine blk_alloc ?_ _)); exact BK793.out) hb)
                 have n6_ := Aside0.mk (below_step (by repeat (first | (with_reducible first | exact HB.out | apply below_alloc | apply pw_below_drewN | apply below_drew1 | refine below_set ?_ GE793.out) | exact HB.out)) hb)
                 clear HO_14
                 clear HO_794002
                 clear HO_794003
                 clear HO808
                 clear BK793
                 clear HB
                 have HO_14 := n0_
                 have HO_794002 := n1_
                 have HO_794003 := n2_
                 have HO808 := n3_
                 have HO811 := n4_
                 have BK793 := n5_
                 have HB := n6_
                 clear n0_ n1_ n2_ n3_ n4_ n5_ n6_
                 (try clear hb)
                 (try clear hb2)
                 (try clear hk)
                 (try clear hi)
                 (try clear ho0)
                 refine hK.out _ _ ⟨(blk_cell BK793.out 0).trans rfl, (blk_cell BK793.out 1).trans rfl, (blk_cell BK793.out 2).trans rfl, (blk_cell BK793.out 3).trans rfl⟩ (fun hHeld => ?_)
                 clear hK K
                 refine norm_ (a' := ?_) ?_ ?_
                 rotate_left
                 ·show Act.put _ (some 87) _ = _
                  simp only [Act.put, List.setIfInBounds_toArray, List.set_cons_zero, List.set_cons_succ, i64_w, i32_w]
                  rfl
                 refine pure_ (i := 7) (N := some 80) (v := ?_) (a' := ?_) #[true, true, true, true, true, true, true, true, false, false, false, false, false, false] rfl rfl (any_of HT_.out (by kernel_rfl)) (fun _ _ _ h => h) (Or.inl ⟨by rfl, ?_⟩) ?_ ?_
                 rotate_left
                 ·intro w'
                  go_simp
                  with_reducible rfl
                 rotate_left
                 ·simp only [Act.put, List.setIfInBounds_toArray, List.set_cons_zero, List.set_cons_succ, i64_w, i32_w]
                  rfl
                 refine pure_ (i := 8) (N := some 88) (v := ?_) (a' := ?_) #[true, true, true, true, true, true, true, true, true, false, false, false, false, false] rfl rfl (any_of HT_.out (by kernel_rfl)) (fun _ _ _ h => h) (Or.inl ⟨by rfl, ?_⟩) ?_ ?_
                 rotate_left
                 ·intro w'
                  go_simp
                  with_reducible rfl
                 rotate_left
                 ·simp only [Act.put, List.setIfInBounds_toArray, List.set_cons_zero, List.set_cons_succ, i64_w, i32_w]
                  rfl
                 refine pure_ (i := 9) (N := some 89) (v := ?_) (a' := ?_) #[true, true, true, true, true, true, true, true, true, true, false, false, false, false] rfl rfl (any_of HT_.out (by kernel_rfl)) (fun _ _ _ h => h) (Or.inl ⟨by rfl, ?_⟩) ?_ ?_
                 rotate_left
                 ·intro w'
                  go_simp
                  with_reducible rfl
                 rotate_left
                 ·simp only [Act.put, List.setIfInBounds_toArray, List.set_cons_zero, List.set_cons_succ, i64_w, i32_w]
                  rfl
                 refine pure_ (i := 10) (N := some 90) (v := ?_) (a' := ?_) #[true, true, true, true, true, true, true, true, true, true, true, false, false, false] rfl rfl (any_of HT_.out (by kernel_rfl)) (fun _ _ _ h => h) (Or.inl ⟨by rfl, ?_⟩) ?_ ?_
                 rotate_left
                 ·intro w'
                  go_simp
                  with_reducible rfl
                 rotate_left
                 ·simp only [Act.put, List.setIfInBounds_toArray, List.set_cons_zero, List.set_cons_succ, i64_w, i32_w]
                  rfl
                 refine pure_ (i := 11) (N := some 18) (v := ?_) (a' := ?_) #[true, true, true, true, true, true, true, true, true, true, true, true, false, false] rfl rfl (any_of HT_.out (by kernel_rfl)) (fun _ _ _ h => h) (Or.inl ⟨by rfl, ?_⟩) ?_ ?_
                 rotate_left
                 ·intro w'
                  go_simp
                  with_reducible rfl
                 rotate_left
                 ·simp only [Act.put, List.setIfInBounds_toArray, List.set_cons_zero, List.set_cons_succ, i64_w, i32_w]
                  rfl
                 refine pure_ (i := 12) (N := some 19) (v := ?_) (a' := ?_) #[true, true, true, true, true, true, true, true, true, true, true, true, true, false] rfl rfl (any_of HT_.out (by kernel_rfl)) (fun _ _ _ h => h) (Or.inl ⟨by rfl, ?_⟩) ?_ ?_
                 rotate_left
                 ·intro w'
                  go_simp
                  with_reducible rfl
                 rotate_left
                 ·simp only [Act.put, List.setIfInBounds_toArray, List.set_cons_zero, List.set_cons_succ, i64_w, i32_w]
                  rfl
                 refine pure_ (i := 13) (N := some 20) (v := ?_) (a' := ?_) #[true, true, true, true, true, true, true, true, true, true, true, true, true, true] rfl rfl (any_of HT_.out (by kernel_rfl)) (fun _ _ _ h => h) (Or.inl ⟨by rfl, ?_⟩) ?_ ?_
                 rotate_left
                 ·intro w'
                  go_simp
                  with_reducible rfl
                 rotate_left
                 ·simp only [Act.put, List.setIfInBounds_toArray, List.set_cons_zero, List.set_cons_succ, i64_w, i32_w]
                  rfl
                 refine done_ (done_of HT_.out (by kernel_rfl)) ?_
                 have hcz50_0 : w49.cell? ⟨gb793, 0, none⟩ = some (.int .i64 t784) := (blk_cell BK793.out 0).trans rfl
                 have hcz50_1 : w49.cell? ⟨gb793, 1, none⟩ = some (.int .i64 t785) := (blk_cell BK793.out 1).trans rfl
                 have hcz50_2 : w49.cell? ⟨gb793, 2, none⟩ = some (.slice Ao21 t786.length co21) := (blk_cell BK793.out 2).trans rfl
                 have hcz50_3 : w49.cell? ⟨gb793, 3, none⟩ = some (.slice Ao22 t789.length co22) := (blk_cell BK793.out 3).trans rfl
                 have hfz50_0 := blk_frozen BK793.out 0
                 have hfz50_1 := blk_frozen BK793.out 1
                 have hfz50_2 := blk_frozen BK793.out 2
                 have hfz50_3 := blk_frozen BK793.out 3
                 try go_wp2_with (first | ((with_reducible refine gate_callee (f := 14) rfl ?_); refine goesL_ (some 94) rfl rfl Try.func14 (by kernel_rfl) rfl #[.agg #[.int .i64 t784, .int .i64 t785, .slice Ao21 t786.length co21, .slice Ao22 t789.length co22], .slice A1 l1.length c1] rfl (by (try simp only [List.map_toArray, List.map_cons, List.map_nil]); first | done | rfl | (simp only [List.length_drop, List.length_take]; rfl)) ?_; (with_reducible refine (huff_Cost.calls kj16 t784 t785 _ _ t786 _ _ t789 _ _ l1 t814 t815 _ ?side1 ?side2 ?side3 ?side4 ?side5 ?side6 A35.out).mono ?_); (case side1 => repeat (first | exact (Kd.R_reads' HO_794002.out).2.2 | (with_reducible refine Kd.C_alloc ?_ _) | (with_reducible refine Kd.C_drewN ?_ _) | (with_reducible refine Kd.C_drew ?_))); (case side2 => exact (Kd.R_reads' HO_794002.out).2.1); (case side3 => repeat (first | exact (Kd.R_reads' HO_794003.out).2.2 | (with_reducible refine Kd.C_alloc ?_ _) | (with_reducible refine Kd.C_drewN ?_ _) | (with_reducible refine Kd.C_drew ?_))); (case side4 => exact (Kd.R_reads' HO_794003.out).2.1); (case side5 => repeat (first | exact (Kd.C_below HR1.out HB.out) | (with_reducible refine Kd.C_alloc ?_ _) | (with_reducible refine Kd.C_drewN ?_ _) | (with_reducible refine Kd.C_drew ?_))); (case side6 => exact HC1.out); rintro e w51 ⟨rfl, hb⟩; refine ⟨_, rfl, ?_⟩; have n0_ := Aside0.mk (Kd.R_below (by (with_reducible repeat (first | apply Kd.R_alloc | apply Kd.R_drewN | apply Kd.R_drew)); exact HO_14.out) hb); have n1_ := Aside0.mk (Kd.R_below (by (with_reducible repeat (first | apply Kd.R_alloc | apply Kd.R_drewN | apply Kd.R_drew)); exact HO_794002.out) hb); have n2_ := Aside0.mk (Kd.R_below (by (with_reducible repeat (first | apply Kd.R_alloc | apply Kd.R_drewN | apply Kd.R_drew)); exact HO_794003.out) hb); have n3_ := Aside0.mk (Kd.R_below (by (with_reducible repeat (first | apply Kd.R_alloc | apply Kd.R_drewN | apply Kd.R_drew)); exact HO808.out) hb); have n4_ := Aside0.mk (Kd.R_below (by (with_reducible repeat (first | apply Kd.R_alloc | apply Kd.R_drewN | apply Kd.R_drew)); exact HO811.out) hb); have n5_ := Aside0.mk (blk_below (g := gb793) (o := .cells #[.int .i64 t784, .int .i64 t785, .slice Ao21 t786.length co21, .slice Ao22 t789.length co22] 25 (0, 0)) (by (with_reducible repeat (first | refine blk_drewN ?_ _ | refine blk_drew ?_ | refine blk_alloc ?_ _)); exact BK793.out) hb); have n6_ := Aside0.mk (below_step (by repeat (first | (with_reducible first | exact HB.out | apply below_alloc | apply pw_below_drewN | apply below_drew1 | refine below_set ?_ GE793.out) | exact HB.out)) hb); clear HO_14; clear HO_794002; clear HO_794003; clear HO808; clear HO811; clear BK793; clear HB; have HO_14 := n0_; have HO_794002 := n1_; have HO_794003 := n2_; have HO808 := n3_; have HO811 := n4_; have BK793 := n5_; have HB := n6_; clear n0_ n1_ n2_ n3_ n4_ n5_ n6_; (try clear hb); (try clear hb2); (try clear hk); (try clear hi); obtain ⟨Ao52, co52, eo52⟩ := Kd.R_slice HO811.out; subst eo52) | (go_at_call 18; (with_reducible refine (reedpiperef06_Ints.calls kj16 _ _ t809 _ _ l1 true _ ?side1 ?side2 ?side3 ?side4 A37.out).mono ?_); (case side1 => repeat (first | exact (Kd.R_reads' HO811.out).2.2 | (with_reducible refine Kd.C_alloc ?_ _) | (with_reducible refine Kd.C_drewN ?_ _) | (with_reducible refine Kd.C_drew ?_))); (case side2 => exact (Kd.R_reads' HO811.out).2.1); (case side3 => repeat (first | exact (Kd.C_below HR1.out HB.out) | (with_reducible refine Kd.C_alloc ?_ _) | (with_reducible refine Kd.C_drewN ?_ _) | (with_reducible refine Kd.C_drew ?_))); (case side4 => exact HC1.out); rintro e w' ⟨rfl, ⟨nd, rfl⟩⟩))
                 go_meet
                 case rel => exact ⟨_, H', ⟨by have := HJ6.out; have := HJ16.out; first | omega | exact Nat.le_refl _⟩, ⟨by (with_reducible repeat (first | apply Kd.R_alloc | apply Kd.R_drewN | apply Kd.R_drew)); exact Kd.R_mono HO_794002.out (fun _ hk => hk.1)⟩, ⟨by (with_reducible repeat (first | apply Kd.R_alloc | apply Kd.R_drewN | apply Kd.R_drew)); exact Kd.R_mono HO_794003.out (fun _ hk => hk.1)⟩, ⟨by (with_reducible repeat (first | refine blk_drewN ?_ _ | refine blk_drew ?_ | refine blk_alloc ?_ _)); exact BK793.out⟩, ⟨by repeat (first | (with_reducible first | exact HB.out | apply below_alloc | apply pw_below_drewN | apply below_drew1 | refine below_set ?_ GE793.out) | exact HB.out)⟩⟩
                ·rw [if_neg c41] at H
                 have c41b0 : (t814 == (t794.length : Int)) = false := beq_eq_false_iff_ne.mpr c41
                 have c41b1 : (t814 != (t794.length : Int)) = true := bne_iff_ne.mpr c41
                 exact absurd ((Option.some.inj H).trans hrT) (by decide)
               ·rw [if_neg c40] at H
                have c40b0 : (t815 == 0) = false := beq_eq_false_iff_ne.mpr c40
                have c40b1 : (t815 != 0) = true := bne_iff_ne.mpr c40
                exact absurd ((Option.some.inj H).trans hrT) (by decide)
              ·rw [if_neg c39] at H
               have c39b0 : (t812 == (t794.length : Int)) = false := beq_eq_false_iff_ne.mpr c39
               have c39b1 : (t812 != (t794.length : Int)) = true := bne_iff_ne.mpr c39
               exact absurd ((Option.some.inj H).trans hrT) (by decide)
             ·replace c38 := Bool.eq_false_iff.mpr c38
              subst c38
              have H1 : (some false) = some r := by rw [if_neg (show ¬ (false = true) by decide)] at H; exact H
              clear H
              have H := H1
              clear H1
              exact absurd ((Option.some.inj H).trans hrT) (by decide)
            ·rw [if_neg c36] at H
             have c36b0 : (t813 == 0) = false := beq_eq_false_iff_ne.mpr c36
             have c36b1 : (t813 != 0) = true := bne_iff_ne.mpr c36
             exact absurd ((Option.some.inj H).trans hrT) (by decide)
           ·rw [if_neg c33] at H
            exact absurd H (by simp)
          ·rw [if_neg c32] at H
           exact absurd H (by simp)
         ·rw [if_neg c31] at H
          have c31b0 : (t797 == 0) = false := beq_eq_false_iff_ne.mpr c31
          have c31b1 : (t797 != 0) = true := bne_iff_ne.mpr c31
          (first | rw [c31b0] | (simp only [i64_w, i32_w]; rw [c31b0]) | skip)
          have H' := Aside0.mk H
          clear H
          go_wp2
          go_meet
          case rel => exact ⟨_, H', ⟨by have := HJ6.out; have := HJ16.out; first | omega | exact Nat.le_refl _⟩, ⟨by (with_reducible repeat (first | apply Kd.R_alloc | apply Kd.R_drewN | apply Kd.R_drew)); exact HO_794002.out⟩, ⟨by (with_reducible repeat (first | apply Kd.R_alloc | apply Kd.R_drewN | apply Kd.R_drew)); exact HO_794003.out⟩, ⟨by (with_reducible repeat (first | refine blk_drewN ?_ _ | refine blk_drew ?_ | refine blk_alloc ?_ _)); exact BK793.out⟩, ⟨by repeat (first | (with_reducible first | exact HB.out | apply below_alloc | apply pw_below_drewN | apply below_drew1 | refine below_set ?_ GE793.out) | exact HB.out)⟩⟩
        case rest =>
         clear HC30
         try clear c1
         try clear c2
         try clear p2
         try clear c3
         try clear c4
         try clear p6
         try clear c8
         try clear c9
         try clear c9b0
         try clear c9b1
         try clear c10
         try clear c10b0
         try clear c10b1
         try clear c11
         try clear c11b0
         try clear c11b1
         try clear c12
         try clear c14
         try clear c14b0
         try clear c14b1
         try clear c16
         try clear c25
         try clear c26
         try clear c28
         try clear c28b0
         try clear c28b1
         try clear c29
         try clear c31
         try clear c31b0
         try clear c31b1
         try clear c32
         try clear c33
         try clear c36
         try clear c36b0
         try clear c36b1
         try clear c38
         try clear c39
         try clear c39b0
         try clear c39b1
         try clear c40
         try clear c40b0
         try clear c40b1
         try clear c41
         try clear c41b0
         try clear c41b1
         try clear hcz20_0
         try clear hcz20_1
         try clear hcz20_2
         try clear hcz20_3
         try clear hcz24_0
         try clear hcz24_1
         try clear hcz24_2
         try clear hcz24_3
         try clear hcz26_0
         try clear hcz26_1
         try clear hcz26_2
         try clear hcz26_3
         try clear hcz50_0
         try clear hcz50_1
         try clear hcz50_2
         try clear hcz50_3
         try clear hfz20_0
         try clear hfz20_1
         try clear hfz20_2
         try clear hfz20_3
         try clear hfz24_0
         try clear hfz24_1
         try clear hfz24_2
         try clear hfz24_3
         try clear hfz26_0
         try clear hfz26_1
         try clear hfz26_2
         try clear hfz26_3
         try clear hfz50_0
         try clear hfz50_1
         try clear hfz50_2
         try clear hfz50_3
         try clear p2
         try clear p6
         obtain ⟨kq, HA, HJ29, HO_794002, HO_794003, BK793, HB⟩ := hcut
         cases kq with
         | zero => exact absurd HA.out (by simp [reedpipelaw09_HuffBack.j2])
         | succ kj29 =>
          have H := HA.out
          clear HA
          simp only [reedpipelaw09_HuffBack.j2] at H
          replace H := Option.bind_eq_some_iff.mp H
          obtain ⟨⟨t817, t820, t821⟩, A530, H⟩ := H
          replace H : (if t821 = 0 then ((huff_Put.f kj29 ([] : List Int) t784 t785 t786 t789 t817).bind fun bt822 => (if bt822.2 = 0 then (if 0 ≤ a4 then (if a4 ≤ t820 then (if t820 ≤ (l3.length : Int) then (some ((strOfNums bt822.1).toList == (strOfNums ((l3.take (t820 : Int).toNat).drop (a4 : Int).toNat)).toList)) else (none)) else (none)) else (none)) else (some false))) else (if (t817.length : Int) = 0 then (some (t820 == 0)) else (some false))) = some r := H
          have A53 := Aside0.mk A530
          clear A530
          by_cases c54 : t821 = 0
          ·rw [if_pos c54] at H
           have c54b0 : (t821 == 0) = true := beq_iff_eq.mpr c54
           have c54b1 : (t821 != 0) = false := bne_eq_false_iff_eq.mpr c54
           clear c54
           replace H := Option.bind_eq_some_iff.mp H
           obtain ⟨⟨t822, t825⟩, A550, H⟩ := H
           replace H : (if t825 = 0 then (if 0 ≤ a4 then (if a4 ≤ t820 then (if t820 ≤ (l3.length : Int) then (some ((strOfNums t822).toList == (strOfNums ((l3.take (t820 : Int).toNat).drop (a4 : Int).toNat)).toList)) else (none)) else (none)) else (none)) else (some false)) = some r := H
           have A55 := Aside0.mk A550
           clear A550
           by_cases c56 : t825 = 0
           ·rw [if_pos c56] at H
            have c56b0 : (t825 == 0) = true := beq_iff_eq.mpr c56
            have c56b1 : (t825 != 0) = false := bne_eq_false_iff_eq.mpr c56
            clear c56
            by_cases c57 : 0 ≤ a4
            ·rw [if_pos c57] at H
             have c57b0 := eq_true c57
             have c57b1 : decide (0 ≤ a4) = true := decide_eq_true c57
             clear c57
             by_cases c58 : a4 ≤ t820
             ·rw [if_pos c58] at H
              have c58b0 := eq_true c58
              have c58b1 : decide (a4 ≤ t820) = true := decide_eq_true c58
              clear c58
              by_cases c59 : t820 ≤ (l3.length : Int)
              ·rw [if_pos c59] at H
               have c59b0 := eq_true c59
               have c59b1 : decide (t820 ≤ (l3.length : Int)) = true := decide_eq_true c59
               clear c59
               obtain rfl := Option.some.inj H
               have hcz60_0 : wc.cell? ⟨gb793, 0, none⟩ = some (.int .i64 t784) := (blk_cell BK793.out 0).trans rfl
               have hcz60_1 : wc.cell? ⟨gb793, 1, none⟩ = some (.int .i64 t785) := (blk_cell BK793.out 1).trans rfl
               have hcz60_2 : wc.cell? ⟨gb793, 2, none⟩ = some (.slice Ao21 t786.length co21) := (blk_cell BK793.out 2).trans rfl
               have hcz60_3 : wc.cell? ⟨gb793, 3, none⟩ = some (.slice Ao22 t789.length co22) := (blk_cell BK793.out 3).trans rfl
               have hfz60_0 := blk_frozen BK793.out 0
               have hfz60_1 := blk_frozen BK793.out 1
               have hfz60_2 := blk_frozen BK793.out 2
               have hfz60_3 := blk_frozen BK793.out 3
               try go_wp2_with (first | ((with_reducible refine gate_callee (f := 12) rfl ?_); refine goesL_ (some 125) rfl rfl Try.func12 (by kernel_rfl) rfl #[.slice A3 l3.length c3, .int .i64 a4, .agg #[.int .i64 t784, .int .i64 t785, .slice Ao21 t786.length co21, .slice Ao22 t789.length co22]] rfl (by (try simp only [List.map_toArray, List.map_cons, List.map_nil]); first | done | rfl | (simp only [List.length_drop, List.length_take]; rfl)) ?_; (with_reducible refine (huff_Get.calls _ _ l3 a4 t784 t785 _ _ t786 _ _ t789 t817 t820 t821 _ ?side1 ?side2 ?side3 ?side4 ?side5 ?side6 A53.out).mono ?_); (case side1 => repeat (first | exact (Kd.C_below HR3.out HB.out) | (with_reducible refine Kd.C_alloc ?_ _) | (with_reducible refine Kd.C_drewN ?_ _) | (with_reducible refine Kd.C_drew ?_))); (case side2 => exact HC3.out); (case side3 => repeat (first | exact (Kd.R_reads' HO_794002.out).2.2 | (with_reducible refine Kd.C_alloc ?_ _) | (with_reducible refine Kd.C_drewN ?_ _) | (with_reducible refine Kd.C_drew ?_))); (case side4 => exact (Kd.R_reads' HO_794002.out).2.1); (case side5 => repeat (first | exact (Kd.R_reads' HO_794003.out).2.2 | (with_reducible refine Kd.C_alloc ?_ _) | (with_reducible refine Kd.C_drewN ?_ _) | (with_reducible refine Kd.C_drew ?_))); (case side6 => exact (Kd.R_reads' HO_794003.out).2.1); rintro e w61 ⟨v818, rfl, ho0, hb⟩; refine ⟨_, rfl, ?_⟩; have n0_ := Aside0.mk (Kd.R_elder' (by (with_reducible repeat (first | apply Kd.R_alloc | apply Kd.R_drewN | apply Kd.R_drew)); exact HO_794002.out) (Kd.R_base ho0) hb); have n1_ := Aside0.mk (Kd.R_elder' (by (with_reducible repeat (first | apply Kd.R_alloc | apply Kd.R_drewN | apply Kd.R_drew)); exact HO_794003.out) (Kd.R_base ho0) hb); have n2_ := Aside0.mk (Kd.R_lower (Kd.R_new' (Kd.R_new' ho0 (Kd.R_lt (by (with_reducible repeat (first | apply Kd.R_alloc | apply Kd.R_drewN | apply Kd.R_drew)); exact HO_794002.out))) (Kd.R_lt (by (with_reducible repeat (first | apply Kd.R_alloc | apply Kd.R_drewN | apply Kd.R_drew)); exact HO_794003.out))) (below_size (by repeat (first | (with_reducible first | exact HB.out | apply below_alloc | apply pw_below_drewN | apply below_drew1 | refine below_set ?_ GE793.out) | exact HB.out)))); have n3_ := Aside0.mk (blk_below (g := gb793) (o := .cells #[.int .i64 t784, .int .i64 t785, .slice Ao21 t786.length co21, .slice Ao22 t789.length co22] 25 (0, 0)) (by (with_reducible repeat (first | refine blk_drewN ?_ _ | refine blk_drew ?_ | refine blk_alloc ?_ _)); exact BK793.out) hb); have n4_ := Aside0.mk (below_step (by repeat (first | (with_reducible first | exact HB.out | apply below_alloc | apply pw_below_drewN | apply below_drew1 | refine below_set ?_ GE793.out) | exact HB.out)) hb); clear HO_794002; clear HO_794003; clear BK793; clear HB; have HO_794002 := n0_; have HO_794003 := n1_; have HO819 := n2_; have BK793 := n3_; have HB := n4_; clear n0_ n1_ n2_ n3_ n4_; (try clear hb); (try clear hb2); (try clear hk); (try clear hi); (try clear ho0); have hcz62_0 : w61.cell? ⟨gb793, 0, none⟩ = some (.int .i64 t784) := (blk_cell BK793.out 0).trans rfl; have hcz62_1 : w61.cell? ⟨gb793, 1, none⟩ = some (.int .i64 t785) := (blk_cell BK793.out 1).trans rfl; have hcz62_2 : w61.cell? ⟨gb793, 2, none⟩ = some (.slice Ao21 t786.length co21) := (blk_cell BK793.out 2).trans rfl; have hcz62_3 : w61.cell? ⟨gb793, 3, none⟩ = some (.slice Ao22 t789.length co22) := (blk_cell BK793.out 3).trans rfl; have hfz62_0 := blk_frozen BK793.out 0; have hfz62_1 := blk_frozen BK793.out 1; have hfz62_2 := blk_frozen BK793.out 2; have hfz62_3 := blk_frozen BK793.out 3; obtain ⟨Ao63, co63, eo63⟩ := Kd.R_slice HO819.out; subst eo63) | ((with_reducible refine gate_callee (f := 10) rfl ?_); refine goesL_ (some 141) rfl rfl Try.func10 (by kernel_rfl) rfl #[.slice none 0 0, .agg #[.int .i64 t784, .int .i64 t785, .slice Ao21 t786.length co21, .slice Ao22 t789.length co22], .slice Ao63 t817.length co63] rfl (by (try simp only [List.map_toArray, List.map_cons, List.map_nil]); first | done | rfl | (simp only [List.length_drop, List.length_take]; rfl)) ?_; (refine (huff_Put.calls kj29 (fun k_ => False) _ _ ([] : List Int) t784 t785 _ _ t786 _ _ t789 _ _ t817 t822 t825 _ ?side1 ?side2 ?side3 ?side4 ?side5 ?side6 ?side7 A55.out).mono ?_); (case side1 => exact Kd.V_nil _ _ _ _ _); (case side2 => repeat (first | exact (Kd.R_reads' HO_794002.out).2.2 | (with_reducible refine Kd.C_alloc ?_ _) | (with_reducible refine Kd.C_drewN ?_ _) | (with_reducible refine Kd.C_drew ?_))); (case side3 => exact (Kd.R_reads' HO_794002.out).2.1); (case side4 => repeat (first | exact (Kd.R_reads' HO_794003.out).2.2 | (with_reducible refine Kd.C_alloc ?_ _) | (with_reducible refine Kd.C_drewN ?_ _) | (with_reducible refine Kd.C_drew ?_))); (case side5 => exact (Kd.R_reads' HO_794003.out).2.1); (case side6 => repeat (first | exact (Kd.R_reads' HO819.out).2.2 | (with_reducible refine Kd.C_alloc ?_ _) | (with_reducible refine Kd.C_drewN ?_ _) | (with_reducible refine Kd.C_drew ?_))); (case side7 => exact (Kd.R_reads' HO819.out).2.1); rintro e w64 ⟨v823, rfl, ho0, hb⟩; refine ⟨_, rfl, ?_⟩; have n0_ := Aside0.mk (Kd.R_below (by (with_reducible repeat (first | apply Kd.R_alloc | apply Kd.R_drewN | apply Kd.R_drew)); exact HO_794002.out) hb); have n1_ := Aside0.mk (Kd.R_below (by (with_reducible repeat (first | apply Kd.R_alloc | apply Kd.R_drewN | apply Kd.R_drew)); exact HO_794003.out) hb); have n2_ := Aside0.mk (Kd.R_below (by (with_reducible repeat (first | apply Kd.R_alloc | apply Kd.R_drewN | apply Kd.R_drew)); exact HO819.out) hb); have n3_ := Aside0.mk (Kd.R_lower (Kd.R_mono (ok' := fun k_ => True) ho0 (fun _ hk_ => trivial)) (below_size (by repeat (first | (with_reducible first | exact HB.out | apply below_alloc | apply pw_below_drewN | apply below_drew1 | refine below_set ?_ GE793.out) | exact HB.out)))); have n4_ := Aside0.mk (blk_below (g := gb793) (o := .cells #[.int .i64 t784, .int .i64 t785, .slice Ao21 t786.length co21, .slice Ao22 t789.length co22] 25 (0, 0)) (by (with_reducible repeat (first | refine blk_drewN ?_ _ | refine blk_drew ?_ | refine blk_alloc ?_ _)); exact BK793.out) hb); have n5_ := Aside0.mk (below_step (by repeat (first | (with_reducible first | exact HB.out | apply below_alloc | apply pw_below_drewN | apply below_drew1 | refine below_set ?_ GE793.out) | exact HB.out)) hb); clear HO_794002; clear HO_794003; clear HO819; clear BK793; clear HB; have HO_794002 := n0_; have HO_794003 := n1_; have HO819 := n2_; have HO824 := n3_; have BK793 := n4_; have HB := n5_; clear n0_ n1_ n2_ n3_ n4_ n5_; (try clear hb); (try clear hb2); (try clear hk); (try clear hi); (try clear ho0)))
               have n0_ := Aside0.mk (Kd.R_drew HO_794002.out)
               have n1_ := Aside0.mk (Kd.R_drew HO_794003.out)
               have n2_ := Aside0.mk (Kd.R_drew HO819.out)
               have n3_ := Aside0.mk (Kd.R_drew HO824.out)
               have n4_ := Aside0.mk (blk_drew BK793.out)
               have n5_ := Aside0.mk (below_drew1 HB.out)
               clear HO_794002
               clear HO_794003
               clear HO819
               clear HO824
               clear BK793
               clear HB
               have HO_794002 := n0_
               have HO_794003 := n1_
               have HO819 := n2_
               have HO824 := n3_
               have BK793 := n4_
               have HB := n5_
               clear n0_ n1_ n2_ n3_ n4_ n5_
               obtain ⟨i066, hi066, _, hsz66, _⟩ := info_parts info5
               obtain ⟨A66, hcut66, hA66, hC66⟩ := print_mid_of (P := Try.prog) (Value.int .u8) 0 22 5 .i64 .i64 Try.underlying22 hi066 hsz66 A3 c3 l3 a4 t820 (of_decide_eq_true (by first | (with_reducible assumption) | assumption)) (by first | omega | exact of_decide_eq_true (by first | (with_reducible assumption) | assumption)) (of_decide_eq_true (by first | (with_reducible assumption) | assumption)) HC3.out
               have HR826 := Aside0.mk (Kd.C_of_reads (h1 := fun _ => rfl) (hA66 _ (Kd.reads_of_C HR3.out)))
               have HC826 := Aside0.mk hC66
               clear hA66 hC66 hi066 hsz66
               have hcv67 := own_string (P := Try.prog) Try.underlying22 Try.underlying5 Try.underlying9 (Kd.own_of_R HO824.out)
               have hcv68 := fun nd_ : Nat => own_string (P := Try.prog) Try.underlying22 Try.underlying5 Try.underlying9 (Kd.own_of_R (Kd.R_drewN HO824.out nd_))
               have hcv69 := Kd.C_string (P := Try.prog) (A := A66) (c := (c3 - a4.toNat)) Try.underlying22 Try.underlying5 Try.underlying9 (Kd.C_below HR826.out HB.out)
               have hlen_ : (List.drop a4.toNat (List.take t820.toNat l3)).length = t820.toNat - a4.toNat := by have := of_decide_eq_true (p := t820 ≤ (l3.length : Int)) (by first | (with_reducible assumption) | assumption); simp only [List.length_drop, List.length_take]; omega
               rw [hlen_] at hcv69
               refine start_ (n := 13) (S := fun w' => ((convert 22 9 v823).run Try.prog w' = .ok (.string (strOfNums t822)) w') ∧ ((convert 22 9 (.slice A66 (t820.toNat - a4.toNat) (c3 - a4.toNat))).run Try.prog w' = .ok (.string (strOfNums (List.drop a4.toNat (List.take t820.toNat l3)))) w')) (ds := []) #[false, false, false, false, false, false, false, false, false, false, false, false, false] (by kernel_rfl) rfl rfl ⟨hcv67, hcv69⟩ (fun hHeld => ?_); refine with_tabW reedpipelaw09_HuffBack.tab20 reedpipelaw09_HuffBack.bits20 (fun HT_ HW_ => ?_)
               generalize w64.drew = w65 at HO_794002 HO_794003 HO819 HO824 BK793 HB HR826 hHeld ⊢
               refine pure_ (i := 0) (N := some 144) (v := ?_) (a' := ?_) #[true, false, false, false, false, false, false, false, false, false, false, false, false] rfl rfl (any_of HT_.out (by kernel_rfl)) (fun _ _ _ h => h) (Or.inl ⟨by rfl, ?_⟩) ?_ ?_
               rotate_left
               ·intro w'
                go_simp
                with_reducible rfl
               rotate_left
               ·simp only [Act.put, List.setIfInBounds_toArray, List.set_cons_zero, List.set_cons_succ, i64_w, i32_w]
                rfl
               refine pure_ (i := 1) (N := some 145) (v := ?_) (a' := ?_) #[true, true, false, false, false, false, false, false, false, false, false, false, false] rfl rfl (any_of HT_.out (by kernel_rfl)) (fun _ _ _ h => h) (Or.inl ⟨by rfl, ?_⟩) ?_ ?_
               rotate_left
               ·intro w'
                go_simp
                with_reducible rfl
               rotate_left
               ·simp only [Act.put, List.setIfInBounds_toArray, List.set_cons_zero, List.set_cons_succ, i64_w, i32_w]
                rfl
               refine pure_ (i := 2) (N := some 146) (v := ?_) (a' := ?_) #[true, true, true, false, false, false, false, false, false, false, false, false, false] rfl rfl (any_of HT_.out (by kernel_rfl)) (fun _ _ _ h => h) (Or.inl ⟨by rfl, ?_⟩) ?_ ?_
               rotate_left
               ·intro w'
                go_simp
                with_reducible rfl
               rotate_left
               ·simp only [Act.put, List.setIfInBounds_toArray, List.set_cons_zero, List.set_cons_succ, i64_w, i32_w]
                rfl
               refine pure_ (i := 3) (N := some 147) (v := ?_) (a' := ?_) #[true, true, true, true, false, false, false, false, false, false, false, false, false] rfl rfl (any_of HT_.out (by kernel_rfl)) (fun _ _ _ h => h) (Or.inl ⟨by rfl, ?_⟩) ?_ ?_
               rotate_left
               ·intro w'
                go_simp
                with_reducible rfl
               rotate_left
               ·simp only [Act.put, List.setIfInBounds_toArray, List.set_cons_zero, List.set_cons_succ, i64_w, i32_w]
                rfl
               refine take_ (i := 4) (N := some 148) (v := ?_) (a' := ?_) #[true, true, true, true, true, false, false, false, false, false, false, false, false] rfl rfl (take_ofW HT_.out HW_.out (by kernel_rfl)) (fun _ _ _ h => h) (Or.inl ⟨by rfl, ?_⟩) hHeld ?_ ?_
               rotate_left
               ·rintro w' ⟨s0, s1⟩
                go_simp
                with_reducible rfl
               rotate_left
               ·simp only [Act.put, List.setIfInBounds_toArray, List.set_cons_zero, List.set_cons_succ, i64_w, i32_w]
                rfl
               refine pure_ (i := 5) (N := some 149) (v := ?_) (a' := ?_) #[true, true, true, true, true, true, false, false, false, false, false, false, false] rfl rfl (any_of HT_.out (by kernel_rfl)) (fun _ _ _ h => h) (Or.inl ⟨by rfl, ?_⟩) ?_ ?_
               rotate_left
               ·intro w'
                go_simp
                with_reducible rfl
               rotate_left
               ·simp only [Act.put, List.setIfInBounds_toArray, List.set_cons_zero, List.set_cons_succ, i64_w, i32_w]
                rfl
               refine pure_ (i := 6) (N := some 150) (v := ?_) (a' := ?_) #[true, true, true, true, true, true, true, false, false, false, false, false, false] rfl rfl (any_of HT_.out (by kernel_rfl)) (fun _ _ _ h => h) (Or.inl ⟨by rfl, ?_⟩) ?_ ?_
               rotate_left
               ·intro w'
                go_simp
                with_reducible rfl
               rotate_left
               ·simp only [Act.put, List.setIfInBounds_toArray, List.set_cons_zero, List.set_cons_succ, i64_w, i32_w]
                rfl
               refine pure_ (i := 7) (N := some 151) (v := ?_) (a' := ?_) #[true, true, true, true, true, true, true, true, false, false, false, false, false] rfl rfl (any_of HT_.out (by kernel_rfl)) (fun _ _ _ h => h) (Or.inl ⟨by rfl, ?_⟩) ?_ ?_
               rotate_left
               ·intro w'
                go_simp
                with_reducible rfl
               rotate_left
               ·simp only [Act.put, List.setIfInBounds_toArray, List.set_cons_zero, List.set_cons_succ, i64_w, i32_w]
                rfl
               refine pure_ (i := 8) (N := some 152) (v := ?_) (a' := ?_) #[true, true, true, true, true, true, true, true, true, false, false, false, false] rfl rfl (any_of HT_.out (by kernel_rfl)) (fun _ _ _ h => h) (Or.inl ⟨by rfl, ?_⟩) ?_ ?_
               rotate_left
               ·intro w'
                go_simp
                with_reducible rfl
               rotate_left
               ·simp only [Act.put, List.setIfInBounds_toArray, List.set_cons_zero, List.set_cons_succ, i64_w, i32_w]
                rfl
               refine take_ (i := 9) (N := some 153) (v := ?_) (a' := ?_) #[true, true, true, true, true, true, true, true, true, true, false, false, false] rfl rfl (take_ofW HT_.out HW_.out (by kernel_rfl)) (fun _ _ _ h => h) (Or.inl ⟨by rfl, ?_⟩) hHeld ?_ ?_
               rotate_left
               ·rintro w' ⟨s0, s1⟩
                go_simp
                with_reducible rfl
               rotate_left
               ·simp only [Act.put, List.setIfInBounds_toArray, List.set_cons_zero, List.set_cons_succ, i64_w, i32_w]
                rfl
               refine pure_ (i := 10) (N := some 154) (v := ?_) (a' := ?_) #[true, true, true, true, true, true, true, true, true, true, true, false, false] rfl rfl (any_of HT_.out (by kernel_rfl)) (fun _ _ _ h => h) (Or.inl ⟨by rfl, ?_⟩) ?_ ?_
               rotate_left
               ·intro w'
                go_simp
                with_reducible rfl
               rotate_left
               ·simp only [Act.put, List.setIfInBounds_toArray, List.set_cons_zero, List.set_cons_succ, i64_w, i32_w]
                rfl
               refine pure_ (i := 11) (N := some 155) (v := ?_) (a' := ?_) #[true, true, true, true, true, true, true, true, true, true, true, true, false] rfl rfl (any_of HT_.out (by kernel_rfl)) (fun _ _ _ h => h) (Or.inl ⟨by rfl, ?_⟩) ?_ ?_
               rotate_left
               ·intro w'
                go_simp
                with_reducible rfl
               rotate_left
               ·simp only [Act.put, List.setIfInBounds_toArray, List.set_cons_zero, List.set_cons_succ, i64_w, i32_w]
                rfl
               refine pure_ (i := 12) (N := some 10) (v := ?_) (a' := ?_) #[true, true, true, true, true, true, true, true, true, true, true, true, true] rfl rfl (any_of HT_.out (by kernel_rfl)) (fun _ _ _ h => h) (Or.inl ⟨by rfl, ?_⟩) ?_ ?_
               rotate_left
               ·intro w'
                go_simp
                with_reducible rfl
               rotate_left
               ·simp only [Act.put, List.setIfInBounds_toArray, List.set_cons_zero, List.set_cons_succ, i64_w, i32_w]
                rfl
               refine done_ (done_of HT_.out (by kernel_rfl)) ?_
               try go_wp2
               go_ret
               exact ⟨by first | rfl | (simp [errW_none, errW_some] <;> rfl) | (simp [*, errW_none, errW_some] <;> rfl), by repeat (first | (with_reducible first | exact HB.out | apply below_alloc | apply pw_below_drewN | apply below_drew1 | refine below_set ?_ GE793.out) | exact HB.out)⟩
              ·rw [if_neg c59] at H
               exact absurd H (by simp)
             ·rw [if_neg c58] at H
              exact absurd H (by simp)
            ·rw [if_neg c57] at H
             exact absurd H (by simp)
           ·rw [if_neg c56] at H
            have c56b0 : (t825 == 0) = false := beq_eq_false_iff_ne.mpr c56
            have c56b1 : (t825 != 0) = true := bne_iff_ne.mpr c56
            exact absurd ((Option.some.inj H).trans hrT) (by decide)
          ·rw [if_neg c54] at H
           have c54b0 : (t821 == 0) = false := beq_eq_false_iff_ne.mpr c54
           have c54b1 : (t821 != 0) = true := bne_iff_ne.mpr c54
           by_cases c71 : (t817.length : Int) = 0
           ·rw [if_pos c71] at H
            have c71b0 : ((t817.length : Int) == 0) = true := beq_iff_eq.mpr c71
            have c71b1 : ((t817.length : Int) != 0) = false := bne_eq_false_iff_eq.mpr c71
            clear c71
            obtain rfl := Option.some.inj H
            have hcz72_0 : wc.cell? ⟨gb793, 0, none⟩ = some (.int .i64 t784) := (blk_cell BK793.out 0).trans rfl
            have hcz72_1 : wc.cell? ⟨gb793, 1, none⟩ = some (.int .i64 t785) := (blk_cell BK793.out 1).trans rfl
            have hcz72_2 : wc.cell? ⟨gb793, 2, none⟩ = some (.slice Ao21 t786.length co21) := (blk_cell BK793.out 2).trans rfl
            have hcz72_3 : wc.cell? ⟨gb793, 3, none⟩ = some (.slice Ao22 t789.length co22) := (blk_cell BK793.out 3).trans rfl
            have hfz72_0 := blk_frozen BK793.out 0
            have hfz72_1 := blk_frozen BK793.out 1
            have hfz72_2 := blk_frozen BK793.out 2
            have hfz72_3 := blk_frozen BK793.out 3
            go_wp2_with (first | ((with_reducible refine gate_callee (f := 12) rfl ?_); refine goesL_ (some 125) rfl rfl Try.func12 (by kernel_rfl) rfl #[.slice A3 l3.length c3, .int .i64 a4, .agg #[.int .i64 t784, .int .i64 t785, .slice Ao21 t786.length co21, .slice Ao22 t789.length co22]] rfl (by (try simp only [List.map_toArray, List.map_cons, List.map_nil]); first | done | rfl | (simp only [List.length_drop, List.length_take]; rfl)) ?_; (with_reducible refine (huff_Get.calls _ _ l3 a4 t784 t785 _ _ t786 _ _ t789 t817 t820 t821 _ ?side1 ?side2 ?side3 ?side4 ?side5 ?side6 A53.out).mono ?_); (case side1 => repeat (first | exact (Kd.C_below HR3.out HB.out) | (with_reducible refine Kd.C_alloc ?_ _) | (with_reducible refine Kd.C_drewN ?_ _) | (with_reducible refine Kd.C_drew ?_))); (case side2 => exact HC3.out); (case side3 => repeat (first | exact (Kd.R_reads' HO_794002.out).2.2 | (with_reducible refine Kd.C_alloc ?_ _) | (with_reducible refine Kd.C_drewN ?_ _) | (with_reducible refine Kd.C_drew ?_))); (case side4 => exact (Kd.R_reads' HO_794002.out).2.1); (case side5 => repeat (first | exact (Kd.R_reads' HO_794003.out).2.2 | (with_reducible refine Kd.C_alloc ?_ _) | (with_reducible refine Kd.C_drewN ?_ _) | (with_reducible refine Kd.C_drew ?_))); (case side6 => exact (Kd.R_reads' HO_794003.out).2.1); rintro e w73 ⟨v818, rfl, ho0, hb⟩; refine ⟨_, rfl, ?_⟩; have n0_ := Aside0.mk (Kd.R_elder' (by (with_reducible repeat (first | apply Kd.R_alloc | apply Kd.R_drewN | apply Kd.R_drew)); exact HO_794002.out) (Kd.R_base ho0) hb); have n1_ := Aside0.mk (Kd.R_elder' (by (with_reducible repeat (first | apply Kd.R_alloc | apply Kd.R_drewN | apply Kd.R_drew)); exact HO_794003.out) (Kd.R_base ho0) hb); have n2_ := Aside0.mk (Kd.R_lower (Kd.R_new' (Kd.R_new' ho0 (Kd.R_lt (by (with_reducible repeat (first | apply Kd.R_alloc | apply Kd.R_drewN | apply Kd.R_drew)); exact HO_794002.out))) (Kd.R_lt (by (with_reducible repeat (first | apply Kd.R_alloc | apply Kd.R_drewN | apply Kd.R_drew)); exact HO_794003.out))) (below_size (by repeat (first | (with_reducible first | exact HB.out | apply below_alloc | apply pw_below_drewN | apply below_drew1 | refine below_set ?_ GE793.out) | exact HB.out)))); have n3_ := Aside0.mk (blk_below (g := gb793) (o := .cells #[.int .i64 t784, .int .i64 t785, .slice Ao21 t786.length co21, .slice Ao22 t789.length co22] 25 (0, 0)) (by (with_reducible repeat (first | refine blk_drewN ?_ _ | refine blk_drew ?_ | refine blk_alloc ?_ _)); exact BK793.out) hb); have n4_ := Aside0.mk (below_step (by repeat (first | (with_reducible first | exact HB.out | apply below_alloc | apply pw_below_drewN | apply below_drew1 | refine below_set ?_ GE793.out) | exact HB.out)) hb); clear HO_794002; clear HO_794003; clear BK793; clear HB; have HO_794002 := n0_; have HO_794003 := n1_; have HO819 := n2_; have BK793 := n3_; have HB := n4_; clear n0_ n1_ n2_ n3_ n4_; (try clear hb); (try clear hb2); (try clear hk); (try clear hi); (try clear ho0); obtain ⟨Ao74, co74, eo74⟩ := Kd.R_slice HO819.out; subst eo74))
            go_ret
            exact ⟨by first | rfl | (simp [errW_none, errW_some] <;> rfl) | (simp [*, errW_none, errW_some] <;> rfl), by repeat (first | (with_reducible first | exact HB.out | apply below_alloc | apply pw_below_drewN | apply below_drew1 | refine below_set ?_ GE793.out) | exact HB.out)⟩
           ·rw [if_neg c71] at H
            have c71b0 : ((t817.length : Int) == 0) = false := beq_eq_false_iff_ne.mpr c71
            have c71b1 : ((t817.length : Int) != 0) = true := bne_iff_ne.mpr c71
            have c71b2 : ¬ (t817 = []) := fun h_ => c71 (by rw [h_]; rfl)
            exact absurd ((Option.some.inj H).trans hrT) (by decide)
    ·rw [if_neg c14] at H
     have c14b0 : (t792 == 0) = false := beq_eq_false_iff_ne.mpr c14
     have c14b1 : (t792 != 0) = true := bne_iff_ne.mpr c14
     exact absurd ((Option.some.inj H).trans hrT) (by decide)

/-- THE ONE PURE STATEMENT of reedpipelaw09_HuffBack: yours. -/
def reedpipelaw09_HuffBack.Pure : Prop := ∀ (a0 : Int) (l1 : List Int) (l2 : List Int) (l3 : List Int) (a4 : Int), (Lit.int .u8 a0).wf = true → l1.length ≤ maxLen → l1.length * 8 ≤ 140737488351232 → (∀ x ∈ l1, (Lit.int .i64 x).wf = true) → l2.length ≤ maxLen → l2.length * 1 ≤ 140737488351232 → (∀ x ∈ l2, (Lit.int .u8 x).wf = true) → l3.length ≤ maxLen → l3.length * 1 ≤ 140737488351232 → (∀ x ∈ l3, (Lit.int .u8 x).wf = true) → (Lit.int .i64 a4).wf = true → ∃ k, reedpipelaw09_HuffBack.f k a0 l1 l2 l3 a4 = some true
theorem reedpipelaw09_HuffBack.walk (P : reedpipelaw09_HuffBack.Pure) (a0 : Int) (a1 : Option Addr) (len1 cap1 : Nat) (z1 : List Int) (a2 : Option Addr) (len2 cap2 : Nat) (z2 : List Int) (a3 : Option Addr) (len3 cap3 : Nat) (z3 : List Int) (a4 : Int) (w : World) (w0 : (Lit.int .u8 a0).wf = true) (w1 : (a1 = none ∧ len1 = 0 ∧ cap1 = 0 ∧ z1 = []) ∨ ∃ x, a1 = some x ∧ len1 ≤ cap1 ∧ cap1 ≤ maxLen ∧ z1.length = cap1 ∧ (∀ i, i < z1.length → w.cell? (x.add i) = some (.int .i64 (z1.getD i 0))) ∧ ∀ n ∈ z1, (Lit.int .i64 n).wf = true) (y1 : len1 * 8 ≤ 140737488351232) (w2 : (a2 = none ∧ len2 = 0 ∧ cap2 = 0 ∧ z2 = []) ∨ ∃ x, a2 = some x ∧ len2 ≤ cap2 ∧ cap2 ≤ maxLen ∧ z2.length = cap2 ∧ (∀ i, i < z2.length → w.cell? (x.add i) = some (.int .u8 (z2.getD i 0))) ∧ ∀ n ∈ z2, (Lit.int .u8 n).wf = true) (y2 : len2 * 1 ≤ 140737488351232) (w3 : (a3 = none ∧ len3 = 0 ∧ cap3 = 0 ∧ z3 = []) ∨ ∃ x, a3 = some x ∧ len3 ≤ cap3 ∧ cap3 ≤ maxLen ∧ z3.length = cap3 ∧ (∀ i, i < z3.length → w.cell? (x.add i) = some (.int .u8 (z3.getD i 0))) ∧ ∀ n ∈ z3, (Lit.int .u8 n).wf = true) (y3 : len3 * 1 ≤ 140737488351232) (w4 : (Lit.int .i64 a4).wf = true) :
  Calls Try.prog 8 #[.int .u8 a0, .slice a1 len1 cap1, .slice a2 len2 cap2, .slice a3 len3 cap3, .int .i64 a4] w fun e w' => e = .returned (.bool true) ∧ Below w.heap.size w w' := by
 obtain ⟨l1, rfl, hr1, hm1, hw1, hc1⟩ := ReadsInt.ofRowC w1
 obtain ⟨l2, rfl, hr2, hm2, hw2, hc2⟩ := ReadsInt.ofRowC w2
 obtain ⟨l3, rfl, hr3, hm3, hw3, hc3⟩ := ReadsInt.ofRowC w3
 obtain ⟨k, h⟩ := P a0 l1 l2 l3 a4 w0 hm1 y1 hw1 hm2 y2 hw2 hm3 y3 hw3 w4
 refine (reedpipelaw09_HuffBack.calls k a0 _ _ l1 _ _ l2 _ _ l3 a4 true w (Kd.C_of_reads (d := (0 : Int)) (h1 := fun _ => rfl) hr1) hc1 (Kd.C_of_reads (d := (0 : Int)) (h1 := fun _ => rfl) hr2) hc2 (Kd.C_of_reads (d := (0 : Int)) (h1 := fun _ => rfl) hr3) hc3 h rfl).mono ?_
 rintro e w' ⟨rfl, hd⟩
 exact ⟨rfl, hd⟩

end Go.Proofs.Ytchflniekbhohaa.P
