/- Contracts and laws of the books, each proved once: texts of this claim joined in build order. -/
import Derived.Test.YtoeiogefngcdiaaK0abc0
import Derived.Test.YtoeiogefngcdiaaK3abc0
import Derived.Test.YtoeiogefngcdiaaK3bc0
import Derived.Test.YtoeiogefngcdiaaK6abc0
import Derived.Test.YtoeiogefngcdiaaHGetK

-- PRINTED by print.py (a twelfth state) out of the translation. Not trusted: Lean checks it.
namespace Go.Proofs.Ytoeiogefngcdiaa.P
open Go.RowKit Go.Proofs.YtoeiogefngcdiaaW.PrintWords Go.Proofs.YtoeiogefngcdiaaW.PrintLast Go.Proofs.YtoeiogefngcdiaaW.PrintMore
attribute [local go_sem] max2_int min2_int max_two min_two max_three min_three max_four min_four   -- for this text's walks alone
set_option linter.unusedVariables false
set_option linter.unusedSimpArgs false

/-! ### reedpipelaw08_BookPrefix: function 9 -/
mutual
def reedpipelaw08_BookPrefix.j0 : Nat → Int → Int → List Int → List Int → Int → Bool → Bool → Option (Bool)
  | 0, _, _, _, _, _, _, _ => none
  | k + 1, x0, x1, x2, x3, x4, x11, x37 => if x37 = true then (some x11) else ((book_Get.f (wrap64 ((Int.tmod (wrap64 (x0)) 12) + 1))).bind fun bt533 => (if bt533.2.2.2.2 = 0 then (if (bt533.2.2.2.1.length : Int) = 0 then (none) else ((book_Code.f k bt533.1 bt533.2.1 bt533.2.2.1 bt533.2.2.2.1 (Int.tmod (wrap64 (x1)) (bt533.2.2.2.1.length : Int))).bind fun bt543 => ((some (([] : List Int) : List Int)).bind fun y547 => (if y547.length + bt543.1.length < 140737488355328 then ((some (y547 ++ bt543.1 : List Int)).bind fun y550 => (if y550.length + x2.length < 140737488355328 then ((book_Read.f k bt533.1 bt533.2.1 bt533.2.2.1 bt533.2.2.2.1 (y550 ++ x2) 0).bind fun bt556 => (if bt543.2 = 0 then (if bt556.2.2 = 0 then (if bt556.1 = (Int.tmod (wrap64 (x1)) (bt533.2.2.2.1.length : Int)) then (if bt556.2.1 = (bt543.1.length : Int) then (reedpipelaw08_BookPrefix.j1 k x3 x4 (decide ((bt543.1.length : Int) > 19)) bt533.1 bt533.2.1 bt533.2.2.1 bt533.2.2.2.1) else (reedpipelaw08_BookPrefix.j1 k x3 x4 true bt533.1 bt533.2.1 bt533.2.2.1 bt533.2.2.2.1)) else (reedpipelaw08_BookPrefix.j1 k x3 x4 true bt533.1 bt533.2.1 bt533.2.2.1 bt533.2.2.2.1)) else (reedpipelaw08_BookPrefix.j1 k x3 x4 true bt533.1 bt533.2.1 bt533.2.2.1 bt533.2.2.2.1)) else (reedpipelaw08_BookPrefix.j1 k x3 x4 true bt533.1 bt533.2.1 bt533.2.2.1 bt533.2.2.2.1))) else (none))) else (none))))) else (some false)))
def reedpipelaw08_BookPrefix.j1 : Nat → List Int → Int → Bool → Int → Int → List Int → List Int → Option (Bool)
  | 0, _, _, _, _, _, _, _ => none
  | k + 1, x3, x4, x93, x543000, x543001, x543002, x543003 => if x93 = true then (some false) else ((book_Read.f k x543000 x543001 x543002 x543003 x3 x4).bind fun bt559 => (if bt559.2.2 = 0 then ((book_Code.f k x543000 x543001 x543002 x543003 bt559.1).bind fun bt562 => (if bt562.2 = 0 then (if 0 ≤ x4 then (if x4 ≤ bt559.2.1 then (if bt559.2.1 ≤ (x3.length : Int) then (some ((strOfNums bt562.1).toList == (strOfNums ((x3.take (bt559.2.1 : Int).toNat).drop (x4 : Int).toNat)).toList)) else (none)) else (none)) else (none)) else (some false))) else (if bt559.1 = 0 then (some (bt559.2.1 == 0)) else (some false))))
end
def reedpipelaw08_BookPrefix.f (k : Nat) (a0 : Int) (a1 : Int) (l2 : List Int) (l3 : List Int) (a4 : Int) : Option (Bool) := (reedpipelaw08_alive.f k).bind fun t532 => (if (l2.length : Int) > 10000 then (reedpipelaw08_BookPrefix.j0 k a0 a1 l2 l3 a4 t532 true) else (if (l3.length : Int) > 10000 then (reedpipelaw08_BookPrefix.j0 k a0 a1 l2 l3 a4 t532 true) else (reedpipelaw08_BookPrefix.j0 k a0 a1 l2 l3 a4 t532 (!t532))))
theorem reedpipelaw08_BookPrefix.mono_l : ∀ k, (∀ y0 y1 y2 y3 y4 y5 y6, LeO (reedpipelaw08_BookPrefix.j0 k y0 y1 y2 y3 y4 y5 y6) (reedpipelaw08_BookPrefix.j0 (k + 1) y0 y1 y2 y3 y4 y5 y6)) ∧ (∀ y0 y1 y2 y3 y4 y5 y6, LeO (reedpipelaw08_BookPrefix.j1 k y0 y1 y2 y3 y4 y5 y6) (reedpipelaw08_BookPrefix.j1 (k + 1) y0 y1 y2 y3 y4 y5 y6))
  | 0 => ⟨fun _ _ _ _ _ _ _ r h => by simp [reedpipelaw08_BookPrefix.j0] at h, fun _ _ _ _ _ _ _ r h => by simp [reedpipelaw08_BookPrefix.j1] at h⟩
  | k + 1 => by
    obtain ⟨ih0, ih1⟩ := reedpipelaw08_BookPrefix.mono_l k
    refine ⟨?_, ?_⟩
    · intro y0 y1 y2 y3 y4 y5 y6
      unfold reedpipelaw08_BookPrefix.j0
      repeat' first
      | (with_reducible exact ih0 _ _ _ _ _ _ _)
      | (with_reducible exact ih1 _ _ _ _ _ _ _)
      | (with_reducible exact book_Code.mono _ _ _ _ _ _)
      | (with_reducible exact book_Read.mono _ _ _ _ _ _ _)
      | (with_reducible exact reedpipelaw08_alive.mono _)
      | (with_reducible exact LeO.refl _)
      | (with_reducible exact LeO.none _)
      | (with_reducible refine LeO.ite ?_ ?_)
      | (with_reducible refine LeO.bind ?_ (fun _ => ?_))
      | exact ih0 _ _ _ _ _ _ _
      | exact ih1 _ _ _ _ _ _ _
      | exact book_Code.mono _ _ _ _ _ _
      | exact book_Read.mono _ _ _ _ _ _ _
      | exact reedpipelaw08_alive.mono _
      | exact LeO.none _
      | refine LeO.ite ?_ ?_
      | refine LeO.bind ?_ (fun _ => ?_)
    · intro y0 y1 y2 y3 y4 y5 y6
      unfold reedpipelaw08_BookPrefix.j1
      repeat' first
      | (with_reducible exact ih0 _ _ _ _ _ _ _)
      | (with_reducible exact ih1 _ _ _ _ _ _ _)
      | (with_reducible exact book_Code.mono _ _ _ _ _ _)
      | (with_reducible exact book_Read.mono _ _ _ _ _ _ _)
      | (with_reducible exact reedpipelaw08_alive.mono _)
      | (with_reducible exact LeO.refl _)
      | (with_reducible exact LeO.none _)
      | (with_reducible refine LeO.ite ?_ ?_)
      | (with_reducible refine LeO.bind ?_ (fun _ => ?_))
      | exact ih0 _ _ _ _ _ _ _
      | exact ih1 _ _ _ _ _ _ _
      | exact book_Code.mono _ _ _ _ _ _
      | exact book_Read.mono _ _ _ _ _ _ _
      | exact reedpipelaw08_alive.mono _
      | exact LeO.none _
      | refine LeO.ite ?_ ?_
      | refine LeO.bind ?_ (fun _ => ?_)
theorem reedpipelaw08_BookPrefix.mono : ∀ a0 a1 a2 a3 a4 k, LeO (reedpipelaw08_BookPrefix.f k a0 a1 a2 a3 a4) (reedpipelaw08_BookPrefix.f (k + 1) a0 a1 a2 a3 a4) := by
  intro a0 a1 a2 a3 a4 k
  obtain ⟨ih0, ih1⟩ := reedpipelaw08_BookPrefix.mono_l k
  unfold reedpipelaw08_BookPrefix.f
  repeat' first
      | (with_reducible exact ih0 _ _ _ _ _ _ _)
      | (with_reducible exact ih1 _ _ _ _ _ _ _)
      | (with_reducible exact book_Code.mono _ _ _ _ _ _)
      | (with_reducible exact book_Read.mono _ _ _ _ _ _ _)
      | (with_reducible exact reedpipelaw08_alive.mono _)
      | (with_reducible exact LeO.refl _)
      | (with_reducible exact LeO.none _)
      | (with_reducible refine LeO.ite ?_ ?_)
      | (with_reducible refine LeO.bind ?_ (fun _ => ?_))
      | exact ih0 _ _ _ _ _ _ _
      | exact ih1 _ _ _ _ _ _ _
      | exact book_Code.mono _ _ _ _ _ _
      | exact book_Read.mono _ _ _ _ _ _ _
      | exact reedpipelaw08_alive.mono _
      | exact LeO.none _
      | refine LeO.ite ?_ ?_
      | refine LeO.bind ?_ (fun _ => ?_)
def reedpipelaw08_BookPrefix.T9 : Bool × List (List Nat × List Nat) := (true, [([], []), ([], []), ([], []), ([1, 2], [1, 2]), ([], []), ([3, 4, 3], [3, 4]), ([0, 5, 5], [0, 5]), ([6], [6]), ([7], [7]), ([7], [7]), ([7], [7]), ([8, 6, 0, 1, 2, 3, 4, 5, 6, 7, 8], [8]), ([9, 11, 0, 1, 2, 3, 4, 5, 6, 7, 8, 9, 11], [9]), ([10, 12, 0, 1, 2, 3, 4, 5, 6, 7, 8, 9, 10, 11, 12], [10])])
def reedpipelaw08_BookPrefix.B9 : List Nat := [0, 0, 0, 6, 0, 30, 63, 127, 255, 255, 255, 511, 3071, 8191]
theorem reedpipelaw08_BookPrefix.tab9 : rtab .any (opsOf Try.f9 9) = reedpipelaw08_BookPrefix.T9 := by kernel_rfl
theorem reedpipelaw08_BookPrefix.bits9 : waitsOk reedpipelaw08_BookPrefix.T9.2 reedpipelaw08_BookPrefix.B9 = true := by kernel_rfl
def reedpipelaw08_BookPrefix.T16 : Bool × List (List Nat × List Nat) := (true, [([], []), ([0], [0]), ([1], [1]), ([2], [2]), ([3, 2], [2, 3]), ([2], [2]), ([2], [2]), ([2], [2]), ([5, 6, 7, 2], [2, 5, 6, 7]), ([8, 2], [2, 8]), ([4, 9, 2], [2, 4, 9]), ([2, 10], [2, 10]), ([11, 2, 0, 1, 2, 3, 4, 5, 6, 7, 8, 9, 10, 11], [11])])
def reedpipelaw08_BookPrefix.B16 : List Nat := [0, 1, 3, 7, 15, 7, 7, 7, 231, 487, 1023, 2047, 4095]
theorem reedpipelaw08_BookPrefix.tab16 : rtab .any (opsOf Try.f9 16) = reedpipelaw08_BookPrefix.T16 := by kernel_rfl
theorem reedpipelaw08_BookPrefix.bits16 : waitsOk reedpipelaw08_BookPrefix.T16.2 reedpipelaw08_BookPrefix.B16 = true := by kernel_rfl
set_option maxHeartbeats 8000000 in
set_option maxRecDepth 100000 in
theorem reedpipelaw08_BookPrefix.calls (k : Nat) (a0 : Int) (a1 : Int) (A2 : Option Addr) (c2 : Nat) (l2 : List Int) (A3 : Option Addr) (c3 : Nat) (l3 : List Int) (a4 : Int) (r : Bool) (w : World) (hr2 : Kd.C (Kd.int .u8) w A2 l2.length l2) (hc2 : l2.length ≤ c2) (hr3 : Kd.C (Kd.int .u8) w A3 l3.length l3) (hc3 : l3.length ≤ c3) (h : reedpipelaw08_BookPrefix.f k a0 a1 l2 l3 a4 = some r) (hrT : r = true) :
    Calls Try.prog 9 #[.int .u8 a0, .int .u16 a1, .slice A2 l2.length c2, .slice A3 l3.length c3, .int .i64 a4] w fun e w' => e = .returned (.bool r) ∧ Below w.heap.size w w' := by
  have hu24 := Try.underlying24
  have HR2 := Aside0.mk hr2
  have HC2 := Aside0.mk hc2
  clear hr2 hc2
  have HR3 := Aside0.mk hr3
  have HC3 := Aside0.mk hc3
  clear hr3 hc3
  have HB := Aside0.mk (Below.refl w.heap.size w)
  have H : ((reedpipelaw08_alive.f k).bind fun t532 => (if (l2.length : Int) > 10000 then (reedpipelaw08_BookPrefix.j0 k a0 a1 l2 l3 a4 t532 true) else (if (l3.length : Int) > 10000 then (reedpipelaw08_BookPrefix.j0 k a0 a1 l2 l3 a4 t532 true) else (reedpipelaw08_BookPrefix.j0 k a0 a1 l2 l3 a4 t532 (!t532))))) = some r := h
  clear h
  replace H := Option.bind_eq_some_iff.mp H
  obtain ⟨t532, A60, H⟩ := H
  replace H : (if (l2.length : Int) > 10000 then (reedpipelaw08_BookPrefix.j0 k a0 a1 l2 l3 a4 t532 true) else (if (l3.length : Int) > 10000 then (reedpipelaw08_BookPrefix.j0 k a0 a1 l2 l3 a4 t532 true) else (reedpipelaw08_BookPrefix.j0 k a0 a1 l2 l3 a4 t532 (!t532)))) = some r := H
  have A6 := Aside0.mk A60
  clear A60
  have HC7 := Aside0.mk H
  clear H
  go_enter Try.func9, Try.ntmps9
  go_upto_region 2 with (first | ((with_reducible refine gate_callee (f := 23) rfl ?_); refine goesL_ (some 25) rfl rfl Try.func23 (by kernel_rfl) rfl #[] rfl (by (try simp only [List.map_toArray, List.map_cons, List.map_nil]); first | done | rfl | (simp only [List.length_drop, List.length_take]; rfl)) ?_; (with_reducible refine (reedpipelaw08_alive.calls k  t532 _ A6.out).mono ?_); rintro e w8 ⟨rfl, hb⟩; refine ⟨_, rfl, ?_⟩; have n0_ := Aside0.mk (below_step (by repeat (first | (with_reducible first | exact HB.out | apply below_alloc | apply pw_below_drewN | apply below_drew1) | exact HB.out)) hb); clear HB; have HB := n0_; clear n0_; (try clear hb); (try clear hb2); (try clear hk); (try clear hi)))
  (try simp only [Act.put, List.setIfInBounds_toArray, List.set_cons_zero, List.set_cons_succ])
  go_cut [37] (fun v37 wc => ∃ (kq : Nat) (x37_6 : Bool), v37 = .bool x37_6 ∧ Aside0 (reedpipelaw08_BookPrefix.j0 kq a0 a1 l2 l3 a4 t532 x37_6 = some r) ∧ Aside0 (kq ≤ k) ∧ Aside0 (Below w.heap.size w wc))
  case first =>
    have H := HC7.out
    clear HC7
    by_cases c9 : (l2.length : Int) > 10000
    · rw [if_pos c9] at H
      have c9b0 : decide (10000 < (l2.length : Int)) = true := decide_eq_true c9
      have c9b1 : decide (10000 < l2.length) = true := decide_eq_true (by omega)
      clear c9
      (first | rw [c9b0] | (simp only [i64_w, i32_w]; rw [c9b0]) | skip)
      have H' := Aside0.mk H
      clear H
      go_wp2
      go_meet
      case rel => exact ⟨_, (true), (by first | rfl | (simp; done) | (simp [*]; done)), H', ⟨by first | omega | exact Nat.le_refl _⟩, ⟨by repeat (first | (with_reducible first | exact HB.out | apply below_alloc | apply pw_below_drewN | apply below_drew1) | exact HB.out)⟩⟩
    · rw [if_neg c9] at H
      have c9b0 : decide (10000 < (l2.length : Int)) = false := decide_eq_false c9
      have c9b1 : decide (10000 < l2.length) = false := decide_eq_false (by omega)
      clear c9
      (first | rw [c9b0] | (simp only [i64_w, i32_w]; rw [c9b0]) | skip)
      by_cases c10 : (l3.length : Int) > 10000
      · rw [if_pos c10] at H
        have c10b0 : decide (10000 < (l3.length : Int)) = true := decide_eq_true c10
        have c10b1 : decide (10000 < l3.length) = true := decide_eq_true (by omega)
        clear c10
        have H' := Aside0.mk H
        clear H
        go_wp2
        go_meet
        case rel => exact ⟨_, (true), (by first | rfl | (simp; done) | (simp [*]; done)), H', ⟨by first | omega | exact Nat.le_refl _⟩, ⟨by repeat (first | (with_reducible first | exact HB.out | apply below_alloc | apply pw_below_drewN | apply below_drew1) | exact HB.out)⟩⟩
      · rw [if_neg c10] at H
        have c10b0 : decide (10000 < (l3.length : Int)) = false := decide_eq_false c10
        have c10b1 : decide (10000 < l3.length) = false := decide_eq_false (by omega)
        clear c10
        have H' := Aside0.mk H
        clear H
        go_wp2
        go_meet
        case rel => exact ⟨_, (!t532), (by first | rfl | (simp; done) | (simp [*]; done)), H', ⟨by first | omega | exact Nat.le_refl _⟩, ⟨by repeat (first | (with_reducible first | exact HB.out | apply below_alloc | apply pw_below_drewN | apply below_drew1) | exact HB.out)⟩⟩
  case rest =>
    clear HC7
    try clear c1
    try clear c2
    try clear p2
    try clear c3
    try clear c9
    try clear c9b0
    try clear c9b1
    try clear c10
    try clear c10b0
    try clear c10b1
    obtain ⟨kq, x37_6, rfl, HA, HJ6, HB⟩ := hcut
    cases kq with
    | zero => exact absurd HA.out (by simp [reedpipelaw08_BookPrefix.j0])
    | succ kj6 =>
      have H := HA.out
      clear HA
      simp only [reedpipelaw08_BookPrefix.j0] at H
      by_cases c11 : x37_6 = true
      · subst c11
        have H1 : (some t532) = some r := by rw [if_pos rfl] at H; exact H
        clear H
        have H := H1
        clear H1
        obtain rfl := Option.some.inj H
        go_wp2
        go_ret
        exact ⟨by first | rfl | (simp [errW_none, errW_some] <;> rfl) | (simp [*, errW_none, errW_some] <;> rfl), by repeat (first | (with_reducible first | exact HB.out | apply below_alloc | apply pw_below_drewN | apply below_drew1) | exact HB.out)⟩
      · replace c11 := Bool.eq_false_iff.mpr c11
        subst c11
        have H1 : ((book_Get.f (wrap64 ((Int.tmod (wrap64 (a0)) 12) + 1))).bind fun bt533 => (if bt533.2.2.2.2 = 0 then (if (bt533.2.2.2.1.length : Int) = 0 then (none) else ((book_Code.f kj6 bt533.1 bt533.2.1 bt533.2.2.1 bt533.2.2.2.1 (Int.tmod (wrap64 (a1)) (bt533.2.2.2.1.length : Int))).bind fun bt543 => ((some (([] : List Int) : List Int)).bind fun y547 => (if y547.length + bt543.1.length < 140737488355328 then ((some (y547 ++ bt543.1 : List Int)).bind fun y550 => (if y550.length + l2.length < 140737488355328 then ((book_Read.f kj6 bt533.1 bt533.2.1 bt533.2.2.1 bt533.2.2.2.1 (y550 ++ l2) 0).bind fun bt556 => (if bt543.2 = 0 then (if bt556.2.2 = 0 then (if bt556.1 = (Int.tmod (wrap64 (a1)) (bt533.2.2.2.1.length : Int)) then (if bt556.2.1 = (bt543.1.length : Int) then (reedpipelaw08_BookPrefix.j1 kj6 l3 a4 (decide ((bt543.1.length : Int) > 19)) bt533.1 bt533.2.1 bt533.2.2.1 bt533.2.2.2.1) else (reedpipelaw08_BookPrefix.j1 kj6 l3 a4 true bt533.1 bt533.2.1 bt533.2.2.1 bt533.2.2.2.1)) else (reedpipelaw08_BookPrefix.j1 kj6 l3 a4 true bt533.1 bt533.2.1 bt533.2.2.1 bt533.2.2.2.1)) else (reedpipelaw08_BookPrefix.j1 kj6 l3 a4 true bt533.1 bt533.2.1 bt533.2.2.1 bt533.2.2.2.1)) else (reedpipelaw08_BookPrefix.j1 kj6 l3 a4 true bt533.1 bt533.2.1 bt533.2.2.1 bt533.2.2.2.1))) else (none))) else (none))))) else (some false))) = some r := by rw [if_neg (show ¬ (false = true) by decide)] at H; exact H
        clear H
        have H := H1
        clear H1
        replace H := Option.bind_eq_some_iff.mp H
        obtain ⟨⟨t533, t534, t535, t538, t541⟩, A120, H⟩ := H
        replace H : (if t541 = 0 then (if (t538.length : Int) = 0 then (none) else ((book_Code.f kj6 t533 t534 t535 t538 (Int.tmod (wrap64 (a1)) (t538.length : Int))).bind fun bt543 => ((some (([] : List Int) : List Int)).bind fun y547 => (if y547.length + bt543.1.length < 140737488355328 then ((some (y547 ++ bt543.1 : List Int)).bind fun y550 => (if y550.length + l2.length < 140737488355328 then ((book_Read.f kj6 t533 t534 t535 t538 (y550 ++ l2) 0).bind fun bt556 => (if bt543.2 = 0 then (if bt556.2.2 = 0 then (if bt556.1 = (Int.tmod (wrap64 (a1)) (t538.length : Int)) then (if bt556.2.1 = (bt543.1.length : Int) then (reedpipelaw08_BookPrefix.j1 kj6 l3 a4 (decide ((bt543.1.length : Int) > 19)) t533 t534 t535 t538) else (reedpipelaw08_BookPrefix.j1 kj6 l3 a4 true t533 t534 t535 t538)) else (reedpipelaw08_BookPrefix.j1 kj6 l3 a4 true t533 t534 t535 t538)) else (reedpipelaw08_BookPrefix.j1 kj6 l3 a4 true t533 t534 t535 t538)) else (reedpipelaw08_BookPrefix.j1 kj6 l3 a4 true t533 t534 t535 t538))) else (none))) else (none))))) else (some false)) = some r := H
        have A12 := Aside0.mk A120
        clear A120
        by_cases c13 : t541 = 0
        · rw [if_pos c13] at H
          have c13b0 : (t541 == 0) = true := beq_iff_eq.mpr c13
          have c13b1 : (t541 != 0) = false := bne_eq_false_iff_eq.mpr c13
          clear c13
          by_cases c14 : (t538.length : Int) = 0
          · rw [if_pos c14] at H
            exact absurd H (by simp)
          · rw [if_neg c14] at H
            have c14b0 : ((t538.length : Int) == 0) = false := beq_eq_false_iff_ne.mpr c14
            have c14b1 : ((t538.length : Int) != 0) = true := bne_iff_ne.mpr c14
            have c14b2 : ¬ (t538 = []) := fun h_ => c14 (by rw [h_]; rfl)
            replace H := Option.bind_eq_some_iff.mp H
            obtain ⟨⟨t543, t546⟩, A150, H⟩ := H
            replace H : ((some (([] : List Int) : List Int)).bind fun y547 => (if y547.length + t543.length < 140737488355328 then ((some (y547 ++ t543 : List Int)).bind fun y550 => (if y550.length + l2.length < 140737488355328 then ((book_Read.f kj6 t533 t534 t535 t538 (y550 ++ l2) 0).bind fun bt556 => (if t546 = 0 then (if bt556.2.2 = 0 then (if bt556.1 = (Int.tmod (wrap64 (a1)) (t538.length : Int)) then (if bt556.2.1 = (t543.length : Int) then (reedpipelaw08_BookPrefix.j1 kj6 l3 a4 (decide ((t543.length : Int) > 19)) t533 t534 t535 t538) else (reedpipelaw08_BookPrefix.j1 kj6 l3 a4 true t533 t534 t535 t538)) else (reedpipelaw08_BookPrefix.j1 kj6 l3 a4 true t533 t534 t535 t538)) else (reedpipelaw08_BookPrefix.j1 kj6 l3 a4 true t533 t534 t535 t538)) else (reedpipelaw08_BookPrefix.j1 kj6 l3 a4 true t533 t534 t535 t538))) else (none))) else (none))) = some r := H
            have A15 := Aside0.mk A150
            clear A150
            obtain ⟨y547, hy547⟩ : ∃ y_ : List Int, y_ = (([] : List Int)) := ⟨_, rfl⟩
            replace H : (if y547.length + t543.length < 140737488355328 then ((some (y547 ++ t543 : List Int)).bind fun y550 => (if y550.length + l2.length < 140737488355328 then ((book_Read.f kj6 t533 t534 t535 t538 (y550 ++ l2) 0).bind fun bt556 => (if t546 = 0 then (if bt556.2.2 = 0 then (if bt556.1 = (Int.tmod (wrap64 (a1)) (t538.length : Int)) then (if bt556.2.1 = (t543.length : Int) then (reedpipelaw08_BookPrefix.j1 kj6 l3 a4 (decide ((t543.length : Int) > 19)) t533 t534 t535 t538) else (reedpipelaw08_BookPrefix.j1 kj6 l3 a4 true t533 t534 t535 t538)) else (reedpipelaw08_BookPrefix.j1 kj6 l3 a4 true t533 t534 t535 t538)) else (reedpipelaw08_BookPrefix.j1 kj6 l3 a4 true t533 t534 t535 t538)) else (reedpipelaw08_BookPrefix.j1 kj6 l3 a4 true t533 t534 t535 t538))) else (none))) else (none)) = some r := by first | (rw [hy547]; with_reducible exact H) | (have H2_ := (Option.bind_some _ _).symm.trans H; rw [hy547]; with_reducible exact H2_) | (have H2_ := (Option.bind_some _ _).symm.trans H; with_reducible exact H2_) | with_reducible exact H | (rw [hy547]; exact H) | exact H
            have Ny547 := Aside0.mk hy547
            clear hy547
            by_cases c16 : y547.length + t543.length < 140737488355328
            · rw [if_pos c16] at H
              have LMc16 := Aside0.mk c16
              clear c16
              obtain ⟨y550, hy550⟩ : ∃ y_ : List Int, y_ = (y547 ++ t543) := ⟨_, rfl⟩
              replace H : (if y550.length + l2.length < 140737488355328 then ((book_Read.f kj6 t533 t534 t535 t538 (y550 ++ l2) 0).bind fun bt556 => (if t546 = 0 then (if bt556.2.2 = 0 then (if bt556.1 = (Int.tmod (wrap64 (a1)) (t538.length : Int)) then (if bt556.2.1 = (t543.length : Int) then (reedpipelaw08_BookPrefix.j1 kj6 l3 a4 (decide ((t543.length : Int) > 19)) t533 t534 t535 t538) else (reedpipelaw08_BookPrefix.j1 kj6 l3 a4 true t533 t534 t535 t538)) else (reedpipelaw08_BookPrefix.j1 kj6 l3 a4 true t533 t534 t535 t538)) else (reedpipelaw08_BookPrefix.j1 kj6 l3 a4 true t533 t534 t535 t538)) else (reedpipelaw08_BookPrefix.j1 kj6 l3 a4 true t533 t534 t535 t538))) else (none)) = some r := by first | (rw [hy550]; with_reducible exact H) | (have H2_ := (Option.bind_some _ _).symm.trans H; rw [hy550]; with_reducible exact H2_) | (have H2_ := (Option.bind_some _ _).symm.trans H; with_reducible exact H2_) | with_reducible exact H | (rw [hy550]; exact H) | exact H
              have Ny550 := Aside0.mk hy550
              clear hy550
              by_cases c17 : y550.length + l2.length < 140737488355328
              · rw [if_pos c17] at H
                have LMc17 := Aside0.mk c17
                clear c17
                obtain ⟨y553, hy553⟩ : ∃ y_ : List Int, y_ = (y550 ++ l2) := ⟨_, rfl⟩
                replace H : ((book_Read.f kj6 t533 t534 t535 t538 y553 0).bind fun bt556 => (if t546 = 0 then (if bt556.2.2 = 0 then (if bt556.1 = (Int.tmod (wrap64 (a1)) (t538.length : Int)) then (if bt556.2.1 = (t543.length : Int) then (reedpipelaw08_BookPrefix.j1 kj6 l3 a4 (decide ((t543.length : Int) > 19)) t533 t534 t535 t538) else (reedpipelaw08_BookPrefix.j1 kj6 l3 a4 true t533 t534 t535 t538)) else (reedpipelaw08_BookPrefix.j1 kj6 l3 a4 true t533 t534 t535 t538)) else (reedpipelaw08_BookPrefix.j1 kj6 l3 a4 true t533 t534 t535 t538)) else (reedpipelaw08_BookPrefix.j1 kj6 l3 a4 true t533 t534 t535 t538))) = some r := by first | (rw [hy553]; with_reducible exact H) | (have H2_ := (Option.bind_some _ _).symm.trans H; rw [hy553]; with_reducible exact H2_) | (have H2_ := (Option.bind_some _ _).symm.trans H; with_reducible exact H2_) | with_reducible exact H | (rw [hy553]; exact H) | exact H
                have Ny553 := Aside0.mk hy553
                clear hy553
                replace H := Option.bind_eq_some_iff.mp H
                obtain ⟨⟨t556, t557, t558⟩, A180, H⟩ := H
                replace H : (if t546 = 0 then (if t558 = 0 then (if t556 = (Int.tmod (wrap64 (a1)) (t538.length : Int)) then (if t557 = (t543.length : Int) then (reedpipelaw08_BookPrefix.j1 kj6 l3 a4 (decide ((t543.length : Int) > 19)) t533 t534 t535 t538) else (reedpipelaw08_BookPrefix.j1 kj6 l3 a4 true t533 t534 t535 t538)) else (reedpipelaw08_BookPrefix.j1 kj6 l3 a4 true t533 t534 t535 t538)) else (reedpipelaw08_BookPrefix.j1 kj6 l3 a4 true t533 t534 t535 t538)) else (reedpipelaw08_BookPrefix.j1 kj6 l3 a4 true t533 t534 t535 t538)) = some r := H
                have A18 := Aside0.mk A180
                clear A180
                have HC19 := Aside0.mk H
                clear H
                try go_wp2_with (first | ((with_reducible refine gate_callee (f := 15) rfl ?_); refine goesL_ (some 44) rfl rfl Try.func15 (by kernel_rfl) rfl #[.int .i64 (wrap64 ((Int.tmod (wrap64 (a0)) 12) + 1))] rfl (by (try simp only [List.map_toArray, List.map_cons, List.map_nil]); first | done | rfl | (simp only [List.length_drop, List.length_take]; rfl)) ?_; (with_reducible refine (book_Get.calls (wrap64 ((Int.tmod (wrap64 (a0)) 12) + 1)) t533 t534 t535 t538 t541 _ A12.out).mono ?_); rintro e w20 ⟨v536, v539, rfl, ho0, ho1, hb⟩; refine ⟨_, rfl, ?_⟩; have n0_ := Aside0.mk (Kd.R_lower ho0 (below_size (by repeat (first | (with_reducible first | exact HB.out | apply below_alloc | apply pw_below_drewN | apply below_drew1) | exact HB.out)))); have n1_ := Aside0.mk (Kd.R_lower ho1 (below_size (by repeat (first | (with_reducible first | exact HB.out | apply below_alloc | apply pw_below_drewN | apply below_drew1) | exact HB.out)))); have n2_ := Aside0.mk (below_step (by repeat (first | (with_reducible first | exact HB.out | apply below_alloc | apply pw_below_drewN | apply below_drew1) | exact HB.out)) hb); clear HB; have HO537 := n0_; have HO540 := n1_; have HB := n2_; clear n0_ n1_ n2_; (try clear hb); (try clear hb2); (try clear hk); (try clear hi); (try clear ho0); (try clear ho1)) | ((with_reducible refine gate_dst (N := 12) rfl ?_); (try (refine gate_guard (by rfl) ?_; dsimp only)); refine box_event ?hg (N := 12) ?hd (cs := #[.int .i64 0, .int .i64 0, .slice none 0 0, .slice none 0 0]) (t := 24) ?hr ?_; (case hd => rfl); (case hg => rfl); (case hr => first | (go_simp; done) | (go_simp; rfl)); intro gb542 hg w21 hbox hb; have n0_ := Aside0.mk (Kd.R_below (by (with_reducible repeat (first | apply Kd.R_alloc | apply Kd.R_drewN | apply Kd.R_drew)); exact HO537.out) hb); have n1_ := Aside0.mk (Kd.R_below (by (with_reducible repeat (first | apply Kd.R_alloc | apply Kd.R_drewN | apply Kd.R_drew)); exact HO540.out) hb); have n2_ := Aside0.mk (below_step (by repeat (first | (with_reducible first | exact HB.out | apply below_alloc | apply pw_below_drewN | apply below_drew1) | exact HB.out)) hb); have n3_ := Aside0.mk (hbox); have n4_ := Aside0.mk ((by rw [hg]; exact (below_size (by repeat (first | (with_reducible first | exact HB.out | apply below_alloc | apply pw_below_drewN | apply below_drew1) | exact HB.out))) : w.heap.size ≤ gb542)); have n5_ := Aside0.mk ((by rw [hg]; exact (below_size (by repeat (first | (with_reducible first | exact HB.out | apply below_alloc | apply pw_below_drewN | apply below_drew1) | exact HB.out))) : w.heap.size ≤ gb542)); clear HO537; clear HO540; clear HB; have HO537 := n0_; have HO540 := n1_; have HB := n2_; have BK542 := n3_; have GW542 := n4_; have GE542 := n5_; clear n0_ n1_ n2_ n3_ n4_ n5_; clear hb hbox hg; have hcz22_0 : w21.cell? ⟨gb542, 0, none⟩ = some (.int .i64 0) := (blk_cell BK542.out 0).trans rfl; have hcz22_1 : w21.cell? ⟨gb542, 1, none⟩ = some (.int .i64 0) := (blk_cell BK542.out 1).trans rfl; have hcz22_2 : w21.cell? ⟨gb542, 2, none⟩ = some (.slice none 0 0) := (blk_cell BK542.out 2).trans rfl; have hcz22_3 : w21.cell? ⟨gb542, 3, none⟩ = some (.slice none 0 0) := (blk_cell BK542.out 3).trans rfl; have hfz22_0 := blk_frozen BK542.out 0; have hfz22_1 := blk_frozen BK542.out 1; have hfz22_2 := blk_frozen BK542.out 2; have hfz22_3 := blk_frozen BK542.out 3; obtain ⟨Ao23, co23, eo23⟩ := Kd.R_slice HO537.out; subst eo23; obtain ⟨Ao24, co24, eo24⟩ := Kd.R_slice HO540.out; subst eo24) | ((with_reducible refine gate_callee (f := 11) rfl ?_); refine goesL_ (some 58) rfl rfl Try.func11 (by kernel_rfl) rfl #[.agg #[.int .i64 t533, .int .i64 t534, .slice Ao23 t535.length co23, .slice Ao24 t538.length co24], .int .i64 (Int.tmod (wrap64 (a1)) (t538.length : Int))] rfl (by (try simp only [List.map_toArray, List.map_cons, List.map_nil]); first | done | rfl | (simp only [List.length_drop, List.length_take]; rfl)) ?_; (with_reducible refine (book_Code.calls kj6 t533 t534 _ _ t535 _ _ t538 (Int.tmod (wrap64 (a1)) (t538.length : Int)) t543 t546 _ ?side1 ?side2 ?side3 ?side4 A15.out).mono ?_); (case side1 => refine (Kd.R_reads' (e := 3) (base := w.heap.size) (ok := fun k_ => some k_ ≠ (.slice Ao24 t538.length co24 : Value).ownBlock) (n := t535.length) (c := co23) ?_).2.2; exact (by (with_reducible repeat (first | apply Kd.R_alloc | apply Kd.R_drewN | apply Kd.R_drew)); exact (Kd.R_mono (Kd.R_far (p := ⟨gb542, 3, none⟩) (Kd.R_far (p := ⟨gb542, 2, none⟩) (Kd.R_far (p := ⟨gb542, 1, none⟩) (Kd.R_far (p := ⟨gb542, 0, none⟩) (Kd.R_types HO537.out BK542.out (by decide)) (fun _ hk => hk.2) (.int .i64 t533)) (fun _ hk => hk.2) (.int .i64 t534)) (fun _ hk => hk.2) (.slice Ao23 t535.length co23)) (fun _ hk => hk.2) (.slice Ao24 t538.length co24)) (fun _ h_ => h_.1)))); (case side2 => exact (Kd.R_reads' HO537.out).2.1); (case side3 => refine (Kd.R_reads' (e := 3) (base := w.heap.size) (ok := fun k_ => some k_ ≠ (.slice Ao23 t535.length co23 : Value).ownBlock) (n := t538.length) (c := co24) ?_).2.2; exact (by (with_reducible repeat (first | apply Kd.R_alloc | apply Kd.R_drewN | apply Kd.R_drew)); exact (Kd.R_mono (Kd.R_far (p := ⟨gb542, 3, none⟩) (Kd.R_far (p := ⟨gb542, 2, none⟩) (Kd.R_far (p := ⟨gb542, 1, none⟩) (Kd.R_far (p := ⟨gb542, 0, none⟩) (Kd.R_types HO540.out BK542.out (by decide)) (fun _ hk => hk.2) (.int .i64 t533)) (fun _ hk => hk.2) (.int .i64 t534)) (fun _ hk => hk.2) (.slice Ao23 t535.length co23)) (fun _ hk => hk.2) (.slice Ao24 t538.length co24)) (fun _ h_ => h_.1)))); (case side4 => exact (Kd.R_reads' HO540.out).2.1); rintro e w25 ⟨v544, rfl, ho0, hb⟩; refine ⟨_, rfl, ?_⟩; have n0_ := Aside0.mk (Kd.R_below (by (with_reducible repeat (first | apply Kd.R_alloc | apply Kd.R_drewN | apply Kd.R_drew)); exact (Kd.R_mono (Kd.R_far (p := ⟨gb542, 3, none⟩) (Kd.R_far (p := ⟨gb542, 2, none⟩) (Kd.R_far (p := ⟨gb542, 1, none⟩) (Kd.R_far (p := ⟨gb542, 0, none⟩) (Kd.R_types HO537.out BK542.out (by decide)) (fun _ hk => hk.2) (.int .i64 t533)) (fun _ hk => hk.2) (.int .i64 t534)) (fun _ hk => hk.2) (.slice Ao23 t535.length co23)) (fun _ hk => hk.2) (.slice Ao24 t538.length co24)) (fun _ h_ => h_.1))) hb); have n1_ := Aside0.mk (Kd.R_below (by (with_reducible repeat (first | apply Kd.R_alloc | apply Kd.R_drewN | apply Kd.R_drew)); exact (Kd.R_mono (Kd.R_far (p := ⟨gb542, 3, none⟩) (Kd.R_far (p := ⟨gb542, 2, none⟩) (Kd.R_far (p := ⟨gb542, 1, none⟩) (Kd.R_far (p := ⟨gb542, 0, none⟩) (Kd.R_types HO540.out BK542.out (by decide)) (fun _ hk => hk.2) (.int .i64 t533)) (fun _ hk => hk.2) (.int .i64 t534)) (fun _ hk => hk.2) (.slice Ao23 t535.length co23)) (fun _ hk => hk.2) (.slice Ao24 t538.length co24)) (fun _ h_ => h_.1))) hb); have n2_ := Aside0.mk (Kd.R_lower ho0 (below_size (by repeat (first | (with_reducible first | exact HB.out | apply below_alloc | apply pw_below_drewN | apply below_drew1 | refine below_set ?_ GE542.out) | exact HB.out)))); have n3_ := Aside0.mk (blk_below (g := gb542) (o := .cells #[.int .i64 t533, .int .i64 t534, .slice Ao23 t535.length co23, .slice Ao24 t538.length co24] 24 (0, 0)) (by (with_reducible repeat (first | refine blk_drewN ?_ _ | refine blk_drew ?_ | refine blk_alloc ?_ _)); refine blk_put (cs := #[.int .i64 t533, .int .i64 t534, .slice Ao23 t535.length co23, .slice none 0 0]) ?_ 3 _ rfl; (with_reducible repeat (first | refine blk_drewN ?_ _ | refine blk_drew ?_ | refine blk_alloc ?_ _)); refine blk_put (cs := #[.int .i64 t533, .int .i64 t534, .slice none 0 0, .slice none 0 0]) ?_ 2 _ rfl; (with_reducible repeat (first | refine blk_drewN ?_ _ | refine blk_drew ?_ | refine blk_alloc ?_ _)); refine blk_put (cs := #[.int .i64 t533, .int .i64 0, .slice none 0 0, .slice none 0 0]) ?_ 1 _ rfl; (with_reducible repeat (first | refine blk_drewN ?_ _ | refine blk_drew ?_ | refine blk_alloc ?_ _)); refine blk_put (cs := #[.int .i64 0, .int .i64 0, .slice none 0 0, .slice none 0 0]) ?_ 0 _ rfl; (with_reducible repeat (first | refine blk_drewN ?_ _ | refine blk_drew ?_ | refine blk_alloc ?_ _)); exact BK542.out) hb); have n4_ := Aside0.mk (below_step (by repeat (first | (with_reducible first | exact HB.out | apply below_alloc | apply pw_below_drewN | apply below_drew1 | refine below_set ?_ GE542.out) | exact HB.out)) hb); clear HO537; clear HO540; clear BK542; clear HB; have HO537 := n0_; have HO540 := n1_; have HO545 := n2_; have BK542 := n3_; have HB := n4_; clear n0_ n1_ n2_ n3_ n4_; (try clear hb); (try clear hb2); (try clear hk); (try clear hi); (try clear ho0)))
                have n0_ := Aside0.mk (Kd.R_drew HO537.out)
                have n1_ := Aside0.mk (Kd.R_drew HO540.out)
                have n2_ := Aside0.mk (Kd.R_drew HO545.out)
                have n3_ := Aside0.mk (blk_drew BK542.out)
                have n4_ := Aside0.mk (below_drew1 HB.out)
                clear HO537
                clear HO540
                clear HO545
                clear BK542
                clear HB
                have HO537 := n0_
                have HO540 := n1_
                have HO545 := n2_
                have BK542 := n3_
                have HB := n4_
                clear n0_ n1_ n2_ n3_ n4_
                refine start_ (n := 14) (S := fun w' => w'.cell? ⟨gb542, 0, none⟩ = some (.int .i64 t533) ∧ w'.cell? ⟨gb542, 1, none⟩ = some (.int .i64 t534) ∧ w'.cell? ⟨gb542, 2, none⟩ = some (.slice Ao23 t535.length co23) ∧ w'.cell? ⟨gb542, 3, none⟩ = some (.slice Ao24 t538.length co24)) (ds := []) #[false, false, false, false, false, false, false, false, false, false, false, false, false, false] (by kernel_rfl) rfl rfl ⟨(blk_cell BK542.out 0).trans rfl, (blk_cell BK542.out 1).trans rfl, (blk_cell BK542.out 2).trans rfl, (blk_cell BK542.out 3).trans rfl⟩ (fun hHeld => ?_); refine with_tabW reedpipelaw08_BookPrefix.tab9 reedpipelaw08_BookPrefix.bits9 (fun HT_ HW_ => ?_)
                generalize w25.drew = w26 at HO537 HO540 HO545 BK542 HB hHeld ⊢
                refine pure_ (i := 2) (N := some 64) (v := ?_) (a' := ?_) #[false, false, true, false, false, false, false, false, false, false, false, false, false, false] rfl rfl (any_of HT_.out (by kernel_rfl)) (fun _ _ _ h => h) (Or.inl ⟨by rfl, ?_⟩) ?_ ?_
                rotate_left
                · intro w'
                  go_simp
                  with_reducible rfl
                rotate_left
                · simp only [Act.put, List.setIfInBounds_toArray, List.set_cons_zero, List.set_cons_succ, i64_w, i32_w]
                  rfl
                refine pure_ (i := 4) (N := some 66) (v := ?_) (a' := ?_) #[false, false, true, false, true, false, false, false, false, false, false, false, false, false] rfl rfl (any_of HT_.out (by kernel_rfl)) (fun _ _ _ h => h) (Or.inl ⟨by rfl, ?_⟩) ?_ ?_
                rotate_left
                · intro w'
                  go_simp
                  with_reducible rfl
                rotate_left
                · simp only [Act.put, List.setIfInBounds_toArray, List.set_cons_zero, List.set_cons_succ, i64_w, i32_w]
                  rfl
                refine take_ (i := 0) (N := some 62) (v := ?_) (a' := ?_) #[true, false, true, false, true, false, false, false, false, false, false, false, false, false] rfl rfl (take_ofW HT_.out HW_.out (by kernel_rfl)) (fun _ _ _ h => h) (Or.inl ⟨by rfl, ?_⟩) hHeld ?_ ?_
                rotate_left
                · rintro w' ⟨s0, s1, s2, s3⟩
                  go_simp
                  with_reducible rfl
                rotate_left
                · simp only [Act.put, List.setIfInBounds_toArray, List.set_cons_zero, List.set_cons_succ, i64_w, i32_w]
                  rfl
                refine one_ (i := 1) (N := some 63) #[true, true, true, false, true, false, false, false, false, false, false, false, false, false] rfl rfl (one_of HT_.out (by kernel_rfl)) (by decide) (fun K hK => ?_)
                refine Kd.R_lit_step (Kd.int .u8) _ 5 ?hg (N := 63) ?hd (xs := ([] : List Int)) (inner := []) (ok := fun _ => True) (okp := fun _ => True) ?hr ?hp (fun _ hk => hk) trivial (Below.refl _ _) (Nat.le_refl _) (by simp) ?_; (case hd => rfl); (case hg => rfl); (case hr => first | (go_simp; done) | (go_simp; rfl)); (case hp => exact (Reps.none _ _))
                intro v548 w27 ho28 hb hg_ hnew_
                clear hg_ hnew_
                (first | rw [← Ny547.out] at ho28 | (simp only [Int.reduceToNat] at ho28; rw [← Ny547.out] at ho28))
                have n0_ := Aside0.mk (Kd.R_below (by (with_reducible repeat (first | apply Kd.R_alloc | apply Kd.R_drewN | apply Kd.R_drew)); exact HO537.out) hb)
                have n1_ := Aside0.mk (Kd.R_below (by (with_reducible repeat (first | apply Kd.R_alloc | apply Kd.R_drewN | apply Kd.R_drew)); exact HO540.out) hb)
                have n2_ := Aside0.mk (Kd.R_elder' (by (with_reducible repeat (first | apply Kd.R_alloc | apply Kd.R_drewN | apply Kd.R_drew)); exact HO545.out) (Kd.R_base ho28) hb)
                have n3_ := Aside0.mk (Kd.R_lower (Kd.R_new' ho28 (Kd.R_lt (by (with_reducible repeat (first | apply Kd.R_alloc | apply Kd.R_drewN | apply Kd.R_drew)); exact HO545.out))) (below_size (by repeat (first | (with_reducible first | exact HB.out | apply below_alloc | apply pw_below_drewN | apply below_drew1 | refine below_set ?_ GE542.out) | exact HB.out))))
                have n4_ := Aside0.mk (blk_below (g := gb542) (o := .cells #[.int .i64 t533, .int .i64 t534, .slice Ao23 t535.length co23, .slice Ao24 t538.length co24] 24 (0, 0)) (by (with_reducible repeat (first | refine blk_drewN ?_ _ | refine blk_drew ?_ | refine blk_alloc ?_ _)); exact BK542.out) hb)
                have n5_ := Aside0.mk (below_step (by repeat (first | (with_reducible first | exact HB.out | apply below_alloc | apply pw_below_drewN | apply below_drew1 | refine below_set ?_ GE542.out) | exact HB.out)) hb)
                clear HO537
                clear HO540
                clear HO545
                clear BK542
                clear HB
                have HO537 := n0_
                have HO540 := n1_
                have HO545 := n2_
                have HO549 := n3_
                have BK542 := n4_
                have HB := n5_
                clear n0_ n1_ n2_ n3_ n4_ n5_
                clear hb ho28
                obtain ⟨Ao30, co30, eo30⟩ := Kd.R_slice HO545.out
                (first | subst eo30 | (injection eo30 with f1_ f2_ f3_; have f4_ := f1_.symm; have f5_ := f3_.symm; clear f1_ f2_ f3_; subst f4_; subst f5_))
                refine hK.out _ _ ⟨(blk_cell BK542.out 0).trans rfl, (blk_cell BK542.out 1).trans rfl, (blk_cell BK542.out 2).trans rfl, (blk_cell BK542.out 3).trans rfl⟩ (fun hHeld => ?_)
                clear hK K
                refine norm_ (a' := ?_) ?_ ?_
                rotate_left
                · show Act.put _ (some 63) _ = _
                  simp only [Act.put, List.setIfInBounds_toArray, List.set_cons_zero, List.set_cons_succ, i64_w, i32_w]
                  rfl
                refine one_ (i := 3) (N := some 65) #[true, true, true, true, true, false, false, false, false, false, false, false, false, false] rfl rfl (one_of HT_.out (by kernel_rfl)) (by decide) (fun K hK => ?_)
                refine Kd.R_append_rows_step (Kd.int .u8) (w0 := w) w.heap.size (by rfl) (.tmp 63) (.tmp 64) 25 5 (.int .u8 0) 1 rfl Try.underlying25 info5 rfl (by decide) (by omega) v548 y547 t543 _ _ _ (fun k_ => some k_ ≠ (.slice Ao30 t543.length co30 : Value).ownBlock) (fun _ => False) rfl rfl ?aO ?aR (fun _ _ h => h) (fun _ h => h.elim) ?aF ?aB ?aS ?aL ?_
                (case aR => repeat (first | exact (Kd.R_reads' HO545.out).2.2 | (with_reducible refine Kd.C_alloc ?_ _) | (with_reducible refine Kd.C_drewN ?_ _) | (with_reducible refine Kd.C_drew ?_)))
                (case aB => exact (by repeat (first | (with_reducible first | exact HB.out | apply below_alloc | apply pw_below_drewN | apply below_drew1 | refine below_set ?_ GE542.out) | exact HB.out)))
                (case aF => exact (fun k_ hk => Kd.fresh' (Kd.R_lt (by (with_reducible repeat (first | apply Kd.R_alloc | apply Kd.R_drewN | apply Kd.R_drew)); exact HO545.out)) k_ hk))
                (case aO => exact (by (with_reducible repeat (first | apply Kd.R_alloc | apply Kd.R_drewN | apply Kd.R_drew)); exact Kd.R_mono HO549.out (fun _ hk => hk.2)))
                (case aS => exact (below_size (by repeat (first | (with_reducible first | exact HB.out | apply below_alloc | apply pw_below_drewN | apply below_drew1 | refine below_set ?_ GE542.out) | exact HB.out))))
                (case aL => have := LMc16.out; omega)
                intro v551 w29 ho hb hg hat
                rw [← Ny550.out] at ho
                have n0_ := Aside0.mk (Kd.R_over' (by (with_reducible repeat (first | apply Kd.R_alloc | apply Kd.R_drewN | apply Kd.R_drew)); exact HO537.out) (Kd.R_typed (by (with_reducible repeat (first | apply Kd.R_alloc | apply Kd.R_drewN | apply Kd.R_drew)); exact HO549.out)) (by decide) hg)
                have n1_ := Aside0.mk (Kd.R_over' (by (with_reducible repeat (first | apply Kd.R_alloc | apply Kd.R_drewN | apply Kd.R_drew)); exact HO540.out) (Kd.R_typed (by (with_reducible repeat (first | apply Kd.R_alloc | apply Kd.R_drewN | apply Kd.R_drew)); exact HO549.out)) (by decide) hg)
                have n2_ := Aside0.mk (blk_grown (g := gb542) (o := .cells #[.int .i64 t533, .int .i64 t534, .slice Ao23 t535.length co23, .slice Ao24 t538.length co24] 24 (0, 0)) (by (with_reducible repeat (first | refine blk_drewN ?_ _ | refine blk_drew ?_ | refine blk_alloc ?_ _)); exact BK542.out) hg (Kd.R_ne HO549.out BK542.out (by decide)))
                have n3_ := Aside0.mk (Kd.R_after (ok := (fun _ => True)) (by (with_reducible repeat (first | apply Kd.R_alloc | apply Kd.R_drewN | apply Kd.R_drew)); exact HO545.out) hg hat)
                have n4_ := Aside0.mk (hb)
                have n5_ := Aside0.mk (ho)
                clear HO537
                clear HO540
                clear BK542
                clear HO545
                clear HB
                clear HO549
                have HO537 := n0_
                have HO540 := n1_
                have BK542 := n2_
                have HO545 := n3_
                have HB := n4_
                have HO552 := n5_
                clear n0_ n1_ n2_ n3_ n4_ n5_
                clear ho hb hg hat
                refine hK.out _ _ ⟨(blk_cell BK542.out 0).trans rfl, (blk_cell BK542.out 1).trans rfl, (blk_cell BK542.out 2).trans rfl, (blk_cell BK542.out 3).trans rfl⟩ (fun hHeld => ?_)
                clear hK K
                refine norm_ (a' := ?_) ?_ ?_
                rotate_left
                · show Act.put _ (some 65) _ = _
                  simp only [Act.put, List.setIfInBounds_toArray, List.set_cons_zero, List.set_cons_succ, i64_w, i32_w]
                  rfl
                refine one_ (i := 5) (N := some 67) #[true, true, true, true, true, true, false, false, false, false, false, false, false, false] rfl rfl (one_of HT_.out (by kernel_rfl)) (by decide) (fun K hK => ?_)
                refine Kd.R_append_rows_step (Kd.int .u8) (w0 := w) w.heap.size (by rfl) (.tmp 65) (.tmp 66) 25 5 (.int .u8 0) 1 rfl Try.underlying25 info5 rfl (by decide) (by omega) v551 y550 l2 _ _ _ (fun k_ => some k_ ≠ (.slice Ao30 t543.length co30 : Value).ownBlock) (fun _ => False) rfl rfl ?aO ?aR (fun _ _ h => h) (fun _ h => h.elim) ?aF ?aB ?aS ?aL ?_
                (case aR => repeat (first | exact (Kd.C_below HR2.out HB.out) | (with_reducible refine Kd.C_alloc ?_ _) | (with_reducible refine Kd.C_drewN ?_ _) | (with_reducible refine Kd.C_drew ?_)))
                (case aB => exact (by repeat (first | (with_reducible first | exact HB.out | apply below_alloc | apply pw_below_drewN | apply below_drew1 | refine below_set ?_ GE542.out) | exact HB.out)))
                (case aF => exact (fun k_ hk => Kd.fresh' (Kd.R_lt (by (with_reducible repeat (first | apply Kd.R_alloc | apply Kd.R_drewN | apply Kd.R_drew)); exact HO545.out)) k_ hk))
                (case aO => exact (by (with_reducible repeat (first | apply Kd.R_alloc | apply Kd.R_drewN | apply Kd.R_drew)); exact HO552.out))
                (case aS => exact (below_size (by repeat (first | (with_reducible first | exact HB.out | apply below_alloc | apply pw_below_drewN | apply below_drew1 | refine below_set ?_ GE542.out) | exact HB.out))))
                (case aL => have := LMc17.out; omega)
                intro v554 w31 ho hb hg hat
                rw [← Ny553.out] at ho
                have n0_ := Aside0.mk (Kd.R_over' (by (with_reducible repeat (first | apply Kd.R_alloc | apply Kd.R_drewN | apply Kd.R_drew)); exact HO537.out) (Kd.R_typed (by (with_reducible repeat (first | apply Kd.R_alloc | apply Kd.R_drewN | apply Kd.R_drew)); exact HO552.out)) (by decide) hg)
                have n1_ := Aside0.mk (Kd.R_over' (by (with_reducible repeat (first | apply Kd.R_alloc | apply Kd.R_drewN | apply Kd.R_drew)); exact HO540.out) (Kd.R_typed (by (with_reducible repeat (first | apply Kd.R_alloc | apply Kd.R_drewN | apply Kd.R_drew)); exact HO552.out)) (by decide) hg)
                have n2_ := Aside0.mk (blk_grown (g := gb542) (o := .cells #[.int .i64 t533, .int .i64 t534, .slice Ao23 t535.length co23, .slice Ao24 t538.length co24] 24 (0, 0)) (by (with_reducible repeat (first | refine blk_drewN ?_ _ | refine blk_drew ?_ | refine blk_alloc ?_ _)); exact BK542.out) hg (Kd.R_ne HO552.out BK542.out (by decide)))
                have n3_ := Aside0.mk (Kd.R_after (ok := (fun _ => True)) (by (with_reducible repeat (first | apply Kd.R_alloc | apply Kd.R_drewN | apply Kd.R_drew)); exact HO545.out) hg hat)
                have n4_ := Aside0.mk (hb)
                have n5_ := Aside0.mk (ho)
                clear HO537
                clear HO540
                clear BK542
                clear HO545
                clear HB
                clear HO552
                have HO537 := n0_
                have HO540 := n1_
                have BK542 := n2_
                have HO545 := n3_
                have HB := n4_
                have HO555 := n5_
                clear n0_ n1_ n2_ n3_ n4_ n5_
                clear ho hb hg hat
                obtain ⟨Ao32, co32, eo32⟩ := Kd.R_slice HO555.out
                (first | subst eo32 | (injection eo32 with f1_ f2_ f3_; have f4_ := f1_.symm; have f5_ := f3_.symm; clear f1_ f2_ f3_; subst f4_; subst f5_))
                refine hK.out _ _ ⟨(blk_cell BK542.out 0).trans rfl, (blk_cell BK542.out 1).trans rfl, (blk_cell BK542.out 2).trans rfl, (blk_cell BK542.out 3).trans rfl⟩ (fun hHeld => ?_)
                clear hK K
                refine norm_ (a' := ?_) ?_ ?_
                rotate_left
                · show Act.put _ (some 67) _ = _
                  simp only [Act.put, List.setIfInBounds_toArray, List.set_cons_zero, List.set_cons_succ, i64_w, i32_w]
                  rfl
                refine one_ (i := 6) (N := some 68) #[true, true, true, true, true, true, true, false, false, false, false, false, false, false] rfl rfl (one_of HT_.out (by kernel_rfl)) (by decide) (fun K hK => ?_)
                refine goes_ Try.func13 (by kernel_rfl) rfl #[.agg #[.int .i64 t533, .int .i64 t534, .slice Ao23 t535.length co23, .slice Ao24 t538.length co24], .slice Ao32 y553.length co32, .int .i64 0] (by rfl) rfl rfl (by (try simp only [List.map_toArray, List.map_cons, List.map_nil]); first | done | rfl | (simp only [List.length_drop, List.length_take]; rfl)) ?_
                with_reducible refine (book_Read.calls kj6 t533 t534 _ _ t535 _ _ t538 _ _ y553 0 t556 t557 t558 _ ?side1 ?side2 ?side3 ?side4 ?side5 ?side6 A18.out).mono ?_
                (case side1 => repeat (first | exact (Kd.R_reads' HO537.out).2.2 | (with_reducible refine Kd.C_alloc ?_ _) | (with_reducible refine Kd.C_drewN ?_ _) | (with_reducible refine Kd.C_drew ?_)))
                (case side2 => exact (Kd.R_reads' HO537.out).2.1)
                (case side3 => repeat (first | exact (Kd.R_reads' HO540.out).2.2 | (with_reducible refine Kd.C_alloc ?_ _) | (with_reducible refine Kd.C_drewN ?_ _) | (with_reducible refine Kd.C_drew ?_)))
                (case side4 => exact (Kd.R_reads' HO540.out).2.1)
                (case side5 => repeat (first | exact (Kd.R_reads' HO555.out).2.2 | (with_reducible refine Kd.C_alloc ?_ _) | (with_reducible refine Kd.C_drewN ?_ _) | (with_reducible refine Kd.C_drew ?_)))
                (case side6 => exact (Kd.R_reads' HO555.out).2.1)
                rintro e w33 ⟨rfl, hb⟩
                refine ⟨_, rfl, ?_⟩
                have n0_ := Aside0.mk (Kd.R_below (by (with_reducible repeat (first | apply Kd.R_alloc | apply Kd.R_drewN | apply Kd.R_drew)); exact HO537.out) hb)
                have n1_ := Aside0.mk (Kd.R_below (by (with_reducible repeat (first | apply Kd.R_alloc | apply Kd.R_drewN | apply Kd.R_drew)); exact HO540.out) hb)
                have n2_ := Aside0.mk (Kd.R_below (by (with_reducible repeat (first | apply Kd.R_alloc | apply Kd.R_drewN | apply Kd.R_drew)); exact HO545.out) hb)
                have n3_ := Aside0.mk (Kd.R_below (by (with_reducible repeat (first | apply Kd.R_alloc | apply Kd.R_drewN | apply Kd.R_drew)); exact HO555.out) hb)
                have n4_ := Aside0.mk (blk_below (g := gb542) (o := .cells #[.int .i64 t533, .int .i64 t534, .slice Ao23 t535.length co23, .slice Ao24 t538.length co24] 24 (0, 0)) (by (with_reducible repeat (first | refine blk_drewN ?_ _ | refine blk_drew ?_ | refine blk_alloc ?_ _)); exact BK542.out) hb)
                have n5_ := Aside0.mk (below_step (by repeat (first | (with_reducible first | exact HB.out | apply below_alloc | apply pw_below_drewN | apply below_drew1 | refine below_set ?_ GE542.out) | exact HB.out)) hb)
                clear HO537
                clear HO540
                clear HO545
                clear HO555
                clear BK542
                clear HB
                have HO537 := n0_
                have HO540 := n1_
                have HO545 := n2_
                have HO555 := n3_
                have BK542 := n4_
                have HB := n5_
                clear n0_ n1_ n2_ n3_ n4_ n5_
                (try clear hb)
                (try clear hb2)
                (try clear hk)
                (try clear hi)
                refine hK.out _ _ ⟨(blk_cell BK542.out 0).trans rfl, (blk_cell BK542.out 1).trans rfl, (blk_cell BK542.out 2).trans rfl, (blk_cell BK542.out 3).trans rfl⟩ (fun hHeld => ?_)
                clear hK K
                refine norm_ (a' := ?_) ?_ ?_
                rotate_left
                · show Act.put _ (some 68) _ = _
                  simp only [Act.put, List.setIfInBounds_toArray, List.set_cons_zero, List.set_cons_succ, i64_w, i32_w]
                  rfl
                refine pure_ (i := 7) (N := some 61) (v := ?_) (a' := ?_) #[true, true, true, true, true, true, true, true, false, false, false, false, false, false] rfl rfl (any_of HT_.out (by kernel_rfl)) (fun _ _ _ h => h) (Or.inl ⟨by rfl, ?_⟩) ?_ ?_
                rotate_left
                · intro w'
                  go_simp
                  with_reducible rfl
                rotate_left
                · simp only [Act.put, List.setIfInBounds_toArray, List.set_cons_zero, List.set_cons_succ, i64_w, i32_w]
                  rfl
                refine pure_ (i := 8) (N := some 69) (v := ?_) (a' := ?_) #[true, true, true, true, true, true, true, true, true, false, false, false, false, false] rfl rfl (any_of HT_.out (by kernel_rfl)) (fun _ _ _ h => h) (Or.inl ⟨by rfl, ?_⟩) ?_ ?_
                rotate_left
                · intro w'
                  go_simp
                  with_reducible rfl
                rotate_left
                · simp only [Act.put, List.setIfInBounds_toArray, List.set_cons_zero, List.set_cons_succ, i64_w, i32_w]
                  rfl
                refine pure_ (i := 9) (N := some 70) (v := ?_) (a' := ?_) #[true, true, true, true, true, true, true, true, true, true, false, false, false, false] rfl rfl (any_of HT_.out (by kernel_rfl)) (fun _ _ _ h => h) (Or.inl ⟨by rfl, ?_⟩) ?_ ?_
                rotate_left
                · intro w'
                  go_simp
                  with_reducible rfl
                rotate_left
                · simp only [Act.put, List.setIfInBounds_toArray, List.set_cons_zero, List.set_cons_succ, i64_w, i32_w]
                  rfl
                refine pure_ (i := 10) (N := some 71) (v := ?_) (a' := ?_) #[true, true, true, true, true, true, true, true, true, true, true, false, false, false] rfl rfl (any_of HT_.out (by kernel_rfl)) (fun _ _ _ h => h) (Or.inl ⟨by rfl, ?_⟩) ?_ ?_
                rotate_left
                · intro w'
                  go_simp
                  with_reducible rfl
                rotate_left
                · simp only [Act.put, List.setIfInBounds_toArray, List.set_cons_zero, List.set_cons_succ, i64_w, i32_w]
                  rfl
                refine pure_ (i := 11) (N := some 17) (v := ?_) (a' := ?_) #[true, true, true, true, true, true, true, true, true, true, true, true, false, false] rfl rfl (any_of HT_.out (by kernel_rfl)) (fun _ _ _ h => h) (Or.inl ⟨by rfl, ?_⟩) ?_ ?_
                rotate_left
                · intro w'
                  go_simp
                  with_reducible rfl
                rotate_left
                · simp only [Act.put, List.setIfInBounds_toArray, List.set_cons_zero, List.set_cons_succ, i64_w, i32_w]
                  rfl
                refine pure_ (i := 12) (N := some 18) (v := ?_) (a' := ?_) #[true, true, true, true, true, true, true, true, true, true, true, true, true, false] rfl rfl (any_of HT_.out (by kernel_rfl)) (fun _ _ _ h => h) (Or.inl ⟨by rfl, ?_⟩) ?_ ?_
                rotate_left
                · intro w'
                  go_simp
                  with_reducible rfl
                rotate_left
                · simp only [Act.put, List.setIfInBounds_toArray, List.set_cons_zero, List.set_cons_succ, i64_w, i32_w]
                  rfl
                refine pure_ (i := 13) (N := some 19) (v := ?_) (a' := ?_) #[true, true, true, true, true, true, true, true, true, true, true, true, true, true] rfl rfl (any_of HT_.out (by kernel_rfl)) (fun _ _ _ h => h) (Or.inl ⟨by rfl, ?_⟩) ?_ ?_
                rotate_left
                · intro w'
                  go_simp
                  with_reducible rfl
                rotate_left
                · simp only [Act.put, List.setIfInBounds_toArray, List.set_cons_zero, List.set_cons_succ, i64_w, i32_w]
                  rfl
                refine done_ (done_of HT_.out (by kernel_rfl)) ?_
                go_upto_region 10 with (fail)
                go_cut [93] (fun v93 wc => ∃ (kq : Nat) (x93_18 : Bool), v93 = .bool x93_18 ∧ Aside0 (reedpipelaw08_BookPrefix.j1 kq l3 a4 x93_18 t533 t534 t535 t538 = some r) ∧ Aside0 (kq ≤ kj6) ∧ Aside0 (Kd.R (Kd.int .i64) 3 wc w.heap.size (fun k_ => some k_ ≠ ((.slice Ao24 t538.length co24) : Value).ownBlock) (.slice Ao23 t535.length co23) t535) ∧ Aside0 (Kd.R (Kd.int .i64) 3 wc w.heap.size (fun k_ => some k_ ≠ ((.slice Ao23 t535.length co23) : Value).ownBlock) (.slice Ao24 t538.length co24) t538) ∧ Aside0 (wc.heap[gb542]? = some (.cells #[.int .i64 t533, .int .i64 t534, (.slice Ao23 t535.length co23), (.slice Ao24 t538.length co24)] 24 (0, 0))) ∧ Aside0 (Below w.heap.size w wc))
                case first =>
                  have H := HC19.out
                  clear HC19
                  by_cases c34 : t546 = 0
                  · rw [if_pos c34] at H
                    have c34b0 : (t546 == 0) = true := beq_iff_eq.mpr c34
                    have c34b1 : (t546 != 0) = false := bne_eq_false_iff_eq.mpr c34
                    clear c34
                    (first | rw [c34b0] | (simp only [i64_w, i32_w]; rw [c34b0]) | skip)
                    by_cases c35 : t558 = 0
                    · rw [if_pos c35] at H
                      have c35b0 : (t558 == 0) = true := beq_iff_eq.mpr c35
                      have c35b1 : (t558 != 0) = false := bne_eq_false_iff_eq.mpr c35
                      clear c35
                      by_cases c36 : t556 = (Int.tmod (wrap64 (a1)) (t538.length : Int))
                      · rw [if_pos c36] at H
                        have c36b0 : (t556 == (Int.tmod (wrap64 (a1)) (t538.length : Int))) = true := beq_iff_eq.mpr c36
                        have c36b1 : (t556 != (Int.tmod (wrap64 (a1)) (t538.length : Int))) = false := bne_eq_false_iff_eq.mpr c36
                        clear c36
                        by_cases c37 : t557 = (t543.length : Int)
                        · rw [if_pos c37] at H
                          have c37b0 : (t557 == (t543.length : Int)) = true := beq_iff_eq.mpr c37
                          have c37b1 : (t557 != (t543.length : Int)) = false := bne_eq_false_iff_eq.mpr c37
                          clear c37
                          have H' := Aside0.mk H
                          clear H
                          go_wp2
                          go_meet
                          case rel => exact ⟨_, (decide ((t543.length : Int) > 19)), (by first | rfl | (simp; done) | (simp [*]; done)), H', ⟨by have := HJ6.out; first | omega | exact Nat.le_refl _⟩, ⟨by (with_reducible repeat (first | apply Kd.R_alloc | apply Kd.R_drewN | apply Kd.R_drew)); exact HO537.out⟩, ⟨by (with_reducible repeat (first | apply Kd.R_alloc | apply Kd.R_drewN | apply Kd.R_drew)); exact HO540.out⟩, ⟨by (with_reducible repeat (first | refine blk_drewN ?_ _ | refine blk_drew ?_ | refine blk_alloc ?_ _)); exact BK542.out⟩, ⟨by repeat (first | (with_reducible first | exact HB.out | apply below_alloc | apply pw_below_drewN | apply below_drew1 | refine below_set ?_ GE542.out) | exact HB.out)⟩⟩
                        · rw [if_neg c37] at H
                          have c37b0 : (t557 == (t543.length : Int)) = false := beq_eq_false_iff_ne.mpr c37
                          have c37b1 : (t557 != (t543.length : Int)) = true := bne_iff_ne.mpr c37
                          have H' := Aside0.mk H
                          clear H
                          go_wp2
                          go_meet
                          case rel => exact ⟨_, (true), (by first | rfl | (simp; done) | (simp [*]; done)), H', ⟨by have := HJ6.out; first | omega | exact Nat.le_refl _⟩, ⟨by (with_reducible repeat (first | apply Kd.R_alloc | apply Kd.R_drewN | apply Kd.R_drew)); exact HO537.out⟩, ⟨by (with_reducible repeat (first | apply Kd.R_alloc | apply Kd.R_drewN | apply Kd.R_drew)); exact HO540.out⟩, ⟨by (with_reducible repeat (first | refine blk_drewN ?_ _ | refine blk_drew ?_ | refine blk_alloc ?_ _)); exact BK542.out⟩, ⟨by repeat (first | (with_reducible first | exact HB.out | apply below_alloc | apply pw_below_drewN | apply below_drew1 | refine below_set ?_ GE542.out) | exact HB.out)⟩⟩
                      · rw [if_neg c36] at H
                        have c36b0 : (t556 == (Int.tmod (wrap64 (a1)) (t538.length : Int))) = false := beq_eq_false_iff_ne.mpr c36
                        have c36b1 : (t556 != (Int.tmod (wrap64 (a1)) (t538.length : Int))) = true := bne_iff_ne.mpr c36
                        have H' := Aside0.mk H
                        clear H
                        go_wp2
                        go_meet
                        case rel => exact ⟨_, (true), (by first | rfl | (simp; done) | (simp [*]; done)), H', ⟨by have := HJ6.out; first | omega | exact Nat.le_refl _⟩, ⟨by (with_reducible repeat (first | apply Kd.R_alloc | apply Kd.R_drewN | apply Kd.R_drew)); exact HO537.out⟩, ⟨by (with_reducible repeat (first | apply Kd.R_alloc | apply Kd.R_drewN | apply Kd.R_drew)); exact HO540.out⟩, ⟨by (with_reducible repeat (first | refine blk_drewN ?_ _ | refine blk_drew ?_ | refine blk_alloc ?_ _)); exact BK542.out⟩, ⟨by repeat (first | (with_reducible first | exact HB.out | apply below_alloc | apply pw_below_drewN | apply below_drew1 | refine below_set ?_ GE542.out) | exact HB.out)⟩⟩
                    · rw [if_neg c35] at H
                      have c35b0 : (t558 == 0) = false := beq_eq_false_iff_ne.mpr c35
                      have c35b1 : (t558 != 0) = true := bne_iff_ne.mpr c35
                      have H' := Aside0.mk H
                      clear H
                      go_wp2
                      go_meet
                      case rel => exact ⟨_, (true), (by first | rfl | (simp; done) | (simp [*]; done)), H', ⟨by have := HJ6.out; first | omega | exact Nat.le_refl _⟩, ⟨by (with_reducible repeat (first | apply Kd.R_alloc | apply Kd.R_drewN | apply Kd.R_drew)); exact HO537.out⟩, ⟨by (with_reducible repeat (first | apply Kd.R_alloc | apply Kd.R_drewN | apply Kd.R_drew)); exact HO540.out⟩, ⟨by (with_reducible repeat (first | refine blk_drewN ?_ _ | refine blk_drew ?_ | refine blk_alloc ?_ _)); exact BK542.out⟩, ⟨by repeat (first | (with_reducible first | exact HB.out | apply below_alloc | apply pw_below_drewN | apply below_drew1 | refine below_set ?_ GE542.out) | exact HB.out)⟩⟩
                  · rw [if_neg c34] at H
                    have c34b0 : (t546 == 0) = false := beq_eq_false_iff_ne.mpr c34
                    have c34b1 : (t546 != 0) = true := bne_iff_ne.mpr c34
                    (first | rw [c34b0] | (simp only [i64_w, i32_w]; rw [c34b0]) | skip)
                    have H' := Aside0.mk H
                    clear H
                    go_wp2
                    go_meet
                    case rel => exact ⟨_, (true), (by first | rfl | (simp; done) | (simp [*]; done)), H', ⟨by have := HJ6.out; first | omega | exact Nat.le_refl _⟩, ⟨by (with_reducible repeat (first | apply Kd.R_alloc | apply Kd.R_drewN | apply Kd.R_drew)); exact HO537.out⟩, ⟨by (with_reducible repeat (first | apply Kd.R_alloc | apply Kd.R_drewN | apply Kd.R_drew)); exact HO540.out⟩, ⟨by (with_reducible repeat (first | refine blk_drewN ?_ _ | refine blk_drew ?_ | refine blk_alloc ?_ _)); exact BK542.out⟩, ⟨by repeat (first | (with_reducible first | exact HB.out | apply below_alloc | apply pw_below_drewN | apply below_drew1 | refine below_set ?_ GE542.out) | exact HB.out)⟩⟩
                case rest =>
                  clear HC19
                  try clear c1
                  try clear c2
                  try clear p2
                  try clear c3
                  try clear p6
                  try clear c9
                  try clear c9b0
                  try clear c9b1
                  try clear c10
                  try clear c10b0
                  try clear c10b1
                  try clear c11
                  try clear c13
                  try clear c13b0
                  try clear c13b1
                  try clear c14
                  try clear c14b0
                  try clear c14b1
                  try clear c14b2
                  try clear c15
                  try clear c16
                  try clear c17
                  try clear c23
                  try clear c34
                  try clear c34b0
                  try clear c34b1
                  try clear c35
                  try clear c35b0
                  try clear c35b1
                  try clear c36
                  try clear c36b0
                  try clear c36b1
                  try clear c37
                  try clear c37b0
                  try clear c37b1
                  try clear hcz22_0
                  try clear hcz22_1
                  try clear hcz22_2
                  try clear hcz22_3
                  try clear hfz22_0
                  try clear hfz22_1
                  try clear hfz22_2
                  try clear hfz22_3
                  try clear p2
                  obtain ⟨kq, x93_18, rfl, HA, HJ18, HO_543002, HO_543003, BK542, HB⟩ := hcut
                  cases kq with
                  | zero => exact absurd HA.out (by simp [reedpipelaw08_BookPrefix.j1])
                  | succ kj18 =>
                    have H := HA.out
                    clear HA
                    simp only [reedpipelaw08_BookPrefix.j1] at H
                    by_cases c38 : x93_18 = true
                    · subst c38
                      have H1 : (some false) = some r := by rw [if_pos rfl] at H; exact H
                      clear H
                      have H := H1
                      clear H1
                      exact absurd ((Option.some.inj H).trans hrT) (by decide)
                    · replace c38 := Bool.eq_false_iff.mpr c38
                      subst c38
                      have H1 : ((book_Read.f kj18 t533 t534 t535 t538 l3 a4).bind fun bt559 => (if bt559.2.2 = 0 then ((book_Code.f kj18 t533 t534 t535 t538 bt559.1).bind fun bt562 => (if bt562.2 = 0 then (if 0 ≤ a4 then (if a4 ≤ bt559.2.1 then (if bt559.2.1 ≤ (l3.length : Int) then (some ((strOfNums bt562.1).toList == (strOfNums ((l3.take (bt559.2.1 : Int).toNat).drop (a4 : Int).toNat)).toList)) else (none)) else (none)) else (none)) else (some false))) else (if bt559.1 = 0 then (some (bt559.2.1 == 0)) else (some false)))) = some r := by rw [if_neg (show ¬ (false = true) by decide)] at H; exact H
                      clear H
                      have H := H1
                      clear H1
                      replace H := Option.bind_eq_some_iff.mp H
                      obtain ⟨⟨t559, t560, t561⟩, A390, H⟩ := H
                      replace H : (if t561 = 0 then ((book_Code.f kj18 t533 t534 t535 t538 t559).bind fun bt562 => (if bt562.2 = 0 then (if 0 ≤ a4 then (if a4 ≤ t560 then (if t560 ≤ (l3.length : Int) then (some ((strOfNums bt562.1).toList == (strOfNums ((l3.take (t560 : Int).toNat).drop (a4 : Int).toNat)).toList)) else (none)) else (none)) else (none)) else (some false))) else (if t559 = 0 then (some (t560 == 0)) else (some false))) = some r := H
                      have A39 := Aside0.mk A390
                      clear A390
                      by_cases c40 : t561 = 0
                      · rw [if_pos c40] at H
                        have c40b0 : (t561 == 0) = true := beq_iff_eq.mpr c40
                        have c40b1 : (t561 != 0) = false := bne_eq_false_iff_eq.mpr c40
                        clear c40
                        replace H := Option.bind_eq_some_iff.mp H
                        obtain ⟨⟨t562, t565⟩, A410, H⟩ := H
                        replace H : (if t565 = 0 then (if 0 ≤ a4 then (if a4 ≤ t560 then (if t560 ≤ (l3.length : Int) then (some ((strOfNums t562).toList == (strOfNums ((l3.take (t560 : Int).toNat).drop (a4 : Int).toNat)).toList)) else (none)) else (none)) else (none)) else (some false)) = some r := H
                        have A41 := Aside0.mk A410
                        clear A410
                        by_cases c42 : t565 = 0
                        · rw [if_pos c42] at H
                          have c42b0 : (t565 == 0) = true := beq_iff_eq.mpr c42
                          have c42b1 : (t565 != 0) = false := bne_eq_false_iff_eq.mpr c42
                          clear c42
                          by_cases c43 : 0 ≤ a4
                          · rw [if_pos c43] at H
                            have c43b0 := eq_true c43
                            have c43b1 : decide (0 ≤ a4) = true := decide_eq_true c43
                            clear c43
                            by_cases c44 : a4 ≤ t560
                            · rw [if_pos c44] at H
                              have c44b0 := eq_true c44
                              have c44b1 : decide (a4 ≤ t560) = true := decide_eq_true c44
                              clear c44
                              by_cases c45 : t560 ≤ (l3.length : Int)
                              · rw [if_pos c45] at H
                                have c45b0 := eq_true c45
                                have c45b1 : decide (t560 ≤ (l3.length : Int)) = true := decide_eq_true c45
                                clear c45
                                obtain rfl := Option.some.inj H
                                have hcz46_0 : wc.cell? ⟨gb542, 0, none⟩ = some (.int .i64 t533) := (blk_cell BK542.out 0).trans rfl
                                have hcz46_1 : wc.cell? ⟨gb542, 1, none⟩ = some (.int .i64 t534) := (blk_cell BK542.out 1).trans rfl
                                have hcz46_2 : wc.cell? ⟨gb542, 2, none⟩ = some (.slice Ao23 t535.length co23) := (blk_cell BK542.out 2).trans rfl
                                have hcz46_3 : wc.cell? ⟨gb542, 3, none⟩ = some (.slice Ao24 t538.length co24) := (blk_cell BK542.out 3).trans rfl
                                have hfz46_0 := blk_frozen BK542.out 0
                                have hfz46_1 := blk_frozen BK542.out 1
                                have hfz46_2 := blk_frozen BK542.out 2
                                have hfz46_3 := blk_frozen BK542.out 3
                                try go_wp2_with (first | ((with_reducible refine gate_callee (f := 13) rfl ?_); refine goesL_ (some 98) rfl rfl Try.func13 (by kernel_rfl) rfl #[.agg #[.int .i64 t533, .int .i64 t534, .slice Ao23 t535.length co23, .slice Ao24 t538.length co24], .slice A3 l3.length c3, .int .i64 a4] rfl (by (try simp only [List.map_toArray, List.map_cons, List.map_nil]); first | done | rfl | (simp only [List.length_drop, List.length_take]; rfl)) ?_; (with_reducible refine (book_Read.calls kj18 t533 t534 _ _ t535 _ _ t538 _ _ l3 a4 t559 t560 t561 _ ?side1 ?side2 ?side3 ?side4 ?side5 ?side6 A39.out).mono ?_); (case side1 => repeat (first | exact (Kd.R_reads' HO_543002.out).2.2 | (with_reducible refine Kd.C_alloc ?_ _) | (with_reducible refine Kd.C_drewN ?_ _) | (with_reducible refine Kd.C_drew ?_))); (case side2 => exact (Kd.R_reads' HO_543002.out).2.1); (case side3 => repeat (first | exact (Kd.R_reads' HO_543003.out).2.2 | (with_reducible refine Kd.C_alloc ?_ _) | (with_reducible refine Kd.C_drewN ?_ _) | (with_reducible refine Kd.C_drew ?_))); (case side4 => exact (Kd.R_reads' HO_543003.out).2.1); (case side5 => repeat (first | exact (Kd.C_below HR3.out HB.out) | (with_reducible refine Kd.C_alloc ?_ _) | (with_reducible refine Kd.C_drewN ?_ _) | (with_reducible refine Kd.C_drew ?_))); (case side6 => exact HC3.out); rintro e w47 ⟨rfl, hb⟩; refine ⟨_, rfl, ?_⟩; have n0_ := Aside0.mk (Kd.R_below (by (with_reducible repeat (first | apply Kd.R_alloc | apply Kd.R_drewN | apply Kd.R_drew)); exact HO_543002.out) hb); have n1_ := Aside0.mk (Kd.R_below (by (with_reducible repeat (first | apply Kd.R_alloc | apply Kd.R_drewN | apply Kd.R_drew)); exact HO_543003.out) hb); have n2_ := Aside0.mk (blk_below (g := gb542) (o := .cells #[.int .i64 t533, .int .i64 t534, .slice Ao23 t535.length co23, .slice Ao24 t538.length co24] 24 (0, 0)) (by (with_reducible repeat (first | refine blk_drewN ?_ _ | refine blk_drew ?_ | refine blk_alloc ?_ _)); exact BK542.out) hb); have n3_ := Aside0.mk (below_step (by repeat (first | (with_reducible first | exact HB.out | apply below_alloc | apply pw_below_drewN | apply below_drew1 | refine below_set ?_ GE542.out) | exact HB.out)) hb); clear HO_543002; clear HO_543003; clear BK542; clear HB; have HO_543002 := n0_; have HO_543003 := n1_; have BK542 := n2_; have HB := n3_; clear n0_ n1_ n2_ n3_; (try clear hb); (try clear hb2); (try clear hk); (try clear hi); have hcz48_0 : w47.cell? ⟨gb542, 0, none⟩ = some (.int .i64 t533) := (blk_cell BK542.out 0).trans rfl; have hcz48_1 : w47.cell? ⟨gb542, 1, none⟩ = some (.int .i64 t534) := (blk_cell BK542.out 1).trans rfl; have hcz48_2 : w47.cell? ⟨gb542, 2, none⟩ = some (.slice Ao23 t535.length co23) := (blk_cell BK542.out 2).trans rfl; have hcz48_3 : w47.cell? ⟨gb542, 3, none⟩ = some (.slice Ao24 t538.length co24) := (blk_cell BK542.out 3).trans rfl; have hfz48_0 := blk_frozen BK542.out 0; have hfz48_1 := blk_frozen BK542.out 1; have hfz48_2 := blk_frozen BK542.out 2; have hfz48_3 := blk_frozen BK542.out 3) | ((with_reducible refine gate_callee (f := 11) rfl ?_); refine goesL_ (some 113) rfl rfl Try.func11 (by kernel_rfl) rfl #[.agg #[.int .i64 t533, .int .i64 t534, .slice Ao23 t535.length co23, .slice Ao24 t538.length co24], .int .i64 t559] rfl (by (try simp only [List.map_toArray, List.map_cons, List.map_nil]); first | done | rfl | (simp only [List.length_drop, List.length_take]; rfl)) ?_; (with_reducible refine (book_Code.calls kj18 t533 t534 _ _ t535 _ _ t538 t559 t562 t565 _ ?side1 ?side2 ?side3 ?side4 A41.out).mono ?_); (case side1 => repeat (first | exact (Kd.R_reads' HO_543002.out).2.2 | (with_reducible refine Kd.C_alloc ?_ _) | (with_reducible refine Kd.C_drewN ?_ _) | (with_reducible refine Kd.C_drew ?_))); (case side2 => exact (Kd.R_reads' HO_543002.out).2.1); (case side3 => repeat (first | exact (Kd.R_reads' HO_543003.out).2.2 | (with_reducible refine Kd.C_alloc ?_ _) | (with_reducible refine Kd.C_drewN ?_ _) | (with_reducible refine Kd.C_drew ?_))); (case side4 => exact (Kd.R_reads' HO_543003.out).2.1); rintro e w49 ⟨v563, rfl, ho0, hb⟩; refine ⟨_, rfl, ?_⟩; have n0_ := Aside0.mk (Kd.R_below (by (with_reducible repeat (first | apply Kd.R_alloc | apply Kd.R_drewN | apply Kd.R_drew)); exact HO_543002.out) hb); have n1_ := Aside0.mk (Kd.R_below (by (with_reducible repeat (first | apply Kd.R_alloc | apply Kd.R_drewN | apply Kd.R_drew)); exact HO_543003.out) hb); have n2_ := Aside0.mk (Kd.R_lower ho0 (below_size (by repeat (first | (with_reducible first | exact HB.out | apply below_alloc | apply pw_below_drewN | apply below_drew1 | refine below_set ?_ GE542.out) | exact HB.out)))); have n3_ := Aside0.mk (blk_below (g := gb542) (o := .cells #[.int .i64 t533, .int .i64 t534, .slice Ao23 t535.length co23, .slice Ao24 t538.length co24] 24 (0, 0)) (by (with_reducible repeat (first | refine blk_drewN ?_ _ | refine blk_drew ?_ | refine blk_alloc ?_ _)); exact BK542.out) hb); have n4_ := Aside0.mk (below_step (by repeat (first | (with_reducible first | exact HB.out | apply below_alloc | apply pw_below_drewN | apply below_drew1 | refine below_set ?_ GE542.out) | exact HB.out)) hb); clear HO_543002; clear HO_543003; clear BK542; clear HB; have HO_543002 := n0_; have HO_543003 := n1_; have HO564 := n2_; have BK542 := n3_; have HB := n4_; clear n0_ n1_ n2_ n3_ n4_; (try clear hb); (try clear hb2); (try clear hk); (try clear hi); (try clear ho0)))
                                have n0_ := Aside0.mk (Kd.R_drew HO_543002.out)
                                have n1_ := Aside0.mk (Kd.R_drew HO_543003.out)
                                have n2_ := Aside0.mk (Kd.R_drew HO564.out)
                                have n3_ := Aside0.mk (blk_drew BK542.out)
                                have n4_ := Aside0.mk (below_drew1 HB.out)
                                clear HO_543002
                                clear HO_543003
                                clear HO564
                                clear BK542
                                clear HB
                                have HO_543002 := n0_
                                have HO_543003 := n1_
                                have HO564 := n2_
                                have BK542 := n3_
                                have HB := n4_
                                clear n0_ n1_ n2_ n3_ n4_
                                obtain ⟨i051, hi051, _, hsz51, _⟩ := info_parts info5
                                obtain ⟨A51, hcut51, hA51, hC51⟩ := print_mid_of (P := Try.prog) (Value.int .u8) 0 25 5 .i64 .i64 Try.underlying25 hi051 hsz51 A3 c3 l3 a4 t560 (of_decide_eq_true (by first | (with_reducible assumption) | assumption)) (by first | omega | exact of_decide_eq_true (by first | (with_reducible assumption) | assumption)) (of_decide_eq_true (by first | (with_reducible assumption) | assumption)) HC3.out
                                have HR566 := Aside0.mk (Kd.C_of_reads (h1 := fun _ => rfl) (hA51 _ (Kd.reads_of_C HR3.out)))
                                have HC566 := Aside0.mk hC51
                                clear hA51 hC51 hi051 hsz51
                                have hcv52 := own_string (P := Try.prog) Try.underlying25 Try.underlying5 Try.underlying9 (Kd.own_of_R HO564.out)
                                have hcv53 := fun nd_ : Nat => own_string (P := Try.prog) Try.underlying25 Try.underlying5 Try.underlying9 (Kd.own_of_R (Kd.R_drewN HO564.out nd_))
                                have hcv54 := Kd.C_string (P := Try.prog) (A := A51) (c := (c3 - a4.toNat)) Try.underlying25 Try.underlying5 Try.underlying9 (Kd.C_below HR566.out HB.out)
                                have hlen_ : (List.drop a4.toNat (List.take t560.toNat l3)).length = t560.toNat - a4.toNat := by have := of_decide_eq_true (p := t560 ≤ (l3.length : Int)) (by first | (with_reducible assumption) | assumption); simp only [List.length_drop, List.length_take]; omega
                                rw [hlen_] at hcv54
                                refine start_ (n := 13) (S := fun w' => ((convert 25 9 v563).run Try.prog w' = .ok (.string (strOfNums t562)) w') ∧ ((convert 25 9 (.slice A51 (t560.toNat - a4.toNat) (c3 - a4.toNat))).run Try.prog w' = .ok (.string (strOfNums (List.drop a4.toNat (List.take t560.toNat l3)))) w')) (ds := []) #[false, false, false, false, false, false, false, false, false, false, false, false, false] (by kernel_rfl) rfl rfl ⟨hcv52, hcv54⟩ (fun hHeld => ?_); refine with_tabW reedpipelaw08_BookPrefix.tab16 reedpipelaw08_BookPrefix.bits16 (fun HT_ HW_ => ?_)
                                generalize w49.drew = w50 at HO_543002 HO_543003 HO564 BK542 HB HR566 hHeld ⊢
                                refine pure_ (i := 0) (N := some 116) (v := ?_) (a' := ?_) #[true, false, false, false, false, false, false, false, false, false, false, false, false] rfl rfl (any_of HT_.out (by kernel_rfl)) (fun _ _ _ h => h) (Or.inl ⟨by rfl, ?_⟩) ?_ ?_
                                rotate_left
                                · intro w'
                                  go_simp
                                  with_reducible rfl
                                rotate_left
                                · simp only [Act.put, List.setIfInBounds_toArray, List.set_cons_zero, List.set_cons_succ, i64_w, i32_w]
                                  rfl
                                refine pure_ (i := 1) (N := some 117) (v := ?_) (a' := ?_) #[true, true, false, false, false, false, false, false, false, false, false, false, false] rfl rfl (any_of HT_.out (by kernel_rfl)) (fun _ _ _ h => h) (Or.inl ⟨by rfl, ?_⟩) ?_ ?_
                                rotate_left
                                · intro w'
                                  go_simp
                                  with_reducible rfl
                                rotate_left
                                · simp only [Act.put, List.setIfInBounds_toArray, List.set_cons_zero, List.set_cons_succ, i64_w, i32_w]
                                  rfl
                                refine pure_ (i := 2) (N := some 118) (v := ?_) (a' := ?_) #[true, true, true, false, false, false, false, false, false, false, false, false, false] rfl rfl (any_of HT_.out (by kernel_rfl)) (fun _ _ _ h => h) (Or.inl ⟨by rfl, ?_⟩) ?_ ?_
                                rotate_left
                                · intro w'
                                  go_simp
                                  with_reducible rfl
                                rotate_left
                                · simp only [Act.put, List.setIfInBounds_toArray, List.set_cons_zero, List.set_cons_succ, i64_w, i32_w]
                                  rfl
                                refine pure_ (i := 3) (N := some 119) (v := ?_) (a' := ?_) #[true, true, true, true, false, false, false, false, false, false, false, false, false] rfl rfl (any_of HT_.out (by kernel_rfl)) (fun _ _ _ h => h) (Or.inl ⟨by rfl, ?_⟩) ?_ ?_
                                rotate_left
                                · intro w'
                                  go_simp
                                  with_reducible rfl
                                rotate_left
                                · simp only [Act.put, List.setIfInBounds_toArray, List.set_cons_zero, List.set_cons_succ, i64_w, i32_w]
                                  rfl
                                refine take_ (i := 4) (N := some 120) (v := ?_) (a' := ?_) #[true, true, true, true, true, false, false, false, false, false, false, false, false] rfl rfl (take_ofW HT_.out HW_.out (by kernel_rfl)) (fun _ _ _ h => h) (Or.inl ⟨by rfl, ?_⟩) hHeld ?_ ?_
                                rotate_left
                                · rintro w' ⟨s0, s1⟩
                                  go_simp
                                  with_reducible rfl
                                rotate_left
                                · simp only [Act.put, List.setIfInBounds_toArray, List.set_cons_zero, List.set_cons_succ, i64_w, i32_w]
                                  rfl
                                refine pure_ (i := 5) (N := some 121) (v := ?_) (a' := ?_) #[true, true, true, true, true, true, false, false, false, false, false, false, false] rfl rfl (any_of HT_.out (by kernel_rfl)) (fun _ _ _ h => h) (Or.inl ⟨by rfl, ?_⟩) ?_ ?_
                                rotate_left
                                · intro w'
                                  go_simp
                                  with_reducible rfl
                                rotate_left
                                · simp only [Act.put, List.setIfInBounds_toArray, List.set_cons_zero, List.set_cons_succ, i64_w, i32_w]
                                  rfl
                                refine pure_ (i := 6) (N := some 122) (v := ?_) (a' := ?_) #[true, true, true, true, true, true, true, false, false, false, false, false, false] rfl rfl (any_of HT_.out (by kernel_rfl)) (fun _ _ _ h => h) (Or.inl ⟨by rfl, ?_⟩) ?_ ?_
                                rotate_left
                                · intro w'
                                  go_simp
                                  with_reducible rfl
                                rotate_left
                                · simp only [Act.put, List.setIfInBounds_toArray, List.set_cons_zero, List.set_cons_succ, i64_w, i32_w]
                                  rfl
                                refine pure_ (i := 7) (N := some 123) (v := ?_) (a' := ?_) #[true, true, true, true, true, true, true, true, false, false, false, false, false] rfl rfl (any_of HT_.out (by kernel_rfl)) (fun _ _ _ h => h) (Or.inl ⟨by rfl, ?_⟩) ?_ ?_
                                rotate_left
                                · intro w'
                                  go_simp
                                  with_reducible rfl
                                rotate_left
                                · simp only [Act.put, List.setIfInBounds_toArray, List.set_cons_zero, List.set_cons_succ, i64_w, i32_w]
                                  rfl
                                refine pure_ (i := 8) (N := some 124) (v := ?_) (a' := ?_) #[true, true, true, true, true, true, true, true, true, false, false, false, false] rfl rfl (any_of HT_.out (by kernel_rfl)) (fun _ _ _ h => h) (Or.inl ⟨by rfl, ?_⟩) ?_ ?_
                                rotate_left
                                · intro w'
                                  go_simp
                                  with_reducible rfl
                                rotate_left
                                · simp only [Act.put, List.setIfInBounds_toArray, List.set_cons_zero, List.set_cons_succ, i64_w, i32_w]
                                  rfl
                                refine take_ (i := 9) (N := some 125) (v := ?_) (a' := ?_) #[true, true, true, true, true, true, true, true, true, true, false, false, false] rfl rfl (take_ofW HT_.out HW_.out (by kernel_rfl)) (fun _ _ _ h => h) (Or.inl ⟨by rfl, ?_⟩) hHeld ?_ ?_
                                rotate_left
                                · rintro w' ⟨s0, s1⟩
                                  go_simp
                                  with_reducible rfl
                                rotate_left
                                · simp only [Act.put, List.setIfInBounds_toArray, List.set_cons_zero, List.set_cons_succ, i64_w, i32_w]
                                  rfl
                                refine pure_ (i := 10) (N := some 126) (v := ?_) (a' := ?_) #[true, true, true, true, true, true, true, true, true, true, true, false, false] rfl rfl (any_of HT_.out (by kernel_rfl)) (fun _ _ _ h => h) (Or.inl ⟨by rfl, ?_⟩) ?_ ?_
                                rotate_left
                                · intro w'
                                  go_simp
                                  with_reducible rfl
                                rotate_left
                                · simp only [Act.put, List.setIfInBounds_toArray, List.set_cons_zero, List.set_cons_succ, i64_w, i32_w]
                                  rfl
                                refine pure_ (i := 11) (N := some 127) (v := ?_) (a' := ?_) #[true, true, true, true, true, true, true, true, true, true, true, true, false] rfl rfl (any_of HT_.out (by kernel_rfl)) (fun _ _ _ h => h) (Or.inl ⟨by rfl, ?_⟩) ?_ ?_
                                rotate_left
                                · intro w'
                                  go_simp
                                  with_reducible rfl
                                rotate_left
                                · simp only [Act.put, List.setIfInBounds_toArray, List.set_cons_zero, List.set_cons_succ, i64_w, i32_w]
                                  rfl
                                refine pure_ (i := 12) (N := some 10) (v := ?_) (a' := ?_) #[true, true, true, true, true, true, true, true, true, true, true, true, true] rfl rfl (any_of HT_.out (by kernel_rfl)) (fun _ _ _ h => h) (Or.inl ⟨by rfl, ?_⟩) ?_ ?_
                                rotate_left
                                · intro w'
                                  go_simp
                                  with_reducible rfl
                                rotate_left
                                · simp only [Act.put, List.setIfInBounds_toArray, List.set_cons_zero, List.set_cons_succ, i64_w, i32_w]
                                  rfl
                                refine done_ (done_of HT_.out (by kernel_rfl)) ?_
                                try go_wp2
                                go_ret
                                exact ⟨by first | rfl | (simp [errW_none, errW_some] <;> rfl) | (simp [*, errW_none, errW_some] <;> rfl), by repeat (first | (with_reducible first | exact HB.out | apply below_alloc | apply pw_below_drewN | apply below_drew1 | refine below_set ?_ GE542.out) | exact HB.out)⟩
                              · rw [if_neg c45] at H
                                exact absurd H (by simp)
                            · rw [if_neg c44] at H
                              exact absurd H (by simp)
                          · rw [if_neg c43] at H
                            exact absurd H (by simp)
                        · rw [if_neg c42] at H
                          have c42b0 : (t565 == 0) = false := beq_eq_false_iff_ne.mpr c42
                          have c42b1 : (t565 != 0) = true := bne_iff_ne.mpr c42
                          exact absurd ((Option.some.inj H).trans hrT) (by decide)
                      · rw [if_neg c40] at H
                        have c40b0 : (t561 == 0) = false := beq_eq_false_iff_ne.mpr c40
                        have c40b1 : (t561 != 0) = true := bne_iff_ne.mpr c40
                        by_cases c56 : t559 = 0
                        · rw [if_pos c56] at H
                          have c56b0 : (t559 == 0) = true := beq_iff_eq.mpr c56
                          have c56b1 : (t559 != 0) = false := bne_eq_false_iff_eq.mpr c56
                          clear c56
                          obtain rfl := Option.some.inj H
                          have hcz57_0 : wc.cell? ⟨gb542, 0, none⟩ = some (.int .i64 t533) := (blk_cell BK542.out 0).trans rfl
                          have hcz57_1 : wc.cell? ⟨gb542, 1, none⟩ = some (.int .i64 t534) := (blk_cell BK542.out 1).trans rfl
                          have hcz57_2 : wc.cell? ⟨gb542, 2, none⟩ = some (.slice Ao23 t535.length co23) := (blk_cell BK542.out 2).trans rfl
                          have hcz57_3 : wc.cell? ⟨gb542, 3, none⟩ = some (.slice Ao24 t538.length co24) := (blk_cell BK542.out 3).trans rfl
                          have hfz57_0 := blk_frozen BK542.out 0
                          have hfz57_1 := blk_frozen BK542.out 1
                          have hfz57_2 := blk_frozen BK542.out 2
                          have hfz57_3 := blk_frozen BK542.out 3
                          go_wp2_with (first | ((with_reducible refine gate_callee (f := 13) rfl ?_); refine goesL_ (some 98) rfl rfl Try.func13 (by kernel_rfl) rfl #[.agg #[.int .i64 t533, .int .i64 t534, .slice Ao23 t535.length co23, .slice Ao24 t538.length co24], .slice A3 l3.length c3, .int .i64 a4] rfl (by (try simp only [List.map_toArray, List.map_cons, List.map_nil]); first | done | rfl | (simp only [List.length_drop, List.length_take]; rfl)) ?_; (with_reducible refine (book_Read.calls kj18 t533 t534 _ _ t535 _ _ t538 _ _ l3 a4 t559 t560 t561 _ ?side1 ?side2 ?side3 ?side4 ?side5 ?side6 A39.out).mono ?_); (case side1 => repeat (first | exact (Kd.R_reads' HO_543002.out).2.2 | (with_reducible refine Kd.C_alloc ?_ _) | (with_reducible refine Kd.C_drewN ?_ _) | (with_reducible refine Kd.C_drew ?_))); (case side2 => exact (Kd.R_reads' HO_543002.out).2.1); (case side3 => repeat (first | exact (Kd.R_reads' HO_543003.out).2.2 | (with_reducible refine Kd.C_alloc ?_ _) | (with_reducible refine Kd.C_drewN ?_ _) | (with_reducible refine Kd.C_drew ?_))); (case side4 => exact (Kd.R_reads' HO_543003.out).2.1); (case side5 => repeat (first | exact (Kd.C_below HR3.out HB.out) | (with_reducible refine Kd.C_alloc ?_ _) | (with_reducible refine Kd.C_drewN ?_ _) | (with_reducible refine Kd.C_drew ?_))); (case side6 => exact HC3.out); rintro e w58 ⟨rfl, hb⟩; refine ⟨_, rfl, ?_⟩; have n0_ := Aside0.mk (Kd.R_below (by (with_reducible repeat (first | apply Kd.R_alloc | apply Kd.R_drewN | apply Kd.R_drew)); exact HO_543002.out) hb); have n1_ := Aside0.mk (Kd.R_below (by (with_reducible repeat (first | apply Kd.R_alloc | apply Kd.R_drewN | apply Kd.R_drew)); exact HO_543003.out) hb); have n2_ := Aside0.mk (blk_below (g := gb542) (o := .cells #[.int .i64 t533, .int .i64 t534, .slice Ao23 t535.length co23, .slice Ao24 t538.length co24] 24 (0, 0)) (by (with_reducible repeat (first | refine blk_drewN ?_ _ | refine blk_drew ?_ | refine blk_alloc ?_ _)); exact BK542.out) hb); have n3_ := Aside0.mk (below_step (by repeat (first | (with_reducible first | exact HB.out | apply below_alloc | apply pw_below_drewN | apply below_drew1 | refine below_set ?_ GE542.out) | exact HB.out)) hb); clear HO_543002; clear HO_543003; clear BK542; clear HB; have HO_543002 := n0_; have HO_543003 := n1_; have BK542 := n2_; have HB := n3_; clear n0_ n1_ n2_ n3_; (try clear hb); (try clear hb2); (try clear hk); (try clear hi)))
                          go_ret
                          exact ⟨by first | rfl | (simp [errW_none, errW_some] <;> rfl) | (simp [*, errW_none, errW_some] <;> rfl), by repeat (first | (with_reducible first | exact HB.out | apply below_alloc | apply pw_below_drewN | apply below_drew1 | refine below_set ?_ GE542.out) | exact HB.out)⟩
                        · rw [if_neg c56] at H
                          have c56b0 : (t559 == 0) = false := beq_eq_false_iff_ne.mpr c56
                          have c56b1 : (t559 != 0) = true := bne_iff_ne.mpr c56
                          exact absurd ((Option.some.inj H).trans hrT) (by decide)
              · rw [if_neg c17] at H
                exact absurd H (by simp)
            · rw [if_neg c16] at H
              exact absurd H (by simp)
        · rw [if_neg c13] at H
          have c13b0 : (t541 == 0) = false := beq_eq_false_iff_ne.mpr c13
          have c13b1 : (t541 != 0) = true := bne_iff_ne.mpr c13
          exact absurd ((Option.some.inj H).trans hrT) (by decide)

/-- THE ONE PURE STATEMENT of reedpipelaw08_BookPrefix: yours. -/
def reedpipelaw08_BookPrefix.Pure : Prop := ∀ (a0 : Int) (a1 : Int) (l2 : List Int) (l3 : List Int) (a4 : Int), (Lit.int .u8 a0).wf = true → (Lit.int .u16 a1).wf = true → l2.length ≤ maxLen → l2.length * 1 ≤ 140737488351232 → (∀ x ∈ l2, (Lit.int .u8 x).wf = true) → l3.length ≤ maxLen → l3.length * 1 ≤ 140737488351232 → (∀ x ∈ l3, (Lit.int .u8 x).wf = true) → (Lit.int .i64 a4).wf = true → ∃ k, reedpipelaw08_BookPrefix.f k a0 a1 l2 l3 a4 = some true
theorem reedpipelaw08_BookPrefix.walk (P : reedpipelaw08_BookPrefix.Pure) (a0 : Int) (a1 : Int) (a2 : Option Addr) (len2 cap2 : Nat) (z2 : List Int) (a3 : Option Addr) (len3 cap3 : Nat) (z3 : List Int) (a4 : Int) (w : World) (w0 : (Lit.int .u8 a0).wf = true) (w1 : (Lit.int .u16 a1).wf = true) (w2 : (a2 = none ∧ len2 = 0 ∧ cap2 = 0 ∧ z2 = []) ∨ ∃ x, a2 = some x ∧ len2 ≤ cap2 ∧ cap2 ≤ maxLen ∧ z2.length = cap2 ∧ (∀ i, i < z2.length → w.cell? (x.add i) = some (.int .u8 (z2.getD i 0))) ∧ ∀ n ∈ z2, (Lit.int .u8 n).wf = true) (y2 : len2 * 1 ≤ 140737488351232) (w3 : (a3 = none ∧ len3 = 0 ∧ cap3 = 0 ∧ z3 = []) ∨ ∃ x, a3 = some x ∧ len3 ≤ cap3 ∧ cap3 ≤ maxLen ∧ z3.length = cap3 ∧ (∀ i, i < z3.length → w.cell? (x.add i) = some (.int .u8 (z3.getD i 0))) ∧ ∀ n ∈ z3, (Lit.int .u8 n).wf = true) (y3 : len3 * 1 ≤ 140737488351232) (w4 : (Lit.int .i64 a4).wf = true) :
    Calls Try.prog 9 #[.int .u8 a0, .int .u16 a1, .slice a2 len2 cap2, .slice a3 len3 cap3, .int .i64 a4] w fun e w' => e = .returned (.bool true) ∧ Below w.heap.size w w' := by
  obtain ⟨l2, rfl, hr2, hm2, hw2, hc2⟩ := ReadsInt.ofRowC w2
  obtain ⟨l3, rfl, hr3, hm3, hw3, hc3⟩ := ReadsInt.ofRowC w3
  obtain ⟨k, h⟩ := P a0 a1 l2 l3 a4 w0 w1 hm2 y2 hw2 hm3 y3 hw3 w4
  refine (reedpipelaw08_BookPrefix.calls k a0 a1 _ _ l2 _ _ l3 a4 true w (Kd.C_of_reads (d := (0 : Int)) (h1 := fun _ => rfl) hr2) hc2 (Kd.C_of_reads (d := (0 : Int)) (h1 := fun _ => rfl) hr3) hc3 h rfl).mono ?_
  rintro e w' ⟨rfl, hd⟩
  exact ⟨rfl, hd⟩

end Go.Proofs.Ytoeiogefngcdiaa.P
