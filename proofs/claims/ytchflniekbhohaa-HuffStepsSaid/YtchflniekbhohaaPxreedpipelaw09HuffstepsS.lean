/- Contracts and laws of the books, each proved once: texts of this claim joined in build order. -/
import Derived.Test.YtchflniekbhohaaS0a0
import Derived.Test.YtchflniekbhohaaS6a0
import Derived.Test.YtchflniekbhohaaS0a1

-- PRINTED by print.py (a twelfth state) out of the translation. Not trusted: Lean checks it.
namespace Go.Proofs.Ytchflniekbhohaa.P
open Go.RowKit Go.Proofs.YtchflniekbhohaaW.PrintWords Go.Proofs.YtchflniekbhohaaW.PrintLast Go.Proofs.YtchflniekbhohaaW.PrintMore
attribute [local go_sem] max2_int min2_int max_two min_two max_three min_three max_four min_four   -- for this text's walks alone
set_option linter.unusedVariables false
set_option linter.unusedSimpArgs false

/-! ### reedpipelaw09_HuffSteps: function 4 -/
def reedpipelaw09_HuffSteps.f (k : Nat) (l0 : List Int) (a1 : Int) (a2 : Int) : Option (Bool) := if (l0.length : Int) > 10000 then (some true) else ((huff_Step.f k l0 a2).bind fun bt638 => ((reedpiperef09_Step.f k l0 a2).bind fun bt642 => ((huff_Stepped.f k l0 a1).bind fun bt646 => ((reedpiperef09_Stepped.f k l0 a1).bind fun bt649 => ((huff_StepCost.f k a2).bind fun bt652 => ((reedpiperef09_StepCost.f k a2).bind fun bt654 => (if (strOfNums bt638.1).toList = (strOfNums bt642.1).toList then (if bt638.2 = bt642.2 then (if bt646.1 = bt649.1 then (if bt646.2.1 = bt649.2.1 then (if bt646.2.2 = bt649.2.2 then (if bt652.1 = bt654.1 then (if bt652.2 = bt654.2 then (some ((strOfNums l0).toList == (strOfNums l0).toList)) else (some false)) else (some false)) else (some false)) else (some false)) else (some false)) else (some false)) else (some false))))))))
theorem reedpipelaw09_HuffSteps.mono : ∀ a0 a1 a2 k, LeO (reedpipelaw09_HuffSteps.f k a0 a1 a2) (reedpipelaw09_HuffSteps.f (k + 1) a0 a1 a2) := by
  intro a0 a1 a2 k
  unfold reedpipelaw09_HuffSteps.f
  repeat' first
      | (with_reducible exact huff_Step.mono _ _ _)
      | (with_reducible exact huff_StepCost.mono _ _)
      | (with_reducible exact huff_Stepped.mono _ _ _)
      | (with_reducible exact reedpiperef09_Step.mono _ _ _)
      | (with_reducible exact reedpiperef09_StepCost.mono _ _)
      | (with_reducible exact reedpiperef09_Stepped.mono _ _ _)
      | (with_reducible exact LeO.refl _)
      | (with_reducible exact LeO.none _)
      | (with_reducible refine LeO.ite ?_ ?_)
      | (with_reducible refine LeO.bind ?_ (fun _ => ?_))
      | exact huff_Step.mono _ _ _
      | exact huff_StepCost.mono _ _
      | exact huff_Stepped.mono _ _ _
      | exact reedpiperef09_Step.mono _ _ _
      | exact reedpiperef09_StepCost.mono _ _
      | exact reedpiperef09_Stepped.mono _ _ _
      | exact LeO.none _
      | refine LeO.ite ?_ ?_
      | refine LeO.bind ?_ (fun _ => ?_)
set_option maxHeartbeats 8000000 in
set_option maxRecDepth 100000 in
theorem reedpipelaw09_HuffSteps.calls (k : Nat) (A0 : Option Addr) (c0 : Nat) (l0 : List Int) (a1 : Int) (a2 : Int) (r : Bool) (w : World) (hr0 : Kd.C (Kd.int .u8) w A0 l0.length l0) (hc0 : l0.length ≤ c0) (h : reedpipelaw09_HuffSteps.f k l0 a1 a2 = some r) (hrT : r = true) :
    Calls Try.prog 4 #[.slice A0 l0.length c0, .int .i64 a1, .int .i64 a2] w fun e w' => e = .returned (.bool r) ∧ Below w.heap.size w w' := by
  have HR0 := Aside0.mk hr0
  have HC0 := Aside0.mk hc0
  clear hr0 hc0
  have HB := Aside0.mk (Below.refl w.heap.size w)
  have H : (if (l0.length : Int) > 10000 then (some true) else ((huff_Step.f k l0 a2).bind fun bt638 => ((reedpiperef09_Step.f k l0 a2).bind fun bt642 => ((huff_Stepped.f k l0 a1).bind fun bt646 => ((reedpiperef09_Stepped.f k l0 a1).bind fun bt649 => ((huff_StepCost.f k a2).bind fun bt652 => ((reedpiperef09_StepCost.f k a2).bind fun bt654 => (if (strOfNums bt638.1).toList = (strOfNums bt642.1).toList then (if bt638.2 = bt642.2 then (if bt646.1 = bt649.1 then (if bt646.2.1 = bt649.2.1 then (if bt646.2.2 = bt649.2.2 then (if bt652.1 = bt654.1 then (if bt652.2 = bt654.2 then (some ((strOfNums l0).toList == (strOfNums l0).toList)) else (some false)) else (some false)) else (some false)) else (some false)) else (some false)) else (some false)) else (some false))))))))) = some r := h
  clear h
  by_cases c4 : (l0.length : Int) > 10000
  · rw [if_pos c4] at H
    have c4b0 : decide (10000 < (l0.length : Int)) = true := decide_eq_true c4
    have c4b1 : decide (10000 < l0.length) = true := decide_eq_true (by omega)
    clear c4
    obtain rfl := Option.some.inj H
    go_enter Try.func4, Try.ntmps4
    go_wp2
    go_ret
    exact ⟨by first | rfl | (simp [errW_none, errW_some] <;> rfl) | (simp [*, errW_none, errW_some] <;> rfl), by repeat (first | (with_reducible first | exact HB.out | apply below_alloc | apply pw_below_drewN | apply below_drew1) | exact HB.out)⟩
  · rw [if_neg c4] at H
    have c4b0 : decide (10000 < (l0.length : Int)) = false := decide_eq_false c4
    have c4b1 : decide (10000 < l0.length) = false := decide_eq_false (by omega)
    clear c4
    replace H := Option.bind_eq_some_iff.mp H
    obtain ⟨⟨t638, t641⟩, A50, H⟩ := H
    replace H : ((reedpiperef09_Step.f k l0 a2).bind fun bt642 => ((huff_Stepped.f k l0 a1).bind fun bt646 => ((reedpiperef09_Stepped.f k l0 a1).bind fun bt649 => ((huff_StepCost.f k a2).bind fun bt652 => ((reedpiperef09_StepCost.f k a2).bind fun bt654 => (if (strOfNums t638).toList = (strOfNums bt642.1).toList then (if t641 = bt642.2 then (if bt646.1 = bt649.1 then (if bt646.2.1 = bt649.2.1 then (if bt646.2.2 = bt649.2.2 then (if bt652.1 = bt654.1 then (if bt652.2 = bt654.2 then (some ((strOfNums l0).toList == (strOfNums l0).toList)) else (some false)) else (some false)) else (some false)) else (some false)) else (some false)) else (some false)) else (some false))))))) = some r := H
    have A5 := Aside0.mk A50
    clear A50
    replace H := Option.bind_eq_some_iff.mp H
    obtain ⟨⟨t642, t643⟩, A60, H⟩ := H
    replace H : ((huff_Stepped.f k l0 a1).bind fun bt646 => ((reedpiperef09_Stepped.f k l0 a1).bind fun bt649 => ((huff_StepCost.f k a2).bind fun bt652 => ((reedpiperef09_StepCost.f k a2).bind fun bt654 => (if (strOfNums t638).toList = (strOfNums t642).toList then (if t641 = t643 then (if bt646.1 = bt649.1 then (if bt646.2.1 = bt649.2.1 then (if bt646.2.2 = bt649.2.2 then (if bt652.1 = bt654.1 then (if bt652.2 = bt654.2 then (some ((strOfNums l0).toList == (strOfNums l0).toList)) else (some false)) else (some false)) else (some false)) else (some false)) else (some false)) else (some false)) else (some false)))))) = some r := H
    have A6 := Aside0.mk A60
    clear A60
    replace H := Option.bind_eq_some_iff.mp H
    obtain ⟨⟨t646, t647, t648⟩, A70, H⟩ := H
    replace H : ((reedpiperef09_Stepped.f k l0 a1).bind fun bt649 => ((huff_StepCost.f k a2).bind fun bt652 => ((reedpiperef09_StepCost.f k a2).bind fun bt654 => (if (strOfNums t638).toList = (strOfNums t642).toList then (if t641 = t643 then (if t646 = bt649.1 then (if t647 = bt649.2.1 then (if t648 = bt649.2.2 then (if bt652.1 = bt654.1 then (if bt652.2 = bt654.2 then (some ((strOfNums l0).toList == (strOfNums l0).toList)) else (some false)) else (some false)) else (some false)) else (some false)) else (some false)) else (some false)) else (some false))))) = some r := H
    have A7 := Aside0.mk A70
    clear A70
    replace H := Option.bind_eq_some_iff.mp H
    obtain ⟨⟨t649, t650, t651⟩, A80, H⟩ := H
    replace H : ((huff_StepCost.f k a2).bind fun bt652 => ((reedpiperef09_StepCost.f k a2).bind fun bt654 => (if (strOfNums t638).toList = (strOfNums t642).toList then (if t641 = t643 then (if t646 = t649 then (if t647 = t650 then (if t648 = t651 then (if bt652.1 = bt654.1 then (if bt652.2 = bt654.2 then (some ((strOfNums l0).toList == (strOfNums l0).toList)) else (some false)) else (some false)) else (some false)) else (some false)) else (some false)) else (some false)) else (some false)))) = some r := H
    have A8 := Aside0.mk A80
    clear A80
    replace H := Option.bind_eq_some_iff.mp H
    obtain ⟨⟨t652, t653⟩, A90, H⟩ := H
    replace H : ((reedpiperef09_StepCost.f k a2).bind fun bt654 => (if (strOfNums t638).toList = (strOfNums t642).toList then (if t641 = t643 then (if t646 = t649 then (if t647 = t650 then (if t648 = t651 then (if t652 = bt654.1 then (if t653 = bt654.2 then (some ((strOfNums l0).toList == (strOfNums l0).toList)) else (some false)) else (some false)) else (some false)) else (some false)) else (some false)) else (some false)) else (some false))) = some r := H
    have A9 := Aside0.mk A90
    clear A90
    replace H := Option.bind_eq_some_iff.mp H
    obtain ⟨⟨t654, t655⟩, A100, H⟩ := H
    replace H : (if (strOfNums t638).toList = (strOfNums t642).toList then (if t641 = t643 then (if t646 = t649 then (if t647 = t650 then (if t648 = t651 then (if t652 = t654 then (if t653 = t655 then (some ((strOfNums l0).toList == (strOfNums l0).toList)) else (some false)) else (some false)) else (some false)) else (some false)) else (some false)) else (some false)) else (some false)) = some r := H
    have A10 := Aside0.mk A100
    clear A100
    by_cases c11 : (strOfNums t638).toList = (strOfNums t642).toList
    · rw [if_pos c11] at H
      have c11b0 : ((strOfNums t638).toList == (strOfNums t642).toList) = true := beq_iff_eq.mpr c11
      have c11b1 : ((strOfNums t638).toList != (strOfNums t642).toList) = false := bne_eq_false_iff_eq.mpr c11
      clear c11
      by_cases c12 : t641 = t643
      · rw [if_pos c12] at H
        have c12b0 : (t641 == t643) = true := beq_iff_eq.mpr c12
        have c12b1 : (t641 != t643) = false := bne_eq_false_iff_eq.mpr c12
        clear c12
        by_cases c13 : t646 = t649
        · rw [if_pos c13] at H
          have c13b0 : (t646 == t649) = true := beq_iff_eq.mpr c13
          have c13b1 : (t646 != t649) = false := bne_eq_false_iff_eq.mpr c13
          clear c13
          by_cases c14 : t647 = t650
          · rw [if_pos c14] at H
            have c14b0 : (t647 == t650) = true := beq_iff_eq.mpr c14
            have c14b1 : (t647 != t650) = false := bne_eq_false_iff_eq.mpr c14
            clear c14
            by_cases c15 : t648 = t651
            · rw [if_pos c15] at H
              have c15b0 : (t648 == t651) = true := beq_iff_eq.mpr c15
              have c15b1 : (t648 != t651) = false := bne_eq_false_iff_eq.mpr c15
              clear c15
              by_cases c16 : t652 = t654
              · rw [if_pos c16] at H
                have c16b0 : (t652 == t654) = true := beq_iff_eq.mpr c16
                have c16b1 : (t652 != t654) = false := bne_eq_false_iff_eq.mpr c16
                clear c16
                by_cases c17 : t653 = t655
                · rw [if_pos c17] at H
                  have c17b0 : (t653 == t655) = true := beq_iff_eq.mpr c17
                  have c17b1 : (t653 != t655) = false := bne_eq_false_iff_eq.mpr c17
                  clear c17
                  obtain rfl := Option.some.inj H
                  have hcv18 := Kd.C_string (P := Try.prog) (A := A0) (c := c0) Try.underlying22 Try.underlying5 Try.underlying9 HR0.out
                  go_enter Try.func4, Try.ntmps4
                  go_wp2_with (first | ((with_reducible refine gate_callee (f := 19) rfl ?_); refine goesL_ (some 30) rfl rfl Try.func19 (by kernel_rfl) rfl #[.slice A0 l0.length c0, .int .i64 a2] rfl (by (try simp only [List.map_toArray, List.map_cons, List.map_nil]); first | done | rfl | (simp only [List.length_drop, List.length_take]; rfl)) ?_; (with_reducible refine (huff_Step.calls k (fun k_ => k_ < w.heap.size) _ _ l0 a2 t638 t641 _ ?side1 A5.out).mono ?_); (case side1 => exact Kd.V_mk HC0.out (Kd.F_below (Kd.C_F (Kd.heap_int .u8) HR0.out) (by repeat (first | (with_reducible first | exact HB.out | apply below_alloc | apply pw_below_drewN | apply below_drew1) | exact HB.out)))); rintro e w19 ⟨v639, rfl, ho0, hb⟩; refine ⟨_, rfl, ?_⟩; have n0_ := Aside0.mk (Kd.R_lower (Kd.R_mono (ok' := fun k_ => True) ho0 (fun _ hk_ => trivial)) (below_size (by repeat (first | (with_reducible first | exact HB.out | apply below_alloc | apply pw_below_drewN | apply below_drew1) | exact HB.out)))); have n1_ := Aside0.mk (below_step (by repeat (first | (with_reducible first | exact HB.out | apply below_alloc | apply pw_below_drewN | apply below_drew1) | exact HB.out)) hb); clear HB; have HO640 := n0_; have HB := n1_; clear n0_ n1_; (try clear hb); (try clear hb2); (try clear hk); (try clear hi); (try clear ho0)) | ((with_reducible refine gate_callee (f := 20) rfl ?_); refine goesL_ (some 36) rfl rfl Try.func20 (by kernel_rfl) rfl #[.slice A0 l0.length c0, .int .i64 a2] rfl (by (try simp only [List.map_toArray, List.map_cons, List.map_nil]); first | done | rfl | (simp only [List.length_drop, List.length_take]; rfl)) ?_; (with_reducible refine (reedpiperef09_Step.calls k _ _ l0 a2 t642 t643 _ ?side1 ?side2 A6.out).mono ?_); (case side1 => repeat (first | exact (Kd.C_below HR0.out HB.out) | (with_reducible refine Kd.C_alloc ?_ _) | (with_reducible refine Kd.C_drewN ?_ _) | (with_reducible refine Kd.C_drew ?_))); (case side2 => exact HC0.out); rintro e w20 ⟨v644, rfl, ho0, hb⟩; refine ⟨_, rfl, ?_⟩; have n0_ := Aside0.mk (Kd.R_elder' (by (with_reducible repeat (first | apply Kd.R_alloc | apply Kd.R_drewN | apply Kd.R_drew)); exact HO640.out) (Kd.R_base ho0) hb); have n1_ := Aside0.mk (Kd.R_lower (Kd.R_new' ho0 (Kd.R_lt (by (with_reducible repeat (first | apply Kd.R_alloc | apply Kd.R_drewN | apply Kd.R_drew)); exact HO640.out))) (below_size (by repeat (first | (with_reducible first | exact HB.out | apply below_alloc | apply pw_below_drewN | apply below_drew1) | exact HB.out)))); have n2_ := Aside0.mk (below_step (by repeat (first | (with_reducible first | exact HB.out | apply below_alloc | apply pw_below_drewN | apply below_drew1) | exact HB.out)) hb); clear HO640; clear HB; have HO640 := n0_; have HO645 := n1_; have HB := n2_; clear n0_ n1_ n2_; (try clear hb); (try clear hb2); (try clear hk); (try clear hi); (try clear ho0)) | ((with_reducible refine gate_callee (f := 21) rfl ?_); refine goesL_ (some 42) rfl rfl Try.func21 (by kernel_rfl) rfl #[.slice A0 l0.length c0, .int .i64 a1] rfl (by (try simp only [List.map_toArray, List.map_cons, List.map_nil]); first | done | rfl | (simp only [List.length_drop, List.length_take]; rfl)) ?_; (with_reducible refine (huff_Stepped.calls k _ _ l0 a1 t646 t647 t648 _ ?side1 ?side2 A7.out).mono ?_); (case side1 => repeat (first | exact (Kd.C_below HR0.out HB.out) | (with_reducible refine Kd.C_alloc ?_ _) | (with_reducible refine Kd.C_drewN ?_ _) | (with_reducible refine Kd.C_drew ?_))); (case side2 => exact HC0.out); rintro e w21 ⟨rfl, hb⟩; refine ⟨_, rfl, ?_⟩; have n0_ := Aside0.mk (Kd.R_below (by (with_reducible repeat (first | apply Kd.R_alloc | apply Kd.R_drewN | apply Kd.R_drew)); exact HO640.out) hb); have n1_ := Aside0.mk (Kd.R_below (by (with_reducible repeat (first | apply Kd.R_alloc | apply Kd.R_drewN | apply Kd.R_drew)); exact HO645.out) hb); have n2_ := Aside0.mk (below_step (by repeat (first | (with_reducible first | exact HB.out | apply below_alloc | apply pw_below_drewN | apply below_drew1) | exact HB.out)) hb); clear HO640; clear HO645; clear HB; have HO640 := n0_; have HO645 := n1_; have HB := n2_; clear n0_ n1_ n2_; (try clear hb); (try clear hb2); (try clear hk); (try clear hi)) | ((with_reducible refine gate_callee (f := 22) rfl ?_); refine goesL_ (some 49) rfl rfl Try.func22 (by kernel_rfl) rfl #[.slice A0 l0.length c0, .int .i64 a1] rfl (by (try simp only [List.map_toArray, List.map_cons, List.map_nil]); first | done | rfl | (simp only [List.length_drop, List.length_take]; rfl)) ?_; (with_reducible refine (reedpiperef09_Stepped.calls k _ _ l0 a1 t649 t650 t651 _ ?side1 ?side2 A8.out).mono ?_); (case side1 => repeat (first | exact (Kd.C_below HR0.out HB.out) | (with_reducible refine Kd.C_alloc ?_ _) | (with_reducible refine Kd.C_drewN ?_ _) | (with_reducible refine Kd.C_drew ?_))); (case side2 => exact HC0.out); rintro e w22 ⟨rfl, hb⟩; refine ⟨_, rfl, ?_⟩; have n0_ := Aside0.mk (Kd.R_below (by (with_reducible repeat (first | apply Kd.R_alloc | apply Kd.R_drewN | apply Kd.R_drew)); exact HO640.out) hb); have n1_ := Aside0.mk (Kd.R_below (by (with_reducible repeat (first | apply Kd.R_alloc | apply Kd.R_drewN | apply Kd.R_drew)); exact HO645.out) hb); have n2_ := Aside0.mk (below_step (by repeat (first | (with_reducible first | exact HB.out | apply below_alloc | apply pw_below_drewN | apply below_drew1) | exact HB.out)) hb); clear HO640; clear HO645; clear HB; have HO640 := n0_; have HO645 := n1_; have HB := n2_; clear n0_ n1_ n2_; (try clear hb); (try clear hb2); (try clear hk); (try clear hi)) | ((with_reducible refine gate_callee (f := 23) rfl ?_); refine goesL_ (some 55) rfl rfl Try.func23 (by kernel_rfl) rfl #[.int .i64 a2] rfl (by (try simp only [List.map_toArray, List.map_cons, List.map_nil]); first | done | rfl | (simp only [List.length_drop, List.length_take]; rfl)) ?_; (with_reducible refine (huff_StepCost.calls k a2 t652 t653 _ A9.out).mono ?_); rintro e w23 ⟨rfl, hb⟩; refine ⟨_, rfl, ?_⟩; have n0_ := Aside0.mk (Kd.R_below (by (with_reducible repeat (first | apply Kd.R_alloc | apply Kd.R_drewN | apply Kd.R_drew)); exact HO640.out) hb); have n1_ := Aside0.mk (Kd.R_below (by (with_reducible repeat (first | apply Kd.R_alloc | apply Kd.R_drewN | apply Kd.R_drew)); exact HO645.out) hb); have n2_ := Aside0.mk (below_step (by repeat (first | (with_reducible first | exact HB.out | apply below_alloc | apply pw_below_drewN | apply below_drew1) | exact HB.out)) hb); clear HO640; clear HO645; clear HB; have HO640 := n0_; have HO645 := n1_; have HB := n2_; clear n0_ n1_ n2_; (try clear hb); (try clear hb2); (try clear hk); (try clear hi)) | ((with_reducible refine gate_callee (f := 24) rfl ?_); refine goesL_ (some 60) rfl rfl Try.func24 (by kernel_rfl) rfl #[.int .i64 a2] rfl (by (try simp only [List.map_toArray, List.map_cons, List.map_nil]); first | done | rfl | (simp only [List.length_drop, List.length_take]; rfl)) ?_; (with_reducible refine (reedpiperef09_StepCost.calls k a2 t654 t655 _ A10.out).mono ?_); rintro e w24 ⟨rfl, hb⟩; refine ⟨_, rfl, ?_⟩; have n0_ := Aside0.mk (Kd.R_below (by (with_reducible repeat (first | apply Kd.R_alloc | apply Kd.R_drewN | apply Kd.R_drew)); exact HO640.out) hb); have n1_ := Aside0.mk (Kd.R_below (by (with_reducible repeat (first | apply Kd.R_alloc | apply Kd.R_drewN | apply Kd.R_drew)); exact HO645.out) hb); have n2_ := Aside0.mk (below_step (by repeat (first | (with_reducible first | exact HB.out | apply below_alloc | apply pw_below_drewN | apply below_drew1) | exact HB.out)) hb); clear HO640; clear HO645; clear HB; have HO640 := n0_; have HO645 := n1_; have HB := n2_; clear n0_ n1_ n2_; (try clear hb); (try clear hb2); (try clear hk); (try clear hi); have hcv25 := own_string (P := Try.prog) Try.underlying22 Try.underlying5 Try.underlying9 (Kd.own_of_R HO640.out); have hcv26 := fun nd_ : Nat => own_string (P := Try.prog) Try.underlying22 Try.underlying5 Try.underlying9 (Kd.own_of_R (Kd.R_drewN HO640.out nd_)); have hcv27 := own_string (P := Try.prog) Try.underlying22 Try.underlying5 Try.underlying9 (Kd.own_of_R HO645.out); have hcv28 := fun nd_ : Nat => own_string (P := Try.prog) Try.underlying22 Try.underlying5 Try.underlying9 (Kd.own_of_R (Kd.R_drewN HO645.out nd_)); have hcv29 := Kd.C_string (P := Try.prog) (A := A0) (c := c0) Try.underlying22 Try.underlying5 Try.underlying9 (Kd.C_below HR0.out HB.out)))
                  go_ret
                  exact ⟨by first | rfl | (simp [errW_none, errW_some] <;> rfl) | (simp [*, errW_none, errW_some] <;> rfl), by repeat (first | (with_reducible first | exact HB.out | apply below_alloc | apply pw_below_drewN | apply below_drew1) | exact HB.out)⟩
                · rw [if_neg c17] at H
                  have c17b0 : (t653 == t655) = false := beq_eq_false_iff_ne.mpr c17
                  have c17b1 : (t653 != t655) = true := bne_iff_ne.mpr c17
                  exact absurd ((Option.some.inj H).trans hrT) (by decide)
              · rw [if_neg c16] at H
                have c16b0 : (t652 == t654) = false := beq_eq_false_iff_ne.mpr c16
                have c16b1 : (t652 != t654) = true := bne_iff_ne.mpr c16
                exact absurd ((Option.some.inj H).trans hrT) (by decide)
            · rw [if_neg c15] at H
              have c15b0 : (t648 == t651) = false := beq_eq_false_iff_ne.mpr c15
              have c15b1 : (t648 != t651) = true := bne_iff_ne.mpr c15
              exact absurd ((Option.some.inj H).trans hrT) (by decide)
          · rw [if_neg c14] at H
            have c14b0 : (t647 == t650) = false := beq_eq_false_iff_ne.mpr c14
            have c14b1 : (t647 != t650) = true := bne_iff_ne.mpr c14
            exact absurd ((Option.some.inj H).trans hrT) (by decide)
        · rw [if_neg c13] at H
          have c13b0 : (t646 == t649) = false := beq_eq_false_iff_ne.mpr c13
          have c13b1 : (t646 != t649) = true := bne_iff_ne.mpr c13
          exact absurd ((Option.some.inj H).trans hrT) (by decide)
      · rw [if_neg c12] at H
        have c12b0 : (t641 == t643) = false := beq_eq_false_iff_ne.mpr c12
        have c12b1 : (t641 != t643) = true := bne_iff_ne.mpr c12
        exact absurd ((Option.some.inj H).trans hrT) (by decide)
    · rw [if_neg c11] at H
      have c11b0 : ((strOfNums t638).toList == (strOfNums t642).toList) = false := beq_eq_false_iff_ne.mpr c11
      have c11b1 : ((strOfNums t638).toList != (strOfNums t642).toList) = true := bne_iff_ne.mpr c11
      exact absurd ((Option.some.inj H).trans hrT) (by decide)

/-- THE ONE PURE STATEMENT of reedpipelaw09_HuffSteps: yours. -/
def reedpipelaw09_HuffSteps.Pure : Prop := ∀ (l0 : List Int) (a1 : Int) (a2 : Int), l0.length ≤ maxLen → l0.length * 1 ≤ 140737488351232 → (∀ x ∈ l0, (Lit.int .u8 x).wf = true) → (Lit.int .i64 a1).wf = true → (Lit.int .i64 a2).wf = true → ∃ k, reedpipelaw09_HuffSteps.f k l0 a1 a2 = some true
theorem reedpipelaw09_HuffSteps.walk (P : reedpipelaw09_HuffSteps.Pure) (a0 : Option Addr) (len0 cap0 : Nat) (z0 : List Int) (a1 : Int) (a2 : Int) (w : World) (w0 : (a0 = none ∧ len0 = 0 ∧ cap0 = 0 ∧ z0 = []) ∨ ∃ x, a0 = some x ∧ len0 ≤ cap0 ∧ cap0 ≤ maxLen ∧ z0.length = cap0 ∧ (∀ i, i < z0.length → w.cell? (x.add i) = some (.int .u8 (z0.getD i 0))) ∧ ∀ n ∈ z0, (Lit.int .u8 n).wf = true) (y0 : len0 * 1 ≤ 140737488351232) (w1 : (Lit.int .i64 a1).wf = true) (w2 : (Lit.int .i64 a2).wf = true) :
    Calls Try.prog 4 #[.slice a0 len0 cap0, .int .i64 a1, .int .i64 a2] w fun e w' => e = .returned (.bool true) ∧ Below w.heap.size w w' := by
  obtain ⟨l0, rfl, hr0, hm0, hw0, hc0⟩ := ReadsInt.ofRowC w0
  obtain ⟨k, h⟩ := P l0 a1 a2 hm0 y0 hw0 w1 w2
  refine (reedpipelaw09_HuffSteps.calls k _ _ l0 a1 a2 true w (Kd.C_of_reads (d := (0 : Int)) (h1 := fun _ => rfl) hr0) hc0 h rfl).mono ?_
  rintro e w' ⟨rfl, hd⟩
  exact ⟨rfl, hd⟩

end Go.Proofs.Ytchflniekbhohaa.P
