/- The reader's get: the number of the next bits, from its place on; its place or its error is turned. -/
import Derived.Test.YtchflniekbhohaaL0a0
import Derived.Test.YtchflniekbhohaaPBitsL
import Derived.Test.YtchflniekbhohaaEng2L
import Derived.Deep.QuietTactic
import Derived.BigQuiet
import Derived.Outline

/- The reader's get: the number of the next bits, from its place on; its place or its error is turned. -/
namespace Go.Proofs.Ytchflniekbhohaa.P
open Go.RowKit Go.Proofs.Ytchflniekbhohaa.Eng Go.Proofs.Ytchflniekbhohaa.Pure Go.Proofs.YtchflniekbhohaaW.PrintWords Go.Proofs.YtchflniekbhohaaW.PrintLast Go.Proofs.YtchflniekbhohaaW.PrintMore
set_option linter.unusedVariables false
set_option linter.unusedSimpArgs false

set_option maxHeartbeats 8000000 in
set_option maxRecDepth 100000 in
theorem bits_Get.callsN (k : Nat) (A0 : Option Addr) (c0 : Nat) (l0 : List Int) (a1 : Int) (a2 : Int) (r1 : Int) (r2 : Int) (r3 : Int) (w : World) (hr0 : Kd.C (Kd.int .u8) w A0 l0.length l0) (h : bits_Get.f k l0 a1 a2 = some (r1, r2, r3)) :
  Calls Try.prog 75 #[.slice A0 l0.length c0, .int .i64 a1, .int .i64 a2] w fun e w' => e = .returned (.tuple #[.int .i64 r1, .int .i64 r2, .int .i64 r3]) ∧ Drawn0 w w' := by
 have HR0 := Aside0.mk hr0
 clear hr0
 have H : ((bits_sized.f a2).bind fun t379 => (if t379 = true then (if a1 < 0 then (bits_Get.j0 k l0 a1 a2 0 true) else (bits_Get.j0 k l0 a1 a2 0 (decide (a1 > (l0.length : Int))))) else (bits_Get.j0 k l0 a1 a2 0 true))) = some (r1, r2, r3) := h
 clear h
 have HC4 := Aside0.mk H
 clear H
 go_enter Try.func75, Try.ntmps75
 go_upto_region 1 with (fail)
 go_cut [10] (fun v10 wc => ∃ (kq : Nat) (x10_3 : Bool), v10 = .bool x10_3 ∧ Aside0 (bits_Get.j0 kq l0 a1 a2 0 x10_3 = some (r1, r2, r3)) ∧ Aside0 (kq ≤ k) ∧ Drawn0 w wc)
 case first =>
  have H := HC4.out
  clear HC4
  replace H := Option.bind_eq_some_iff.mp H
  obtain ⟨t379, A50, H⟩ := H
  replace H : (if t379 = true then (if a1 < 0 then (bits_Get.j0 k l0 a1 a2 0 true) else (bits_Get.j0 k l0 a1 a2 0 (decide (a1 > (l0.length : Int))))) else (bits_Get.j0 k l0 a1 a2 0 true)) = some (r1, r2, r3) := H
  have A5 := Aside0.mk A50
  clear A50
  by_cases c6 : t379 = true
  ·subst c6
   have H1 : (if a1 < 0 then (bits_Get.j0 k l0 a1 a2 0 true) else (bits_Get.j0 k l0 a1 a2 0 (decide (a1 > (l0.length : Int))))) = some (r1, r2, r3) := by rw [if_pos rfl] at H; exact H
   clear H
   have H := H1
   clear H1
   by_cases c7 : a1 < 0
   ·rw [if_pos c7] at H
    have c7b0 : decide (a1 < 0) = true := decide_eq_true c7
    clear c7
    (first | rw [c7b0] | (simp only [i64_w, i32_w]; rw [c7b0]) | skip)
    have H' := Aside0.mk H
    clear H
    go_wp2_with (first | ((with_reducible refine gate_callee (f := 64) rfl ?_); refine goesL_ (some 12) rfl rfl Try.func64 (by kernel_rfl) rfl #[.int .i64 a2] rfl (by (try simp only [List.map_toArray, List.map_cons, List.map_nil]); first | done | rfl | (simp only [List.length_drop, List.length_take]; rfl)) ?_; (with_reducible refine (bits_sized.calls a2 true _ A5.out).mono ?_); rintro e w' ⟨rfl, ⟨nd, rfl⟩⟩; refine ⟨_, rfl, ?_⟩))
    go_meet
    case rel => exact ⟨_, (true), (by first | rfl | (simp; done) | (simp [*]; done)), H', ⟨by first | omega | exact Nat.le_refl _⟩, by repeat (first | exact Drawn0.refl _ | apply Drawn0.step)⟩
   ·rw [if_neg c7] at H
    have c7b0 : decide (a1 < 0) = false := decide_eq_false c7
    clear c7
    (first | rw [c7b0] | (simp only [i64_w, i32_w]; rw [c7b0]) | skip)
    have H' := Aside0.mk H
    clear H
    go_wp2_with (first | ((with_reducible refine gate_callee (f := 64) rfl ?_); refine goesL_ (some 12) rfl rfl Try.func64 (by kernel_rfl) rfl #[.int .i64 a2] rfl (by (try simp only [List.map_toArray, List.map_cons, List.map_nil]); first | done | rfl | (simp only [List.length_drop, List.length_take]; rfl)) ?_; (with_reducible refine (bits_sized.calls a2 true _ A5.out).mono ?_); rintro e w' ⟨rfl, ⟨nd, rfl⟩⟩; refine ⟨_, rfl, ?_⟩))
    go_meet
    case rel => exact ⟨_, (decide (a1 > (l0.length : Int))), (by first | rfl | (simp; done) | (simp [*]; done)), H', ⟨by first | omega | exact Nat.le_refl _⟩, by repeat (first | exact Drawn0.refl _ | apply Drawn0.step)⟩
  ·replace c6 := Bool.eq_false_iff.mpr c6
   subst c6
   have H1 : (bits_Get.j0 k l0 a1 a2 0 true) = some (r1, r2, r3) := by rw [if_neg (show ¬ (false = true) by decide)] at H; exact H
   clear H
   have H := H1
   clear H1
   have H' := Aside0.mk H
   clear H
   go_wp2_with (first | ((with_reducible refine gate_callee (f := 64) rfl ?_); refine goesL_ (some 12) rfl rfl Try.func64 (by kernel_rfl) rfl #[.int .i64 a2] rfl (by (try simp only [List.map_toArray, List.map_cons, List.map_nil]); first | done | rfl | (simp only [List.length_drop, List.length_take]; rfl)) ?_; (with_reducible refine (bits_sized.calls a2 false _ A5.out).mono ?_); rintro e w' ⟨rfl, ⟨nd, rfl⟩⟩; refine ⟨_, rfl, ?_⟩))
   go_meet
   case rel => exact ⟨_, (true), (by first | rfl | (simp; done) | (simp [*]; done)), H', ⟨by first | omega | exact Nat.le_refl _⟩, by repeat (first | exact Drawn0.refl _ | apply Drawn0.step)⟩
 case rest =>
  clear HC4
  try clear p2
  try clear c6
  try clear c7
  try clear c7b0
  obtain ⟨kq, x10_3, rfl, HA, HJ3, ⟨mc3, rfl⟩⟩ := hcut
  cases kq with
  | zero => exact absurd HA.out (by simp [bits_Get.j0])
  | succ kj3 =>
   have H := HA.out
   clear HA
   simp only [bits_Get.j0] at H
   by_cases c8 : x10_3 = true
   ·subst c8
    have H1 : (some (0, 0, 2)) = some (r1, r2, r3) := by rw [if_pos rfl] at H; exact H
    clear H
    have H := H1
    clear H1
    simp only [Option.some.injEq, Prod.mk.injEq] at H
    obtain ⟨rfl, rfl, rfl⟩ := H
    go_wp2
    go_ret3
    exact ⟨by first | rfl | (simp; done) | (simp [*]; done), by repeat (first | exact Drawn0.refl _ | apply Drawn0.step)⟩
   ·replace c8 := Bool.eq_false_iff.mpr c8
    subst c8
    have H1 : (if (wrap64 ((l0.length : Int) - a1)) < a2 then (some (0, 0, 5)) else (bits_Get.l0 kj3 l0 a1 a2 0 a2 0)) = some (r1, r2, r3) := by rw [if_neg (show ¬ (false = true) by decide)] at H; exact H
    clear H
    have H := H1
    clear H1
    by_cases c9 : (wrap64 ((l0.length : Int) - a1)) < a2
    ·rw [if_pos c9] at H
     have c9b0 : decide ((wrap64 ((l0.length : Int) - a1)) < a2) = true := decide_eq_true c9
     clear c9
     simp only [Option.some.injEq, Prod.mk.injEq] at H
     obtain ⟨rfl, rfl, rfl⟩ := H
     go_wp2
     go_ret3
     exact ⟨by first | rfl | (simp; done) | (simp [*]; done), by repeat (first | exact Drawn0.refl _ | apply Drawn0.step)⟩
    ·rw [if_neg c9] at H
     have c9b0 : decide ((wrap64 ((l0.length : Int) - a1)) < a2) = false := decide_eq_false c9
     clear c9
     have H' := Aside0.mk H
     clear H
     go_wp2
     go_loopg [6, 32] kj3 (fun kq v6 v32 w' => ∃ (x6_2 : Int) (x32_2 : Int), v6 = .int .i64 x6_2 ∧ v32 = .int .i64 x32_2 ∧ Aside0 (bits_Get.l0 kq l0 a1 a2 x6_2 a2 x32_2 = some (r1, r2, r3)) ∧ Aside0 (kq ≤ kj3) ∧ Drawn0 w w')
     case atStart => exact ⟨(0), (0), (by first | rfl | (simp; done) | (simp [*]; done)), (by first | rfl | (simp; done) | (simp [*]; done)), H', ⟨Nat.le_refl _⟩, by repeat (first | exact Drawn0.refl _ | apply Drawn0.step)⟩
     case round =>
      clear H'
      try clear p2
      try clear c3
      try clear c6
      try clear p6
      try clear c7
      try clear c7b0
      try clear c8
      try clear c9
      try clear c9b0
      try clear p2
      obtain ⟨x6_2, x32_2, rfl, rfl, HA, HK2, ⟨m2, rfl⟩⟩ := hrel
      cases gk with
      | zero => exact absurd HA.out (by simp [bits_Get.l0])
      | succ k2 =>
       have H := HA.out
       clear HA
       simp only [bits_Get.l0] at H
       by_cases c10 : x32_2 < a2
       ·rw [if_pos c10] at H
        have c10b0 : decide (x32_2 < a2) = true := decide_eq_true c10
        clear c10
        obtain ⟨ji11, hji11⟩ : ∃ j_ : Int, (wrap64 (a1 + x32_2)) = j_ := ⟨_, rfl⟩
        replace H : (if 0 ≤ (ji11) then (if (ji11) < (l0.length : Int) then (if (rd l0 (ji11)) > 1 then (some (0, 0, 8)) else (bits_Get.l0 k2 l0 a1 a2 (Go.bits .or .i64 (wrap64 (x6_2 * 2)) (wrap64 (rd l0 (ji11)))) a2 (wrap64 (x32_2 + 1)))) else (none)) else (none)) = some (r1, r2, r3) := by first | (rw [hji11] at H; exact H) | (simp only [hji11] at H ⊢; exact H)
        have hji11w : (IntKind.i64.wrap (a1 + x32_2)) = ji11 := (i64_w _).trans hji11
        by_cases c12 : 0 ≤ (ji11)
        ·rw [if_pos c12] at H
         have c12b0 : decide (0 ≤ (ji11)) = true := decide_eq_true c12
         clear c12
         by_cases c13 : (ji11) < (l0.length : Int)
         ·rw [if_pos c13] at H
          have c13b0 : decide ((ji11) < (l0.length : Int)) = true := decide_eq_true c13
          clear c13
          by_cases c14 : (rd l0 (ji11)) > 1
          ·rw [if_pos c14] at H
           have c14b0 : decide (1 < (rd l0 (ji11))) = true := decide_eq_true c14
           clear c14
           simp only [Option.some.injEq, Prod.mk.injEq] at H
           obtain ⟨rfl, rfl, rfl⟩ := H
           have p380 : 0 ≤ ((ji11) : Int) := of_decide_eq_true (by first | (with_reducible assumption) | assumption)
           have q380 : (ji11) < (l0.length : Int) := of_decide_eq_true (by first | (with_reducible assumption) | assumption)
           obtain ⟨ad380, e380, hx380_0⟩ := Kd.at_int HR0.out (ji11) p380 q380
           cases e380
           replace p380 := eq_true p380
           replace q380 := eq_true q380
           go_wp2
           go_ret3
           exact ⟨by first | rfl | (simp; done) | (simp only [← hji11] <;> (first | rfl | simp)) | (simp [*]; done), by repeat (first | exact Drawn0.refl _ | apply Drawn0.step)⟩
          ·rw [if_neg c14] at H
           have c14b0 : decide (1 < (rd l0 (ji11))) = false := decide_eq_false c14
           clear c14
           have H' := Aside0.mk H
           clear H
           have p380 : 0 ≤ ((ji11) : Int) := of_decide_eq_true (by first | (with_reducible assumption) | assumption)
           have q380 : (ji11) < (l0.length : Int) := of_decide_eq_true (by first | (with_reducible assumption) | assumption)
           obtain ⟨ad380, e380, hx380_0⟩ := Kd.at_int HR0.out (ji11) p380 q380
           cases e380
           replace p380 := eq_true p380
           replace q380 := eq_true q380
           have p381 : 0 ≤ ((ji11) : Int) := of_decide_eq_true (by first | (with_reducible assumption) | assumption)
           have q381 : (ji11) < (l0.length : Int) := of_decide_eq_true (by first | (with_reducible assumption) | assumption)
           obtain ⟨ad381, e381, hx381_0⟩ := Kd.at_int HR0.out (ji11) p381 q381
           obtain rfl : ad380 = ad381 := (by injection e381)
           replace p381 := eq_true p381
           replace q381 := eq_true q381
           go_wp2
           go_roundg k2
           case measure => have := HJ3.out; have := HK2.out; omega
           case rel => exact ⟨(Go.bits .or .i64 (wrap64 (x6_2 * 2)) (wrap64 (rd l0 (ji11)))), (wrap64 (x32_2 + 1)), (by first | rfl | (simp; done) | (simp only [← hji11] <;> (first | rfl | simp)) | (simp [*]; done)), (by first | rfl | (simp; done) | (simp [*]; done)), H', ⟨by have := HJ3.out; have := HK2.out; omega⟩, by repeat (first | exact Drawn0.refl _ | apply Drawn0.step)⟩
         ·rw [if_neg c13] at H
          exact absurd H (by simp)
        ·rw [if_neg c12] at H
         exact absurd H (by simp)
       ·rw [if_neg c10] at H
        have c10b0 : decide (x32_2 < a2) = false := decide_eq_false c10
        clear c10
        simp only [Option.some.injEq, Prod.mk.injEq] at H
        obtain ⟨rfl, rfl, rfl⟩ := H
        go_wp2
        go_ret3
        exact ⟨by first | rfl | (simp; done) | (simp [*]; done), by repeat (first | exact Drawn0.refl _ | apply Drawn0.step)⟩

/-- A list of bytes. -/
def bytB (l : List Int) : Bool := decide (l.length ≤ 140737488355328) && l.all fun x => decide (0 ≤ x) && decide (x ≤ 255)
theorem bytB_byt {l : List Int} (h : bytB l = true) : Byt l := by
 unfold bytB at h
 simp only [Bool.and_eq_true, decide_eq_true_eq, List.all_eq_true] at h
 exact ⟨h.1, h.2⟩
theorem byt_bytB {l : List Int} (h : Byt l) : bytB l = true := by
 unfold bytB
 simp only [Bool.and_eq_true, decide_eq_true_eq, List.all_eq_true]
 exact ⟨h.1, h.2⟩
/-- What a reader gets: the number, its place, its error. -/
def rgetV (l : List Int) (p e m : Int) : Int × Int × Int :=
 if e ≠ 0 then (0, p, e) else if (getV l p m).2.2 = 0 then ((getV l p m).1, (getV l p m).2.1, 0) else ((getV l p m).1, p, (getV l p m).2.2)
def huff_reader_get.f (s0_0 : List Int) (s0_1 : Int) (s0_2 : Int) (a1 : Int) : Option (Int × Int × Int) := if bytB s0_0 = true then some (rgetV s0_0 s0_1 s0_2 a1) else none

set_option maxRecDepth 100000 in
set_option maxHeartbeats 1000000 in
theorem huff_reader_get.calls (g : Nat) (s0_0 : List Int) (s0_1 : Int) (s0_2 : Int) (a1 : Int) (r1 : Int) (r2 : Int) (r3 : Int) (w0 w : World) (hI : IsS79 w0 w g s0_0 s0_1 s0_2) (hB : Below w0.heap.size w0 w) (h : huff_reader_get.f s0_0 s0_1 s0_2 a1 = some (r1, r2, r3)) :
  Calls Try.prog 42 #[.pointer (some ⟨g, 0, none⟩), .int .i64 a1] w fun e w' => e = .returned (.int .i64 r1) ∧ IsS79 w0 w' g s0_0 r2 r3 ∧ Below w0.heap.size w0 w' ∧ KeepBut w w' g none := by
 unfold huff_reader_get.f at h
 by_cases hb : bytB s0_0 = true
 rotate_left
 ·rw [if_neg hb] at h; cases h
 rw [if_pos hb] at h
 have hV : rgetV s0_0 s0_1 s0_2 a1 = (r1, r2, r3) := Option.some.inj h
 clear h
 have B := bytB_byt hb
 have HI := Aside0.mk hI
 obtain ⟨A0, c0, hblk, hge, hrd⟩ := hI
 have hR : ORow w g 79 #[.slice A0 s0_0.length c0, .int .i64 s0_1, .int .i64 s0_2] := hblk
 have q0 := hR.cell 0 _ (by simp; rfl)
 have q1 := hR.cell 1 _ (by simp; rfl)
 have q2 := hR.cell 2 _ (by simp; rfl)
 have f1 := hR.frozen 1
 have f2 := hR.frozen 2
 have HR := Aside0.mk hR
 have HBB := Aside0.mk hB
 have HRD := Aside0.mk hrd
 have HGE := Aside0.mk hge
 have HC := Aside0.mk (Kd.C_below hrd hB)
 clear hR hB hrd hblk hb hge
 unfold rgetV at hV
 by_cases he : s0_2 ≠ 0
 ·rw [if_pos he] at hV
  simp only [Prod.mk.injEq] at hV
  obtain ⟨rfl, rfl, rfl⟩ := hV
  have heb : (s0_2 != 0) = true := bne_iff_ne.mpr he
  clear he
  go_enter Try.func42, Try.ntmps42
  go_wp2
  go_ret
  exact ⟨rfl, HI.out, HBB.out, KeepBut.refl _ _ _⟩
 ·obtain rfl : s0_2 = 0 := Classical.not_not.1 he
  obtain ⟨K, eK⟩ := ownGet_ev B s0_1 a1
  have hg : bits_Get.f K s0_0 s0_1 a1 = some (getV s0_0 s0_1 a1) := eK K (Nat.le_refl _)
  rw [if_neg he] at hV
  clear eK he
  generalize getV s0_0 s0_1 a1 = gg at hg hV
  obtain ⟨n, nx, ee⟩ := gg
  have HG := Aside0.mk hg
  clear hg
  by_cases g2 : ee = 0
  ·subst g2
   rw [if_pos rfl] at hV
   simp only [Prod.mk.injEq] at hV
   obtain ⟨rfl, rfl, rfl⟩ := hV
   go_enter Try.func42, Try.ntmps42
   go_wp2
   go_quiet ((go_at_call 75; exact Calls.quiet_of ((bits_Get.callsN K A0 c0 _ _ _ _ _ _ _ (Kd.C_drewN HC.out _) HG.out).mono fun _ _ h => ⟨h.1, h.2.out⟩)))
   go_wp2
   go_ret
   refine ⟨rfl, ⟨A0, c0, ?_, HGE.out, HRD.out⟩, bsetAt (bsetAt (below_drewN' HBB.out nq) HGE.out _) HGE.out _, KeepBut.set_ (KeepBut.set_ (KeepBut.of_below (below_drewN' (Below.refl _ w) nq) _ _) _ _) _ _⟩
   have hq : ORow (((w.drewN nq).setCell ⟨g, 2, none⟩ (.int .i64 0)).setCell ⟨g, 1, none⟩ (.int .i64 nx)) g 79 #[.slice A0 s0_0.length c0, .int .i64 nx, .int .i64 0] := by simpa using ((HR.out.drewN nq).set 2 (.int .i64 0)).set 1 (.int .i64 nx)
   exact hq
  ·rw [if_neg g2] at hV
   simp only [Prod.mk.injEq] at hV
   obtain ⟨rfl, rfl, rfl⟩ := hV
   have geb : (ee == 0) = false := by simpa using g2
   clear g2
   go_enter Try.func42, Try.ntmps42
   go_wp2
   go_quiet ((go_at_call 75; exact Calls.quiet_of ((bits_Get.callsN K A0 c0 _ _ _ _ _ _ _ (Kd.C_drewN HC.out _) HG.out).mono fun _ _ h => ⟨h.1, h.2.out⟩)))
   go_wp2
   go_ret
   refine ⟨rfl, ⟨A0, c0, ?_, HGE.out, HRD.out⟩, bsetAt (below_drewN' HBB.out nq) HGE.out _, KeepBut.set_ (KeepBut.of_below (below_drewN' (Below.refl _ w) nq) _ _) _ _⟩
   have hq : ORow ((w.drewN nq).setCell ⟨g, 2, none⟩ (.int .i64 ee)) g 79 #[.slice A0 s0_0.length c0, .int .i64 s0_1, .int .i64 ee] := by simpa using (HR.out.drewN nq).set 2 (.int .i64 ee)
   exact hq
end Go.Proofs.Ytchflniekbhohaa.P
