/- Contracts and laws of the books, each proved once: texts of this claim joined in build order. -/
import Derived.Test.YtoeiogefngcdiaaK0abc0
import Derived.Test.YtoeiogefngcdiaaK2abc0
import Derived.Test.YtoeiogefngcdiaaK6abc0
import Derived.Test.YtoeiogefngcdiaaHGetK

-- PRINTED by print.py (a twelfth state) out of the translation. Not trusted: Lean checks it.
namespace Go.Proofs.Ytoeiogefngcdiaa.P
open Go.RowKit Go.Proofs.YtoeiogefngcdiaaW.PrintWords Go.Proofs.YtoeiogefngcdiaaW.PrintLast Go.Proofs.YtoeiogefngcdiaaW.PrintMore
attribute [local go_sem] max2_int min2_int max_two min_two max_three min_three max_four min_four   -- for this text's walks alone
set_option linter.unusedVariables false
set_option linter.unusedSimpArgs false

/-! ### reedpipelaw08_BookRanks: function 7 -/
mutual
def reedpipelaw08_BookRanks.j0 : Nat → Int → Bool → Int → Int → List Int → List Int → Option (Bool)
  | 0, _, _, _, _, _, _ => none
  | k + 1, x1, x37, x451000, x451001, x451002, x451003 => if x37 = true then (some false) else (if (x451002.length : Int) = 0 then (none) else (if 0 ≤ (Int.tmod (wrap64 (x1)) (x451002.length : Int)) then (if (Int.tmod (wrap64 (x1)) (x451002.length : Int)) < (x451002.length : Int) then (if (rd x451002 (Int.tmod (wrap64 (x1)) (x451002.length : Int))) < 0 then (reedpipelaw08_BookRanks.j1 k (Int.tmod (wrap64 (x1)) (x451002.length : Int)) (rd x451002 (Int.tmod (wrap64 (x1)) (x451002.length : Int))) true x451000 x451001 x451002 x451003) else (if (rd x451002 (Int.tmod (wrap64 (x1)) (x451002.length : Int))) ≥ (x451003.length : Int) then (reedpipelaw08_BookRanks.j1 k (Int.tmod (wrap64 (x1)) (x451002.length : Int)) (rd x451002 (Int.tmod (wrap64 (x1)) (x451002.length : Int))) true x451000 x451001 x451002 x451003) else (if 0 ≤ (rd x451002 (Int.tmod (wrap64 (x1)) (x451002.length : Int))) then (if (rd x451002 (Int.tmod (wrap64 (x1)) (x451002.length : Int))) < (x451003.length : Int) then (reedpipelaw08_BookRanks.j1 k (Int.tmod (wrap64 (x1)) (x451002.length : Int)) (rd x451002 (Int.tmod (wrap64 (x1)) (x451002.length : Int))) ((rd x451003 (rd x451002 (Int.tmod (wrap64 (x1)) (x451002.length : Int)))) != (Int.tmod (wrap64 (x1)) (x451002.length : Int))) x451000 x451001 x451002 x451003) else (none)) else (none)))) else (none)) else (none)))
def reedpipelaw08_BookRanks.j1 : Nat → Int → Int → Bool → Int → Int → List Int → List Int → Option (Bool)
  | 0, _, _, _, _, _, _, _ => none
  | k + 1, x8, x9, x66, x451000, x451001, x451002, x451003 => if x66 = true then (some false) else (if x8 = 0 then (some true) else (if 0 ≤ (wrap64 (x8 - 1)) then (if (wrap64 (x8 - 1)) < (x451002.length : Int) then ((book_Values.f k x451000 (rd x451002 (wrap64 (x8 - 1)))).bind fun bt454 => ((book_Values.f k x451000 x9).bind fun bt458 => (if bt454.2 = 0 then (if bt458.2 = 0 then ((reedpipelaw08_size.f k bt454.1).bind fun t462 => ((reedpipelaw08_size.f k bt458.1).bind fun t463 => (if t462 < t463 then (some true) else ((reedpipelaw08_size.f k bt454.1).bind fun t464 => ((reedpipelaw08_size.f k bt458.1).bind fun t465 => (if t464 = t465 then (some (decide ((rd x451002 (wrap64 (x8 - 1))) < x9))) else (some false))))))) else (some false)) else (some false)))) else (none)) else (none)))
end
def reedpipelaw08_BookRanks.f (k : Nat) (a0 : Int) (a1 : Int) : Option (Bool) := (reedpipelaw08_alive.f k).bind fun t440 => ((book_Get.f (wrap64 ((Int.tmod (wrap64 (a0)) 12) + 1))).bind fun bt441 => (if bt441.2.2.2.2 = 0 then (if t440 = true then (reedpipelaw08_BookRanks.j0 k a1 ((bt441.2.2.1.length : Int) != (bt441.2.2.2.1.length : Int)) bt441.1 bt441.2.1 bt441.2.2.1 bt441.2.2.2.1) else (reedpipelaw08_BookRanks.j0 k a1 true bt441.1 bt441.2.1 bt441.2.2.1 bt441.2.2.2.1)) else (reedpipelaw08_BookRanks.j0 k a1 true bt441.1 bt441.2.1 bt441.2.2.1 bt441.2.2.2.1)))
theorem reedpipelaw08_BookRanks.mono_l : ∀ k, (∀ y0 y1 y2 y3 y4 y5, LeO (reedpipelaw08_BookRanks.j0 k y0 y1 y2 y3 y4 y5) (reedpipelaw08_BookRanks.j0 (k + 1) y0 y1 y2 y3 y4 y5)) ∧ (∀ y0 y1 y2 y3 y4 y5 y6, LeO (reedpipelaw08_BookRanks.j1 k y0 y1 y2 y3 y4 y5 y6) (reedpipelaw08_BookRanks.j1 (k + 1) y0 y1 y2 y3 y4 y5 y6))
  | 0 => ⟨fun _ _ _ _ _ _ r h => by simp [reedpipelaw08_BookRanks.j0] at h, fun _ _ _ _ _ _ _ r h => by simp [reedpipelaw08_BookRanks.j1] at h⟩
  | k + 1 => by
    obtain ⟨ih0, ih1⟩ := reedpipelaw08_BookRanks.mono_l k
    refine ⟨?_, ?_⟩
    · intro y0 y1 y2 y3 y4 y5
      unfold reedpipelaw08_BookRanks.j0
      repeat' first
      | (with_reducible exact ih0 _ _ _ _ _ _)
      | (with_reducible exact ih1 _ _ _ _ _ _ _)
      | (with_reducible exact book_Values.mono _ _ _)
      | (with_reducible exact reedpipelaw08_alive.mono _)
      | (with_reducible exact reedpipelaw08_size.mono _ _)
      | (with_reducible exact LeO.refl _)
      | (with_reducible exact LeO.none _)
      | (with_reducible refine LeO.ite ?_ ?_)
      | (with_reducible refine LeO.bind ?_ (fun _ => ?_))
      | exact ih0 _ _ _ _ _ _
      | exact ih1 _ _ _ _ _ _ _
      | exact book_Values.mono _ _ _
      | exact reedpipelaw08_alive.mono _
      | exact reedpipelaw08_size.mono _ _
      | exact LeO.none _
      | refine LeO.ite ?_ ?_
      | refine LeO.bind ?_ (fun _ => ?_)
    · intro y0 y1 y2 y3 y4 y5 y6
      unfold reedpipelaw08_BookRanks.j1
      repeat' first
      | (with_reducible exact ih0 _ _ _ _ _ _)
      | (with_reducible exact ih1 _ _ _ _ _ _ _)
      | (with_reducible exact book_Values.mono _ _ _)
      | (with_reducible exact reedpipelaw08_alive.mono _)
      | (with_reducible exact reedpipelaw08_size.mono _ _)
      | (with_reducible exact LeO.refl _)
      | (with_reducible exact LeO.none _)
      | (with_reducible refine LeO.ite ?_ ?_)
      | (with_reducible refine LeO.bind ?_ (fun _ => ?_))
      | exact ih0 _ _ _ _ _ _
      | exact ih1 _ _ _ _ _ _ _
      | exact book_Values.mono _ _ _
      | exact reedpipelaw08_alive.mono _
      | exact reedpipelaw08_size.mono _ _
      | exact LeO.none _
      | refine LeO.ite ?_ ?_
      | refine LeO.bind ?_ (fun _ => ?_)
theorem reedpipelaw08_BookRanks.mono : ∀ a0 a1 k, LeO (reedpipelaw08_BookRanks.f k a0 a1) (reedpipelaw08_BookRanks.f (k + 1) a0 a1) := by
  intro a0 a1 k
  obtain ⟨ih0, ih1⟩ := reedpipelaw08_BookRanks.mono_l k
  unfold reedpipelaw08_BookRanks.f
  repeat' first
      | (with_reducible exact ih0 _ _ _ _ _ _)
      | (with_reducible exact ih1 _ _ _ _ _ _ _)
      | (with_reducible exact book_Values.mono _ _ _)
      | (with_reducible exact reedpipelaw08_alive.mono _)
      | (with_reducible exact reedpipelaw08_size.mono _ _)
      | (with_reducible exact LeO.refl _)
      | (with_reducible exact LeO.none _)
      | (with_reducible refine LeO.ite ?_ ?_)
      | (with_reducible refine LeO.bind ?_ (fun _ => ?_))
      | exact ih0 _ _ _ _ _ _
      | exact ih1 _ _ _ _ _ _ _
      | exact book_Values.mono _ _ _
      | exact reedpipelaw08_alive.mono _
      | exact reedpipelaw08_size.mono _ _
      | exact LeO.none _
      | refine LeO.ite ?_ ?_
      | refine LeO.bind ?_ (fun _ => ?_)
def reedpipelaw08_BookRanks.T11 : Bool × List (List Nat × List Nat) := (true, [([], []), ([0], [0]), ([], []), ([2], [2]), ([], []), ([4], [4]), ([3, 5], [3, 5]), ([6], [6]), ([1, 7], [1, 7]), ([8], [8]), ([9], [9]), ([9], [9]), ([10, 8, 0, 1, 2, 3, 4, 5, 6, 7, 8, 9, 10], [10]), ([11, 12, 0, 1, 2, 3, 4, 5, 6, 7, 8, 9, 10, 11, 12], [11])])
def reedpipelaw08_BookRanks.B11 : List Nat := [0, 1, 0, 4, 0, 16, 60, 124, 255, 511, 1023, 1023, 2047, 8191]
theorem reedpipelaw08_BookRanks.tab11 : rtab .any (opsOf Try.f7 11) = reedpipelaw08_BookRanks.T11 := by kernel_rfl
theorem reedpipelaw08_BookRanks.bits11 : waitsOk reedpipelaw08_BookRanks.T11.2 reedpipelaw08_BookRanks.B11 = true := by kernel_rfl
set_option maxHeartbeats 8000000 in
set_option maxRecDepth 100000 in
theorem reedpipelaw08_BookRanks.calls (k : Nat) (a0 : Int) (a1 : Int) (r : Bool) (w : World) (h : reedpipelaw08_BookRanks.f k a0 a1 = some r) (hrT : r = true) :
    Calls Try.prog 7 #[.int .u8 a0, .int .u16 a1] w fun e w' => e = .returned (.bool r) ∧ Below w.heap.size w w' := by
  have hu24 := Try.underlying24
  have HB := Aside0.mk (Below.refl w.heap.size w)
  have H : ((reedpipelaw08_alive.f k).bind fun t440 => ((book_Get.f (wrap64 ((Int.tmod (wrap64 (a0)) 12) + 1))).bind fun bt441 => (if bt441.2.2.2.2 = 0 then (if t440 = true then (reedpipelaw08_BookRanks.j0 k a1 ((bt441.2.2.1.length : Int) != (bt441.2.2.2.1.length : Int)) bt441.1 bt441.2.1 bt441.2.2.1 bt441.2.2.2.1) else (reedpipelaw08_BookRanks.j0 k a1 true bt441.1 bt441.2.1 bt441.2.2.1 bt441.2.2.2.1)) else (reedpipelaw08_BookRanks.j0 k a1 true bt441.1 bt441.2.1 bt441.2.2.1 bt441.2.2.2.1)))) = some r := h
  clear h
  replace H := Option.bind_eq_some_iff.mp H
  obtain ⟨t440, A30, H⟩ := H
  replace H : ((book_Get.f (wrap64 ((Int.tmod (wrap64 (a0)) 12) + 1))).bind fun bt441 => (if bt441.2.2.2.2 = 0 then (if t440 = true then (reedpipelaw08_BookRanks.j0 k a1 ((bt441.2.2.1.length : Int) != (bt441.2.2.2.1.length : Int)) bt441.1 bt441.2.1 bt441.2.2.1 bt441.2.2.2.1) else (reedpipelaw08_BookRanks.j0 k a1 true bt441.1 bt441.2.1 bt441.2.2.1 bt441.2.2.2.1)) else (reedpipelaw08_BookRanks.j0 k a1 true bt441.1 bt441.2.1 bt441.2.2.1 bt441.2.2.2.1))) = some r := H
  have A3 := Aside0.mk A30
  clear A30
  replace H := Option.bind_eq_some_iff.mp H
  obtain ⟨⟨t441, t442, t443, t446, t449⟩, A40, H⟩ := H
  replace H : (if t449 = 0 then (if t440 = true then (reedpipelaw08_BookRanks.j0 k a1 ((t443.length : Int) != (t446.length : Int)) t441 t442 t443 t446) else (reedpipelaw08_BookRanks.j0 k a1 true t441 t442 t443 t446)) else (reedpipelaw08_BookRanks.j0 k a1 true t441 t442 t443 t446)) = some r := H
  have A4 := Aside0.mk A40
  clear A40
  have HC5 := Aside0.mk H
  clear H
  go_enter Try.func7, Try.ntmps7
  go_upto_region 3 with (first | ((with_reducible refine gate_callee (f := 23) rfl ?_); refine goesL_ (some 14) rfl rfl Try.func23 (by kernel_rfl) rfl #[] rfl (by (try simp only [List.map_toArray, List.map_cons, List.map_nil]); first | done | rfl | (simp only [List.length_drop, List.length_take]; rfl)) ?_; (with_reducible refine (reedpipelaw08_alive.calls k  t440 _ A3.out).mono ?_); rintro e w6 ⟨rfl, hb⟩; refine ⟨_, rfl, ?_⟩; have n0_ := Aside0.mk (below_step (by repeat (first | (with_reducible first | exact HB.out | apply below_alloc | apply pw_below_drewN | apply below_drew1) | exact HB.out)) hb); clear HB; have HB := n0_; clear n0_; (try clear hb); (try clear hb2); (try clear hk); (try clear hi)) | ((with_reducible refine gate_callee (f := 15) rfl ?_); refine goesL_ (some 20) rfl rfl Try.func15 (by kernel_rfl) rfl #[.int .i64 (wrap64 ((Int.tmod (wrap64 (a0)) 12) + 1))] rfl (by (try simp only [List.map_toArray, List.map_cons, List.map_nil]); first | done | rfl | (simp only [List.length_drop, List.length_take]; rfl)) ?_; (with_reducible refine (book_Get.calls (wrap64 ((Int.tmod (wrap64 (a0)) 12) + 1)) t441 t442 t443 t446 t449 _ A4.out).mono ?_); rintro e w7 ⟨v444, v447, rfl, ho0, ho1, hb⟩; refine ⟨_, rfl, ?_⟩; have n0_ := Aside0.mk (Kd.R_lower ho0 (below_size (by repeat (first | (with_reducible first | exact HB.out | apply below_alloc | apply pw_below_drewN | apply below_drew1) | exact HB.out)))); have n1_ := Aside0.mk (Kd.R_lower ho1 (below_size (by repeat (first | (with_reducible first | exact HB.out | apply below_alloc | apply pw_below_drewN | apply below_drew1) | exact HB.out)))); have n2_ := Aside0.mk (below_step (by repeat (first | (with_reducible first | exact HB.out | apply below_alloc | apply pw_below_drewN | apply below_drew1) | exact HB.out)) hb); clear HB; have HO445 := n0_; have HO448 := n1_; have HB := n2_; clear n0_ n1_ n2_; (try clear hb); (try clear hb2); (try clear hk); (try clear hi); (try clear ho0); (try clear ho1)) | ((with_reducible refine gate_dst (N := 6) rfl ?_); (try (refine gate_guard (by rfl) ?_; dsimp only)); refine box_event ?hg (N := 6) ?hd (cs := #[.int .i64 0, .int .i64 0, .slice none 0 0, .slice none 0 0]) (t := 24) ?hr ?_; (case hd => rfl); (case hg => rfl); (case hr => first | (go_simp; done) | (go_simp; rfl)); intro gb450 hg w8 hbox hb; have n0_ := Aside0.mk (Kd.R_below (by (with_reducible repeat (first | apply Kd.R_alloc | apply Kd.R_drewN | apply Kd.R_drew)); exact HO445.out) hb); have n1_ := Aside0.mk (Kd.R_below (by (with_reducible repeat (first | apply Kd.R_alloc | apply Kd.R_drewN | apply Kd.R_drew)); exact HO448.out) hb); have n2_ := Aside0.mk (below_step (by repeat (first | (with_reducible first | exact HB.out | apply below_alloc | apply pw_below_drewN | apply below_drew1) | exact HB.out)) hb); have n3_ := Aside0.mk (hbox); have n4_ := Aside0.mk ((by rw [hg]; exact (below_size (by repeat (first | (with_reducible first | exact HB.out | apply below_alloc | apply pw_below_drewN | apply below_drew1) | exact HB.out))) : w.heap.size ≤ gb450)); have n5_ := Aside0.mk ((by rw [hg]; exact (below_size (by repeat (first | (with_reducible first | exact HB.out | apply below_alloc | apply pw_below_drewN | apply below_drew1) | exact HB.out))) : w.heap.size ≤ gb450)); clear HO445; clear HO448; clear HB; have HO445 := n0_; have HO448 := n1_; have HB := n2_; have BK450 := n3_; have GW450 := n4_; have GE450 := n5_; clear n0_ n1_ n2_ n3_ n4_ n5_; clear hb hbox hg; have hcz9_0 : w8.cell? ⟨gb450, 0, none⟩ = some (.int .i64 0) := (blk_cell BK450.out 0).trans rfl; have hcz9_1 : w8.cell? ⟨gb450, 1, none⟩ = some (.int .i64 0) := (blk_cell BK450.out 1).trans rfl; have hcz9_2 : w8.cell? ⟨gb450, 2, none⟩ = some (.slice none 0 0) := (blk_cell BK450.out 2).trans rfl; have hcz9_3 : w8.cell? ⟨gb450, 3, none⟩ = some (.slice none 0 0) := (blk_cell BK450.out 3).trans rfl; have hfz9_0 := blk_frozen BK450.out 0; have hfz9_1 := blk_frozen BK450.out 1; have hfz9_2 := blk_frozen BK450.out 2; have hfz9_3 := blk_frozen BK450.out 3; obtain ⟨Ao10, co10, eo10⟩ := Kd.R_slice HO445.out; subst eo10; obtain ⟨Ao11, co11, eo11⟩ := Kd.R_slice HO448.out; subst eo11))
  (try simp only [Act.put, List.setIfInBounds_toArray, List.set_cons_zero, List.set_cons_succ])
  go_cut [37] (fun v37 wc => ∃ (kq : Nat) (x37_4 : Bool), v37 = .bool x37_4 ∧ Aside0 (reedpipelaw08_BookRanks.j0 kq a1 x37_4 t441 t442 t443 t446 = some r) ∧ Aside0 (kq ≤ k) ∧ Aside0 (Kd.R (Kd.int .i64) 3 wc w.heap.size (fun k_ => some k_ ≠ ((.slice Ao11 t446.length co11) : Value).ownBlock) (.slice Ao10 t443.length co10) t443) ∧ Aside0 (Kd.R (Kd.int .i64) 3 wc w.heap.size (fun k_ => some k_ ≠ ((.slice Ao10 t443.length co10) : Value).ownBlock) (.slice Ao11 t446.length co11) t446) ∧ Aside0 (wc.heap[gb450]? = some (.cells #[.int .i64 t441, .int .i64 t442, (.slice Ao10 t443.length co10), (.slice Ao11 t446.length co11)] 24 (0, 0))) ∧ Aside0 (Below w.heap.size w wc))
  case first =>
    have H := HC5.out
    clear HC5
    by_cases c12 : t449 = 0
    · rw [if_pos c12] at H
      have c12b0 : (t449 == 0) = true := beq_iff_eq.mpr c12
      have c12b1 : (t449 != 0) = false := bne_eq_false_iff_eq.mpr c12
      clear c12
      (first | rw [c12b0] | (simp only [i64_w, i32_w]; rw [c12b0]) | skip)
      by_cases c13 : t440 = true
      · subst c13
        have H1 : (reedpipelaw08_BookRanks.j0 k a1 ((t443.length : Int) != (t446.length : Int)) t441 t442 t443 t446) = some r := by rw [if_pos rfl] at H; exact H
        clear H
        have H := H1
        clear H1
        have H' := Aside0.mk H
        clear H
        have hcz14_0 : w8.cell? ⟨gb450, 0, none⟩ = some (.int .i64 0) := (blk_cell BK450.out 0).trans rfl
        have hcz14_1 : w8.cell? ⟨gb450, 1, none⟩ = some (.int .i64 0) := (blk_cell BK450.out 1).trans rfl
        have hcz14_2 : w8.cell? ⟨gb450, 2, none⟩ = some (.slice none 0 0) := (blk_cell BK450.out 2).trans rfl
        have hcz14_3 : w8.cell? ⟨gb450, 3, none⟩ = some (.slice none 0 0) := (blk_cell BK450.out 3).trans rfl
        have hfz14_0 := blk_frozen BK450.out 0
        have hfz14_1 := blk_frozen BK450.out 1
        have hfz14_2 := blk_frozen BK450.out 2
        have hfz14_3 := blk_frozen BK450.out 3
        go_wp2
        go_meet
        case rel => exact ⟨_, (((t443.length : Int) != (t446.length : Int))), (by first | rfl | (simp; done) | (simp [*]; done)), H', ⟨by first | omega | exact Nat.le_refl _⟩, ⟨by (with_reducible repeat (first | apply Kd.R_alloc | apply Kd.R_drewN | apply Kd.R_drew)); exact Kd.R_mono (Kd.R_far (p := ⟨gb450, 3, none⟩) (Kd.R_far (p := ⟨gb450, 2, none⟩) (Kd.R_far (p := ⟨gb450, 1, none⟩) (Kd.R_far (p := ⟨gb450, 0, none⟩) (Kd.R_types HO445.out BK450.out (by decide)) (fun _ hk => hk.2) (.int .i64 t441)) (fun _ hk => hk.2) (.int .i64 t442)) (fun _ hk => hk.2) (.slice Ao10 t443.length co10)) (fun _ hk => hk.2) (.slice Ao11 t446.length co11)) (fun _ hk => hk.1)⟩, ⟨by (with_reducible repeat (first | apply Kd.R_alloc | apply Kd.R_drewN | apply Kd.R_drew)); exact Kd.R_mono (Kd.R_far (p := ⟨gb450, 3, none⟩) (Kd.R_far (p := ⟨gb450, 2, none⟩) (Kd.R_far (p := ⟨gb450, 1, none⟩) (Kd.R_far (p := ⟨gb450, 0, none⟩) (Kd.R_types HO448.out BK450.out (by decide)) (fun _ hk => hk.2) (.int .i64 t441)) (fun _ hk => hk.2) (.int .i64 t442)) (fun _ hk => hk.2) (.slice Ao10 t443.length co10)) (fun _ hk => hk.2) (.slice Ao11 t446.length co11)) (fun _ hk => hk.1)⟩, ⟨by (with_reducible repeat (first | refine blk_drewN ?_ _ | refine blk_drew ?_ | refine blk_alloc ?_ _)); refine blk_put (cs := #[.int .i64 t441, .int .i64 t442, .slice Ao10 t443.length co10, .slice none 0 0]) ?_ 3 _ rfl; (with_reducible repeat (first | refine blk_drewN ?_ _ | refine blk_drew ?_ | refine blk_alloc ?_ _)); refine blk_put (cs := #[.int .i64 t441, .int .i64 t442, .slice none 0 0, .slice none 0 0]) ?_ 2 _ rfl; (with_reducible repeat (first | refine blk_drewN ?_ _ | refine blk_drew ?_ | refine blk_alloc ?_ _)); refine blk_put (cs := #[.int .i64 t441, .int .i64 0, .slice none 0 0, .slice none 0 0]) ?_ 1 _ rfl; (with_reducible repeat (first | refine blk_drewN ?_ _ | refine blk_drew ?_ | refine blk_alloc ?_ _)); refine blk_put (cs := #[.int .i64 0, .int .i64 0, .slice none 0 0, .slice none 0 0]) ?_ 0 _ rfl; (with_reducible repeat (first | refine blk_drewN ?_ _ | refine blk_drew ?_ | refine blk_alloc ?_ _)); exact BK450.out⟩, ⟨by repeat (first | (with_reducible first | exact HB.out | apply below_alloc | apply pw_below_drewN | apply below_drew1 | refine below_set ?_ GE450.out) | exact HB.out)⟩⟩
      · replace c13 := Bool.eq_false_iff.mpr c13
        subst c13
        have H1 : (reedpipelaw08_BookRanks.j0 k a1 true t441 t442 t443 t446) = some r := by rw [if_neg (show ¬ (false = true) by decide)] at H; exact H
        clear H
        have H := H1
        clear H1
        have H' := Aside0.mk H
        clear H
        go_wp2
        go_meet
        case rel => exact ⟨_, (true), (by first | rfl | (simp; done) | (simp [*]; done)), H', ⟨by first | omega | exact Nat.le_refl _⟩, ⟨by (with_reducible repeat (first | apply Kd.R_alloc | apply Kd.R_drewN | apply Kd.R_drew)); exact Kd.R_mono (Kd.R_far (p := ⟨gb450, 3, none⟩) (Kd.R_far (p := ⟨gb450, 2, none⟩) (Kd.R_far (p := ⟨gb450, 1, none⟩) (Kd.R_far (p := ⟨gb450, 0, none⟩) (Kd.R_types HO445.out BK450.out (by decide)) (fun _ hk => hk.2) (.int .i64 t441)) (fun _ hk => hk.2) (.int .i64 t442)) (fun _ hk => hk.2) (.slice Ao10 t443.length co10)) (fun _ hk => hk.2) (.slice Ao11 t446.length co11)) (fun _ hk => hk.1)⟩, ⟨by (with_reducible repeat (first | apply Kd.R_alloc | apply Kd.R_drewN | apply Kd.R_drew)); exact Kd.R_mono (Kd.R_far (p := ⟨gb450, 3, none⟩) (Kd.R_far (p := ⟨gb450, 2, none⟩) (Kd.R_far (p := ⟨gb450, 1, none⟩) (Kd.R_far (p := ⟨gb450, 0, none⟩) (Kd.R_types HO448.out BK450.out (by decide)) (fun _ hk => hk.2) (.int .i64 t441)) (fun _ hk => hk.2) (.int .i64 t442)) (fun _ hk => hk.2) (.slice Ao10 t443.length co10)) (fun _ hk => hk.2) (.slice Ao11 t446.length co11)) (fun _ hk => hk.1)⟩, ⟨by (with_reducible repeat (first | refine blk_drewN ?_ _ | refine blk_drew ?_ | refine blk_alloc ?_ _)); refine blk_put (cs := #[.int .i64 t441, .int .i64 t442, .slice Ao10 t443.length co10, .slice none 0 0]) ?_ 3 _ rfl; (with_reducible repeat (first | refine blk_drewN ?_ _ | refine blk_drew ?_ | refine blk_alloc ?_ _)); refine blk_put (cs := #[.int .i64 t441, .int .i64 t442, .slice none 0 0, .slice none 0 0]) ?_ 2 _ rfl; (with_reducible repeat (first | refine blk_drewN ?_ _ | refine blk_drew ?_ | refine blk_alloc ?_ _)); refine blk_put (cs := #[.int .i64 t441, .int .i64 0, .slice none 0 0, .slice none 0 0]) ?_ 1 _ rfl; (with_reducible repeat (first | refine blk_drewN ?_ _ | refine blk_drew ?_ | refine blk_alloc ?_ _)); refine blk_put (cs := #[.int .i64 0, .int .i64 0, .slice none 0 0, .slice none 0 0]) ?_ 0 _ rfl; (with_reducible repeat (first | refine blk_drewN ?_ _ | refine blk_drew ?_ | refine blk_alloc ?_ _)); exact BK450.out⟩, ⟨by repeat (first | (with_reducible first | exact HB.out | apply below_alloc | apply pw_below_drewN | apply below_drew1 | refine below_set ?_ GE450.out) | exact HB.out)⟩⟩
    · rw [if_neg c12] at H
      have c12b0 : (t449 == 0) = false := beq_eq_false_iff_ne.mpr c12
      have c12b1 : (t449 != 0) = true := bne_iff_ne.mpr c12
      (first | rw [c12b0] | (simp only [i64_w, i32_w]; rw [c12b0]) | skip)
      have H' := Aside0.mk H
      clear H
      go_wp2
      go_meet
      case rel => exact ⟨_, (true), (by first | rfl | (simp; done) | (simp [*]; done)), H', ⟨by first | omega | exact Nat.le_refl _⟩, ⟨by (with_reducible repeat (first | apply Kd.R_alloc | apply Kd.R_drewN | apply Kd.R_drew)); exact Kd.R_mono (Kd.R_far (p := ⟨gb450, 3, none⟩) (Kd.R_far (p := ⟨gb450, 2, none⟩) (Kd.R_far (p := ⟨gb450, 1, none⟩) (Kd.R_far (p := ⟨gb450, 0, none⟩) (Kd.R_types HO445.out BK450.out (by decide)) (fun _ hk => hk.2) (.int .i64 t441)) (fun _ hk => hk.2) (.int .i64 t442)) (fun _ hk => hk.2) (.slice Ao10 t443.length co10)) (fun _ hk => hk.2) (.slice Ao11 t446.length co11)) (fun _ hk => hk.1)⟩, ⟨by (with_reducible repeat (first | apply Kd.R_alloc | apply Kd.R_drewN | apply Kd.R_drew)); exact Kd.R_mono (Kd.R_far (p := ⟨gb450, 3, none⟩) (Kd.R_far (p := ⟨gb450, 2, none⟩) (Kd.R_far (p := ⟨gb450, 1, none⟩) (Kd.R_far (p := ⟨gb450, 0, none⟩) (Kd.R_types HO448.out BK450.out (by decide)) (fun _ hk => hk.2) (.int .i64 t441)) (fun _ hk => hk.2) (.int .i64 t442)) (fun _ hk => hk.2) (.slice Ao10 t443.length co10)) (fun _ hk => hk.2) (.slice Ao11 t446.length co11)) (fun _ hk => hk.1)⟩, ⟨by (with_reducible repeat (first | refine blk_drewN ?_ _ | refine blk_drew ?_ | refine blk_alloc ?_ _)); refine blk_put (cs := #[.int .i64 t441, .int .i64 t442, .slice Ao10 t443.length co10, .slice none 0 0]) ?_ 3 _ rfl; (with_reducible repeat (first | refine blk_drewN ?_ _ | refine blk_drew ?_ | refine blk_alloc ?_ _)); refine blk_put (cs := #[.int .i64 t441, .int .i64 t442, .slice none 0 0, .slice none 0 0]) ?_ 2 _ rfl; (with_reducible repeat (first | refine blk_drewN ?_ _ | refine blk_drew ?_ | refine blk_alloc ?_ _)); refine blk_put (cs := #[.int .i64 t441, .int .i64 0, .slice none 0 0, .slice none 0 0]) ?_ 1 _ rfl; (with_reducible repeat (first | refine blk_drewN ?_ _ | refine blk_drew ?_ | refine blk_alloc ?_ _)); refine blk_put (cs := #[.int .i64 0, .int .i64 0, .slice none 0 0, .slice none 0 0]) ?_ 0 _ rfl; (with_reducible repeat (first | refine blk_drewN ?_ _ | refine blk_drew ?_ | refine blk_alloc ?_ _)); exact BK450.out⟩, ⟨by repeat (first | (with_reducible first | exact HB.out | apply below_alloc | apply pw_below_drewN | apply below_drew1 | refine below_set ?_ GE450.out) | exact HB.out)⟩⟩
  case rest =>
    clear HC5
    try clear c1
    try clear c2
    try clear p2
    try clear p6
    try clear c7
    try clear c12
    try clear c12b0
    try clear c12b1
    try clear c13
    try clear hcz14_0
    try clear hcz14_1
    try clear hcz14_2
    try clear hcz14_3
    try clear hcz9_0
    try clear hcz9_1
    try clear hcz9_2
    try clear hcz9_3
    try clear hfz14_0
    try clear hfz14_1
    try clear hfz14_2
    try clear hfz14_3
    try clear hfz9_0
    try clear hfz9_1
    try clear hfz9_2
    try clear hfz9_3
    obtain ⟨kq, x37_4, rfl, HA, HJ4, HO_451002, HO_451003, BK450, HB⟩ := hcut
    cases kq with
    | zero => exact absurd HA.out (by simp [reedpipelaw08_BookRanks.j0])
    | succ kj4 =>
      have H := HA.out
      clear HA
      simp only [reedpipelaw08_BookRanks.j0] at H
      by_cases c15 : x37_4 = true
      · subst c15
        have H1 : (some false) = some r := by rw [if_pos rfl] at H; exact H
        clear H
        have H := H1
        clear H1
        exact absurd ((Option.some.inj H).trans hrT) (by decide)
      · replace c15 := Bool.eq_false_iff.mpr c15
        subst c15
        have H1 : (if (t443.length : Int) = 0 then (none) else (if 0 ≤ (Int.tmod (wrap64 (a1)) (t443.length : Int)) then (if (Int.tmod (wrap64 (a1)) (t443.length : Int)) < (t443.length : Int) then (if (rd t443 (Int.tmod (wrap64 (a1)) (t443.length : Int))) < 0 then (reedpipelaw08_BookRanks.j1 kj4 (Int.tmod (wrap64 (a1)) (t443.length : Int)) (rd t443 (Int.tmod (wrap64 (a1)) (t443.length : Int))) true t441 t442 t443 t446) else (if (rd t443 (Int.tmod (wrap64 (a1)) (t443.length : Int))) ≥ (t446.length : Int) then (reedpipelaw08_BookRanks.j1 kj4 (Int.tmod (wrap64 (a1)) (t443.length : Int)) (rd t443 (Int.tmod (wrap64 (a1)) (t443.length : Int))) true t441 t442 t443 t446) else (if 0 ≤ (rd t443 (Int.tmod (wrap64 (a1)) (t443.length : Int))) then (if (rd t443 (Int.tmod (wrap64 (a1)) (t443.length : Int))) < (t446.length : Int) then (reedpipelaw08_BookRanks.j1 kj4 (Int.tmod (wrap64 (a1)) (t443.length : Int)) (rd t443 (Int.tmod (wrap64 (a1)) (t443.length : Int))) ((rd t446 (rd t443 (Int.tmod (wrap64 (a1)) (t443.length : Int)))) != (Int.tmod (wrap64 (a1)) (t443.length : Int))) t441 t442 t443 t446) else (none)) else (none)))) else (none)) else (none))) = some r := by rw [if_neg (show ¬ (false = true) by decide)] at H; exact H
        clear H
        have H := H1
        clear H1
        by_cases c16 : (t443.length : Int) = 0
        · rw [if_pos c16] at H
          exact absurd H (by simp)
        · rw [if_neg c16] at H
          have c16b0 : ((t443.length : Int) == 0) = false := beq_eq_false_iff_ne.mpr c16
          have c16b1 : ((t443.length : Int) != 0) = true := bne_iff_ne.mpr c16
          have c16b2 : ¬ (t443 = []) := fun h_ => c16 (by rw [h_]; rfl)
          obtain ⟨ji17, hji17⟩ : ∃ j_ : Int, (Int.tmod (wrap64 (a1)) (t443.length : Int)) = j_ := ⟨_, rfl⟩
          replace H : (if 0 ≤ (ji17) then (if (ji17) < (t443.length : Int) then (if (rd t443 (ji17)) < 0 then (reedpipelaw08_BookRanks.j1 kj4 ji17 (rd t443 (ji17)) true t441 t442 t443 t446) else (if (rd t443 (ji17)) ≥ (t446.length : Int) then (reedpipelaw08_BookRanks.j1 kj4 ji17 (rd t443 (ji17)) true t441 t442 t443 t446) else (if 0 ≤ (rd t443 (ji17)) then (if (rd t443 (ji17)) < (t446.length : Int) then (reedpipelaw08_BookRanks.j1 kj4 ji17 (rd t443 (ji17)) ((rd t446 (rd t443 (ji17))) != (ji17)) t441 t442 t443 t446) else (none)) else (none)))) else (none)) else (none)) = some r := by first | (rw [hji17] at H; exact H) | (simp only [hji17] at H ⊢; exact H)
          by_cases c18 : 0 ≤ (ji17)
          · rw [if_pos c18] at H
            have c18b0 : decide (0 ≤ (ji17)) = true := decide_eq_true c18
            clear c18
            by_cases c19 : (ji17) < (t443.length : Int)
            · rw [if_pos c19] at H
              have c19b0 : decide ((ji17) < (t443.length : Int)) = true := decide_eq_true c19
              clear c19
              have HC20 := Aside0.mk H
              clear H
              have hcz21_0 : wc.cell? ⟨gb450, 0, none⟩ = some (.int .i64 t441) := (blk_cell BK450.out 0).trans rfl
              have hcz21_1 : wc.cell? ⟨gb450, 1, none⟩ = some (.int .i64 t442) := (blk_cell BK450.out 1).trans rfl
              have hcz21_2 : wc.cell? ⟨gb450, 2, none⟩ = some (.slice Ao10 t443.length co10) := (blk_cell BK450.out 2).trans rfl
              have hcz21_3 : wc.cell? ⟨gb450, 3, none⟩ = some (.slice Ao11 t446.length co11) := (blk_cell BK450.out 3).trans rfl
              have hfz21_0 := blk_frozen BK450.out 0
              have hfz21_1 := blk_frozen BK450.out 1
              have hfz21_2 := blk_frozen BK450.out 2
              have hfz21_3 := blk_frozen BK450.out 3
              have p451 : 0 ≤ ((ji17) : Int) := of_decide_eq_true (by first | (with_reducible assumption) | assumption)
              have q451 : (ji17) < (t443.length : Int) := of_decide_eq_true (by first | (with_reducible assumption) | assumption)
              obtain ⟨ad451, e451, hx451_0⟩ := Kd.at_int (Kd.R_reads' HO_451002.out).2.2 (ji17) p451 q451
              cases e451
              replace p451 := eq_true p451
              replace q451 := eq_true q451
              go_upto_region 7 with (fail)
              go_cut [66] (fun v66 wc => ∃ (kq : Nat) (x66_19 : Bool), v66 = .bool x66_19 ∧ Aside0 (reedpipelaw08_BookRanks.j1 kq ji17 (rd t443 (ji17)) x66_19 t441 t442 t443 t446 = some r) ∧ Aside0 (kq ≤ kj4) ∧ Aside0 (Kd.R (Kd.int .i64) 3 wc w.heap.size (fun k_ => some k_ ≠ ((.slice Ao11 t446.length co11) : Value).ownBlock) (.slice (some ad451) t443.length co10) t443) ∧ Aside0 (Kd.R (Kd.int .i64) 3 wc w.heap.size (fun k_ => some k_ ≠ ((.slice (some ad451) t443.length co10) : Value).ownBlock) (.slice Ao11 t446.length co11) t446) ∧ Aside0 (wc.heap[gb450]? = some (.cells #[.int .i64 t441, .int .i64 t442, (.slice (some ad451) t443.length co10), (.slice Ao11 t446.length co11)] 24 (0, 0))) ∧ Aside0 (Below w.heap.size w wc))
              case first =>
                have H := HC20.out
                clear HC20
                by_cases c22 : (rd t443 (ji17)) < 0
                · rw [if_pos c22] at H
                  have c22b0 : decide ((rd t443 (ji17)) < 0) = true := decide_eq_true c22
                  clear c22
                  (first | rw [c22b0] | (simp only [i64_w, i32_w]; rw [c22b0]) | skip)
                  have H' := Aside0.mk H
                  clear H
                  go_wp2
                  go_meet
                  case rel => exact ⟨_, (true), (by first | rfl | (simp; done) | (simp [*]; done)), H', ⟨by have := HJ4.out; first | omega | exact Nat.le_refl _⟩, ⟨by (with_reducible repeat (first | apply Kd.R_alloc | apply Kd.R_drewN | apply Kd.R_drew)); exact HO_451002.out⟩, ⟨by (with_reducible repeat (first | apply Kd.R_alloc | apply Kd.R_drewN | apply Kd.R_drew)); exact HO_451003.out⟩, ⟨by (with_reducible repeat (first | refine blk_drewN ?_ _ | refine blk_drew ?_ | refine blk_alloc ?_ _)); exact BK450.out⟩, ⟨by repeat (first | (with_reducible first | exact HB.out | apply below_alloc | apply pw_below_drewN | apply below_drew1 | refine below_set ?_ GE450.out) | exact HB.out)⟩⟩
                · rw [if_neg c22] at H
                  have c22b0 : decide ((rd t443 (ji17)) < 0) = false := decide_eq_false c22
                  clear c22
                  (first | rw [c22b0] | (simp only [i64_w, i32_w]; rw [c22b0]) | skip)
                  by_cases c23 : (rd t443 (ji17)) ≥ (t446.length : Int)
                  · rw [if_pos c23] at H
                    have c23b0 : decide ((t446.length : Int) ≤ (rd t443 (ji17))) = true := decide_eq_true c23
                    clear c23
                    have H' := Aside0.mk H
                    clear H
                    have hcz24_0 : wc.cell? ⟨gb450, 0, none⟩ = some (.int .i64 t441) := (blk_cell BK450.out 0).trans rfl
                    have hcz24_1 : wc.cell? ⟨gb450, 1, none⟩ = some (.int .i64 t442) := (blk_cell BK450.out 1).trans rfl
                    have hcz24_2 : wc.cell? ⟨gb450, 2, none⟩ = some (.slice (some ad451) t443.length co10) := (blk_cell BK450.out 2).trans rfl
                    have hcz24_3 : wc.cell? ⟨gb450, 3, none⟩ = some (.slice Ao11 t446.length co11) := (blk_cell BK450.out 3).trans rfl
                    have hfz24_0 := blk_frozen BK450.out 0
                    have hfz24_1 := blk_frozen BK450.out 1
                    have hfz24_2 := blk_frozen BK450.out 2
                    have hfz24_3 := blk_frozen BK450.out 3
                    go_wp2
                    go_meet
                    case rel => exact ⟨_, (true), (by first | rfl | (simp; done) | (simp [*]; done)), H', ⟨by have := HJ4.out; first | omega | exact Nat.le_refl _⟩, ⟨by (with_reducible repeat (first | apply Kd.R_alloc | apply Kd.R_drewN | apply Kd.R_drew)); exact HO_451002.out⟩, ⟨by (with_reducible repeat (first | apply Kd.R_alloc | apply Kd.R_drewN | apply Kd.R_drew)); exact HO_451003.out⟩, ⟨by (with_reducible repeat (first | refine blk_drewN ?_ _ | refine blk_drew ?_ | refine blk_alloc ?_ _)); exact BK450.out⟩, ⟨by repeat (first | (with_reducible first | exact HB.out | apply below_alloc | apply pw_below_drewN | apply below_drew1 | refine below_set ?_ GE450.out) | exact HB.out)⟩⟩
                  · rw [if_neg c23] at H
                    have c23b0 : decide ((t446.length : Int) ≤ (rd t443 (ji17))) = false := decide_eq_false c23
                    clear c23
                    by_cases c25 : 0 ≤ (rd t443 (ji17))
                    · rw [if_pos c25] at H
                      have c25b0 : decide (0 ≤ (rd t443 (ji17))) = true := decide_eq_true c25
                      clear c25
                      by_cases c26 : (rd t443 (ji17)) < (t446.length : Int)
                      · rw [if_pos c26] at H
                        have c26b0 : decide ((rd t443 (ji17)) < (t446.length : Int)) = true := decide_eq_true c26
                        clear c26
                        have H' := Aside0.mk H
                        clear H
                        have hcz27_0 : wc.cell? ⟨gb450, 0, none⟩ = some (.int .i64 t441) := (blk_cell BK450.out 0).trans rfl
                        have hcz27_1 : wc.cell? ⟨gb450, 1, none⟩ = some (.int .i64 t442) := (blk_cell BK450.out 1).trans rfl
                        have hcz27_2 : wc.cell? ⟨gb450, 2, none⟩ = some (.slice (some ad451) t443.length co10) := (blk_cell BK450.out 2).trans rfl
                        have hcz27_3 : wc.cell? ⟨gb450, 3, none⟩ = some (.slice Ao11 t446.length co11) := (blk_cell BK450.out 3).trans rfl
                        have hfz27_0 := blk_frozen BK450.out 0
                        have hfz27_1 := blk_frozen BK450.out 1
                        have hfz27_2 := blk_frozen BK450.out 2
                        have hfz27_3 := blk_frozen BK450.out 3
                        have p452 : 0 ≤ ((rd t443 (ji17)) : Int) := of_decide_eq_true (by first | (with_reducible assumption) | assumption)
                        have q452 : (rd t443 (ji17)) < (t446.length : Int) := of_decide_eq_true (by first | (with_reducible assumption) | assumption)
                        obtain ⟨ad452, e452, hx452_0⟩ := Kd.at_int (Kd.R_reads' HO_451003.out).2.2 (rd t443 (ji17)) p452 q452
                        cases e452
                        replace p452 := eq_true p452
                        replace q452 := eq_true q452
                        go_wp2
                        go_meet
                        case rel => exact ⟨_, (((rd t446 (rd t443 (ji17))) != (ji17))), (by first | rfl | (simp; done) | (simp only [← hji17] <;> (first | rfl | simp)) | (simp [*]; done)), H', ⟨by have := HJ4.out; first | omega | exact Nat.le_refl _⟩, ⟨by (with_reducible repeat (first | apply Kd.R_alloc | apply Kd.R_drewN | apply Kd.R_drew)); exact HO_451002.out⟩, ⟨by (with_reducible repeat (first | apply Kd.R_alloc | apply Kd.R_drewN | apply Kd.R_drew)); exact HO_451003.out⟩, ⟨by (with_reducible repeat (first | refine blk_drewN ?_ _ | refine blk_drew ?_ | refine blk_alloc ?_ _)); exact BK450.out⟩, ⟨by repeat (first | (with_reducible first | exact HB.out | apply below_alloc | apply pw_below_drewN | apply below_drew1 | refine below_set ?_ GE450.out) | exact HB.out)⟩⟩
                      · rw [if_neg c26] at H
                        exact absurd H (by simp)
                    · rw [if_neg c25] at H
                      exact absurd H (by simp)
              case rest =>
                clear HC20
                try clear c1
                try clear c2
                try clear p2
                try clear p4
                try clear q4
                try clear hx4
                try clear p6
                try clear c7
                try clear c12
                try clear c12b0
                try clear c12b1
                try clear c13
                try clear c15
                try clear c16
                try clear c16b0
                try clear c16b1
                try clear c16b2
                try clear c18
                try clear c18b0
                try clear c19
                try clear c19b0
                try clear c22
                try clear c22b0
                try clear c23
                try clear c23b0
                try clear c25
                try clear c25b0
                try clear c26
                try clear c26b0
                try clear hcz14_0
                try clear hcz14_1
                try clear hcz14_2
                try clear hcz14_3
                try clear hcz21_0
                try clear hcz21_1
                try clear hcz21_2
                try clear hcz21_3
                try clear hcz24_0
                try clear hcz24_1
                try clear hcz24_2
                try clear hcz24_3
                try clear hcz27_0
                try clear hcz27_1
                try clear hcz27_2
                try clear hcz27_3
                try clear hcz9_0
                try clear hcz9_1
                try clear hcz9_2
                try clear hcz9_3
                try clear hfz14_0
                try clear hfz14_1
                try clear hfz14_2
                try clear hfz14_3
                try clear hfz21_0
                try clear hfz21_1
                try clear hfz21_2
                try clear hfz21_3
                try clear hfz24_0
                try clear hfz24_1
                try clear hfz24_2
                try clear hfz24_3
                try clear hfz27_0
                try clear hfz27_1
                try clear hfz27_2
                try clear hfz27_3
                try clear hfz9_0
                try clear hfz9_1
                try clear hfz9_2
                try clear hfz9_3
                try clear hx451_0
                try clear hx452_0
                try clear p2
                try clear p451
                try clear p452
                try clear p6
                try clear q451
                try clear q452
                obtain ⟨kq, x66_19, rfl, HA, HJ19, HO_451002, HO_451003, BK450, HB⟩ := hcut
                cases kq with
                | zero => exact absurd HA.out (by simp [reedpipelaw08_BookRanks.j1])
                | succ kj19 =>
                  have H := HA.out
                  clear HA
                  simp only [reedpipelaw08_BookRanks.j1] at H
                  by_cases c28 : x66_19 = true
                  · subst c28
                    have H1 : (some false) = some r := by rw [if_pos rfl] at H; exact H
                    clear H
                    have H := H1
                    clear H1
                    exact absurd ((Option.some.inj H).trans hrT) (by decide)
                  · replace c28 := Bool.eq_false_iff.mpr c28
                    subst c28
                    have H1 : (if ji17 = 0 then (some true) else (if 0 ≤ (wrap64 (ji17 - 1)) then (if (wrap64 (ji17 - 1)) < (t443.length : Int) then ((book_Values.f kj19 t441 (rd t443 (wrap64 (ji17 - 1)))).bind fun bt454 => ((book_Values.f kj19 t441 (rd t443 (ji17))).bind fun bt458 => (if bt454.2 = 0 then (if bt458.2 = 0 then ((reedpipelaw08_size.f kj19 bt454.1).bind fun t462 => ((reedpipelaw08_size.f kj19 bt458.1).bind fun t463 => (if t462 < t463 then (some true) else ((reedpipelaw08_size.f kj19 bt454.1).bind fun t464 => ((reedpipelaw08_size.f kj19 bt458.1).bind fun t465 => (if t464 = t465 then (some (decide ((rd t443 (wrap64 (ji17 - 1))) < (rd t443 (ji17))))) else (some false))))))) else (some false)) else (some false)))) else (none)) else (none))) = some r := by rw [if_neg (show ¬ (false = true) by decide)] at H; exact H
                    clear H
                    have H := H1
                    clear H1
                    by_cases c29 : ji17 = 0
                    · rw [if_pos c29] at H
                      have c29b0 : (ji17 == 0) = true := beq_iff_eq.mpr c29
                      have c29b1 : (ji17 != 0) = false := bne_eq_false_iff_eq.mpr c29
                      clear c29
                      obtain rfl := Option.some.inj H
                      go_wp2
                      go_ret
                      exact ⟨by first | rfl | (simp [errW_none, errW_some] <;> rfl) | (simp only [← hji17]; first | rfl | (simp [errW_none, errW_some] <;> rfl)) | (simp [*, errW_none, errW_some] <;> rfl), by repeat (first | (with_reducible first | exact HB.out | apply below_alloc | apply pw_below_drewN | apply below_drew1 | refine below_set ?_ GE450.out) | exact HB.out)⟩
                    · rw [if_neg c29] at H
                      have c29b0 : (ji17 == 0) = false := beq_eq_false_iff_ne.mpr c29
                      have c29b1 : (ji17 != 0) = true := bne_iff_ne.mpr c29
                      obtain ⟨ji30, hji30⟩ : ∃ j_ : Int, (wrap64 (ji17 - 1)) = j_ := ⟨_, rfl⟩
                      replace H : (if 0 ≤ (ji30) then (if (ji30) < (t443.length : Int) then ((book_Values.f kj19 t441 (rd t443 (ji30))).bind fun bt454 => ((book_Values.f kj19 t441 (rd t443 (ji17))).bind fun bt458 => (if bt454.2 = 0 then (if bt458.2 = 0 then ((reedpipelaw08_size.f kj19 bt454.1).bind fun t462 => ((reedpipelaw08_size.f kj19 bt458.1).bind fun t463 => (if t462 < t463 then (some true) else ((reedpipelaw08_size.f kj19 bt454.1).bind fun t464 => ((reedpipelaw08_size.f kj19 bt458.1).bind fun t465 => (if t464 = t465 then (some (decide ((rd t443 (ji30)) < (rd t443 (ji17))))) else (some false))))))) else (some false)) else (some false)))) else (none)) else (none)) = some r := by first | (rw [hji30] at H; exact H) | (simp only [hji30] at H ⊢; exact H)
                      have hji30w : (IntKind.i64.wrap (ji17 - 1)) = ji30 := (i64_w _).trans hji30
                      by_cases c31 : 0 ≤ (ji30)
                      · rw [if_pos c31] at H
                        have c31b0 : decide (0 ≤ (ji30)) = true := decide_eq_true c31
                        clear c31
                        by_cases c32 : (ji30) < (t443.length : Int)
                        · rw [if_pos c32] at H
                          have c32b0 : decide ((ji30) < (t443.length : Int)) = true := decide_eq_true c32
                          clear c32
                          replace H := Option.bind_eq_some_iff.mp H
                          obtain ⟨⟨t454, t455⟩, A330, H⟩ := H
                          replace H : ((book_Values.f kj19 t441 (rd t443 (ji17))).bind fun bt458 => (if t455 = 0 then (if bt458.2 = 0 then ((reedpipelaw08_size.f kj19 t454).bind fun t462 => ((reedpipelaw08_size.f kj19 bt458.1).bind fun t463 => (if t462 < t463 then (some true) else ((reedpipelaw08_size.f kj19 t454).bind fun t464 => ((reedpipelaw08_size.f kj19 bt458.1).bind fun t465 => (if t464 = t465 then (some (decide ((rd t443 (ji30)) < (rd t443 (ji17))))) else (some false))))))) else (some false)) else (some false))) = some r := H
                          have A33 := Aside0.mk A330
                          clear A330
                          replace H := Option.bind_eq_some_iff.mp H
                          obtain ⟨⟨t458, t459⟩, A340, H⟩ := H
                          replace H : (if t455 = 0 then (if t459 = 0 then ((reedpipelaw08_size.f kj19 t454).bind fun t462 => ((reedpipelaw08_size.f kj19 t458).bind fun t463 => (if t462 < t463 then (some true) else ((reedpipelaw08_size.f kj19 t454).bind fun t464 => ((reedpipelaw08_size.f kj19 t458).bind fun t465 => (if t464 = t465 then (some (decide ((rd t443 (ji30)) < (rd t443 (ji17))))) else (some false))))))) else (some false)) else (some false)) = some r := H
                          have A34 := Aside0.mk A340
                          clear A340
                          by_cases c35 : t455 = 0
                          · rw [if_pos c35] at H
                            have c35b0 : (t455 == 0) = true := beq_iff_eq.mpr c35
                            have c35b1 : (t455 != 0) = false := bne_eq_false_iff_eq.mpr c35
                            clear c35
                            by_cases c36 : t459 = 0
                            · rw [if_pos c36] at H
                              have c36b0 : (t459 == 0) = true := beq_iff_eq.mpr c36
                              have c36b1 : (t459 != 0) = false := bne_eq_false_iff_eq.mpr c36
                              clear c36
                              replace H := Option.bind_eq_some_iff.mp H
                              obtain ⟨t462, A370, H⟩ := H
                              replace H : ((reedpipelaw08_size.f kj19 t458).bind fun t463 => (if t462 < t463 then (some true) else ((reedpipelaw08_size.f kj19 t454).bind fun t464 => ((reedpipelaw08_size.f kj19 t458).bind fun t465 => (if t464 = t465 then (some (decide ((rd t443 (ji30)) < (rd t443 (ji17))))) else (some false)))))) = some r := H
                              have A37 := Aside0.mk A370
                              clear A370
                              replace H := Option.bind_eq_some_iff.mp H
                              obtain ⟨t463, A380, H⟩ := H
                              replace H : (if t462 < t463 then (some true) else ((reedpipelaw08_size.f kj19 t454).bind fun t464 => ((reedpipelaw08_size.f kj19 t458).bind fun t465 => (if t464 = t465 then (some (decide ((rd t443 (ji30)) < (rd t443 (ji17))))) else (some false))))) = some r := H
                              have A38 := Aside0.mk A380
                              clear A380
                              by_cases c39 : t462 < t463
                              · rw [if_pos c39] at H
                                have c39b0 : decide (t462 < t463) = true := decide_eq_true c39
                                clear c39
                                obtain rfl := Option.some.inj H
                                try go_wp2
                                have n0_ := Aside0.mk (Kd.R_drew HO_451002.out)
                                have n1_ := Aside0.mk (Kd.R_drew HO_451003.out)
                                have n2_ := Aside0.mk (blk_drew BK450.out)
                                have n3_ := Aside0.mk (below_drew1 HB.out)
                                clear HO_451002
                                clear HO_451003
                                clear BK450
                                clear HB
                                have HO_451002 := n0_
                                have HO_451003 := n1_
                                have BK450 := n2_
                                have HB := n3_
                                clear n0_ n1_ n2_ n3_
                                have p453 : 0 ≤ ((ji30) : Int) := of_decide_eq_true (by first | (with_reducible assumption) | assumption)
                                have q453 : (ji30) < (t443.length : Int) := of_decide_eq_true (by first | (with_reducible assumption) | assumption)
                                obtain ⟨ad453, e453, hx453_0⟩ := Kd.at_int (Kd.R_reads' HO_451002.out).2.2 (ji30) p453 q453
                                obtain rfl : ad451 = ad453 := (by injection e453)
                                replace p453 := eq_true p453
                                replace q453 := eq_true q453
                                refine start_ (n := 14) (S := fun w' => w'.cell? ⟨gb450, 0, none⟩ = some (.int .i64 t441) ∧ w'.cell? ⟨gb450, 1, none⟩ = some (.int .i64 t442) ∧ w'.cell? ⟨gb450, 2, none⟩ = some (.slice (some ad451) t443.length co10) ∧ w'.cell? ⟨gb450, 3, none⟩ = some (.slice Ao11 t446.length co11) ∧ w'.cell? (ad451.add ((ji30)).toNat) = some (.int .i64 (rd t443 (ji30)))) (ds := []) #[false, false, false, false, false, false, false, false, false, false, false, false, false, false] (by kernel_rfl) rfl rfl ⟨(blk_cell BK450.out 0).trans rfl, (blk_cell BK450.out 1).trans rfl, (blk_cell BK450.out 2).trans rfl, (blk_cell BK450.out 3).trans rfl, hx453_0⟩ (fun hHeld => ?_); refine with_tabW reedpipelaw08_BookRanks.tab11 reedpipelaw08_BookRanks.bits11 (fun HT_ HW_ => ?_)
                                generalize wc.drew = w40 at HO_451002 HO_451003 BK450 HB hx453_0 hHeld ⊢
                                refine pure_ (i := 0) (N := some 70) (v := ?_) (a' := ?_) #[true, false, false, false, false, false, false, false, false, false, false, false, false, false] rfl rfl (any_of HT_.out (by kernel_rfl)) (fun _ _ _ h => h) (Or.inl ⟨by rfl, ?_⟩) ?_ ?_
                                rotate_left
                                · intro w'
                                  go_simp
                                  with_reducible rfl
                                rotate_left
                                · simp only [Act.put, List.setIfInBounds_toArray, List.set_cons_zero, List.set_cons_succ, i64_w, i32_w]
                                  rfl
                                refine pure_ (i := 2) (N := some 72) (v := ?_) (a' := ?_) #[true, false, true, false, false, false, false, false, false, false, false, false, false, false] rfl rfl (any_of HT_.out (by kernel_rfl)) (fun _ _ _ h => h) (Or.inl ⟨by rfl, ?_⟩) ?_ ?_
                                rotate_left
                                · intro w'
                                  go_simp
                                  with_reducible rfl
                                rotate_left
                                · simp only [Act.put, List.setIfInBounds_toArray, List.set_cons_zero, List.set_cons_succ, i64_w, i32_w]
                                  rfl
                                refine pure_ (i := 4) (N := some 74) (v := ?_) (a' := ?_) #[true, false, true, false, true, false, false, false, false, false, false, false, false, false] rfl rfl (any_of HT_.out (by kernel_rfl)) (fun _ _ _ h => h) (Or.inl ⟨by rfl, ?_⟩) ?_ ?_
                                rotate_left
                                · intro w'
                                  go_simp
                                  with_reducible rfl
                                rotate_left
                                · simp only [Act.put, List.setIfInBounds_toArray, List.set_cons_zero, List.set_cons_succ, i64_w, i32_w]
                                  rfl
                                refine pure_ (i := 5) (N := some 75) (v := ?_) (a' := ?_) #[true, false, true, false, true, true, false, false, false, false, false, false, false, false] rfl rfl (any_of HT_.out (by kernel_rfl)) (fun _ _ _ h => h) (Or.inl ⟨by rfl, ?_⟩) ?_ ?_
                                rotate_left
                                · intro w'
                                  go_simp
                                  with_reducible rfl
                                rotate_left
                                · simp only [Act.put, List.setIfInBounds_toArray, List.set_cons_zero, List.set_cons_succ, i64_w, i32_w]
                                  rfl
                                refine take_ (i := 1) (N := some 71) (v := ?_) (a' := ?_) #[true, true, true, false, true, true, false, false, false, false, false, false, false, false] rfl rfl (take_ofW HT_.out HW_.out (by kernel_rfl)) (fun _ _ _ h => h) (Or.inl ⟨by rfl, ?_⟩) hHeld ?_ ?_
                                rotate_left
                                · rintro w' ⟨s0, s1, s2, s3, s4⟩
                                  go_simp
                                  with_reducible rfl
                                rotate_left
                                · simp only [Act.put, List.setIfInBounds_toArray, List.set_cons_zero, List.set_cons_succ, i64_w, i32_w]
                                  rfl
                                refine take_ (i := 3) (N := some 73) (v := ?_) (a' := ?_) #[true, true, true, true, true, true, false, false, false, false, false, false, false, false] rfl rfl (take_ofW HT_.out HW_.out (by kernel_rfl)) (fun _ _ _ h => h) (Or.inl ⟨by rfl, ?_⟩) hHeld ?_ ?_
                                rotate_left
                                · rintro w' ⟨s0, s1, s2, s3, s4⟩
                                  go_simp
                                  with_reducible rfl
                                rotate_left
                                · simp only [Act.put, List.setIfInBounds_toArray, List.set_cons_zero, List.set_cons_succ, i64_w, i32_w]
                                  rfl
                                refine pure_ (i := 6) (N := some 76) (v := ?_) (a' := ?_) #[true, true, true, true, true, true, true, false, false, false, false, false, false, false] rfl rfl (any_of HT_.out (by kernel_rfl)) (fun _ _ _ h => h) (Or.inl ⟨by rfl, ?_⟩) ?_ ?_
                                rotate_left
                                · intro w'
                                  go_simp
                                  with_reducible rfl
                                rotate_left
                                · simp only [Act.put, List.setIfInBounds_toArray, List.set_cons_zero, List.set_cons_succ, i64_w, i32_w]
                                  rfl
                                refine take_ (i := 7) (N := some 77) (v := ?_) (a' := ?_) #[true, true, true, true, true, true, true, true, false, false, false, false, false, false] rfl rfl (take_ofW HT_.out HW_.out (by kernel_rfl)) (fun _ _ _ h => h) (Or.inl ⟨by rfl, ?_⟩) hHeld ?_ ?_
                                rotate_left
                                · rintro w' ⟨s0, s1, s2, s3, s4⟩
                                  go_simp
                                  with_reducible rfl
                                rotate_left
                                · simp only [Act.put, List.setIfInBounds_toArray, List.set_cons_zero, List.set_cons_succ, i64_w, i32_w]
                                  rfl
                                refine one_ (i := 8) (N := some 78) #[true, true, true, true, true, true, true, true, true, false, false, false, false, false] rfl rfl (one_of HT_.out (by kernel_rfl)) (by decide) (fun K hK => ?_)
                                refine goes_ Try.func17 (by kernel_rfl) rfl #[.int .i64 t441, .int .i64 (rd t443 (ji30))] (by rfl) rfl rfl (by (try simp only [List.map_toArray, List.map_cons, List.map_nil]); first | done | (simp only [hji30]; rfl) | rfl | (simp only [List.length_drop, List.length_take]; rfl)) ?_
                                with_reducible refine (book_Values.calls kj19 t441 (rd t443 (ji30)) t454 t455 _ A33.out).mono ?_
                                rintro e w41 ⟨v456, rfl, ho0, hb⟩
                                have HS4_ := (hb.cell (World.block_lt_of_cell? _ _ (hHeld.2.2.2.2))).trans (hHeld.2.2.2.2)
                                refine ⟨_, rfl, ?_⟩
                                have n0_ := Aside0.mk (Kd.R_elder' (by (with_reducible repeat (first | apply Kd.R_alloc | apply Kd.R_drewN | apply Kd.R_drew)); exact HO_451002.out) (Kd.R_base ho0) hb)
                                have n1_ := Aside0.mk (Kd.R_elder' (by (with_reducible repeat (first | apply Kd.R_alloc | apply Kd.R_drewN | apply Kd.R_drew)); exact HO_451003.out) (Kd.R_base ho0) hb)
                                have n2_ := Aside0.mk (Kd.R_lower (Kd.R_new' (Kd.R_new' ho0 (Kd.R_lt (by (with_reducible repeat (first | apply Kd.R_alloc | apply Kd.R_drewN | apply Kd.R_drew)); exact HO_451002.out))) (Kd.R_lt (by (with_reducible repeat (first | apply Kd.R_alloc | apply Kd.R_drewN | apply Kd.R_drew)); exact HO_451003.out))) (below_size (by repeat (first | (with_reducible first | exact HB.out | apply below_alloc | apply pw_below_drewN | apply below_drew1 | refine below_set ?_ GE450.out) | exact HB.out))))
                                have n3_ := Aside0.mk (blk_below (g := gb450) (o := .cells #[.int .i64 t441, .int .i64 t442, .slice (some ad451) t443.length co10, .slice Ao11 t446.length co11] 24 (0, 0)) (by (with_reducible repeat (first | refine blk_drewN ?_ _ | refine blk_drew ?_ | refine blk_alloc ?_ _)); exact BK450.out) hb)
                                have n4_ := Aside0.mk (below_step (by repeat (first | (with_reducible first | exact HB.out | apply below_alloc | apply pw_below_drewN | apply below_drew1 | refine below_set ?_ GE450.out) | exact HB.out)) hb)
                                clear HO_451002
                                clear HO_451003
                                clear BK450
                                clear HB
                                have HO_451002 := n0_
                                have HO_451003 := n1_
                                have HO457 := n2_
                                have BK450 := n3_
                                have HB := n4_
                                clear n0_ n1_ n2_ n3_ n4_
                                (try clear hb)
                                (try clear hb2)
                                (try clear hk)
                                (try clear hi)
                                (try clear ho0)
                                refine hK.out _ _ ⟨(blk_cell BK450.out 0).trans rfl, (blk_cell BK450.out 1).trans rfl, (blk_cell BK450.out 2).trans rfl, (blk_cell BK450.out 3).trans rfl, HS4_⟩ (fun hHeld => ?_)
                                clear hK K
                                refine norm_ (a' := ?_) ?_ ?_
                                rotate_left
                                · show Act.put _ (some 78) _ = _
                                  simp only [Act.put, List.setIfInBounds_toArray, List.set_cons_zero, List.set_cons_succ, i64_w, i32_w]
                                  rfl
                                refine pure_ (i := 9) (N := some 69) (v := ?_) (a' := ?_) #[true, true, true, true, true, true, true, true, true, true, false, false, false, false] rfl rfl (any_of HT_.out (by kernel_rfl)) (fun _ _ _ h => h) (Or.inl ⟨by rfl, ?_⟩) ?_ ?_
                                rotate_left
                                · intro w'
                                  go_simp
                                  with_reducible rfl
                                rotate_left
                                · simp only [Act.put, List.setIfInBounds_toArray, List.set_cons_zero, List.set_cons_succ, i64_w, i32_w]
                                  rfl
                                refine pure_ (i := 10) (N := some 79) (v := ?_) (a' := ?_) #[true, true, true, true, true, true, true, true, true, true, true, false, false, false] rfl rfl (any_of HT_.out (by kernel_rfl)) (fun _ _ _ h => h) (Or.inl ⟨by rfl, ?_⟩) ?_ ?_
                                rotate_left
                                · intro w'
                                  go_simp
                                  with_reducible rfl
                                rotate_left
                                · simp only [Act.put, List.setIfInBounds_toArray, List.set_cons_zero, List.set_cons_succ, i64_w, i32_w]
                                  rfl
                                refine pure_ (i := 11) (N := some 80) (v := ?_) (a' := ?_) #[true, true, true, true, true, true, true, true, true, true, true, true, false, false] rfl rfl (any_of HT_.out (by kernel_rfl)) (fun _ _ _ h => h) (Or.inl ⟨by rfl, ?_⟩) ?_ ?_
                                rotate_left
                                · intro w'
                                  go_simp
                                  with_reducible rfl
                                rotate_left
                                · simp only [Act.put, List.setIfInBounds_toArray, List.set_cons_zero, List.set_cons_succ, i64_w, i32_w]
                                  rfl
                                refine pure_ (i := 12) (N := some 10) (v := ?_) (a' := ?_) #[true, true, true, true, true, true, true, true, true, true, true, true, true, false] rfl rfl (any_of HT_.out (by kernel_rfl)) (fun _ _ _ h => h) (Or.inl ⟨by rfl, ?_⟩) ?_ ?_
                                rotate_left
                                · intro w'
                                  go_simp
                                  with_reducible rfl
                                rotate_left
                                · simp only [Act.put, List.setIfInBounds_toArray, List.set_cons_zero, List.set_cons_succ, i64_w, i32_w]
                                  rfl
                                refine pure_ (i := 13) (N := some 11) (v := ?_) (a' := ?_) #[true, true, true, true, true, true, true, true, true, true, true, true, true, true] rfl rfl (any_of HT_.out (by kernel_rfl)) (fun _ _ _ h => h) (Or.inl ⟨by rfl, ?_⟩) ?_ ?_
                                rotate_left
                                · intro w'
                                  go_simp
                                  with_reducible rfl
                                rotate_left
                                · simp only [Act.put, List.setIfInBounds_toArray, List.set_cons_zero, List.set_cons_succ, i64_w, i32_w]
                                  rfl
                                refine done_ (done_of HT_.out (by kernel_rfl)) ?_
                                have hcz42_0 : w41.cell? ⟨gb450, 0, none⟩ = some (.int .i64 t441) := (blk_cell BK450.out 0).trans rfl
                                have hcz42_1 : w41.cell? ⟨gb450, 1, none⟩ = some (.int .i64 t442) := (blk_cell BK450.out 1).trans rfl
                                have hcz42_2 : w41.cell? ⟨gb450, 2, none⟩ = some (.slice (some ad451) t443.length co10) := (blk_cell BK450.out 2).trans rfl
                                have hcz42_3 : w41.cell? ⟨gb450, 3, none⟩ = some (.slice Ao11 t446.length co11) := (blk_cell BK450.out 3).trans rfl
                                have hfz42_0 := blk_frozen BK450.out 0
                                have hfz42_1 := blk_frozen BK450.out 1
                                have hfz42_2 := blk_frozen BK450.out 2
                                have hfz42_3 := blk_frozen BK450.out 3
                                try go_wp2_with (first | ((with_reducible refine gate_callee (f := 17) rfl ?_); refine goesL_ (some 85) rfl rfl Try.func17 (by kernel_rfl) rfl #[.int .i64 t441, .int .i64 (rd t443 (ji17))] rfl (by (try simp only [List.map_toArray, List.map_cons, List.map_nil]); first | done | (simp only [hji17]; rfl) | rfl | (simp only [List.length_drop, List.length_take]; rfl)) ?_; (with_reducible refine (book_Values.calls kj19 t441 (rd t443 (ji17)) t458 t459 _ A34.out).mono ?_); rintro e w43 ⟨v460, rfl, ho0, hb⟩; refine ⟨_, rfl, ?_⟩; have n0_ := Aside0.mk (Kd.R_elder' (by (with_reducible repeat (first | apply Kd.R_alloc | apply Kd.R_drewN | apply Kd.R_drew)); exact HO_451002.out) (Kd.R_base ho0) hb); have n1_ := Aside0.mk (Kd.R_elder' (by (with_reducible repeat (first | apply Kd.R_alloc | apply Kd.R_drewN | apply Kd.R_drew)); exact HO_451003.out) (Kd.R_base ho0) hb); have n2_ := Aside0.mk (Kd.R_elder' (by (with_reducible repeat (first | apply Kd.R_alloc | apply Kd.R_drewN | apply Kd.R_drew)); exact HO457.out) (Kd.R_base ho0) hb); have n3_ := Aside0.mk (Kd.R_lower (Kd.R_new' (Kd.R_new' (Kd.R_new' ho0 (Kd.R_lt (by (with_reducible repeat (first | apply Kd.R_alloc | apply Kd.R_drewN | apply Kd.R_drew)); exact HO_451002.out))) (Kd.R_lt (by (with_reducible repeat (first | apply Kd.R_alloc | apply Kd.R_drewN | apply Kd.R_drew)); exact HO_451003.out))) (Kd.R_lt (by (with_reducible repeat (first | apply Kd.R_alloc | apply Kd.R_drewN | apply Kd.R_drew)); exact HO457.out))) (below_size (by repeat (first | (with_reducible first | exact HB.out | apply below_alloc | apply pw_below_drewN | apply below_drew1 | refine below_set ?_ GE450.out) | exact HB.out)))); have n4_ := Aside0.mk (blk_below (g := gb450) (o := .cells #[.int .i64 t441, .int .i64 t442, .slice (some ad451) t443.length co10, .slice Ao11 t446.length co11] 24 (0, 0)) (by (with_reducible repeat (first | refine blk_drewN ?_ _ | refine blk_drew ?_ | refine blk_alloc ?_ _)); exact BK450.out) hb); have n5_ := Aside0.mk (below_step (by repeat (first | (with_reducible first | exact HB.out | apply below_alloc | apply pw_below_drewN | apply below_drew1 | refine below_set ?_ GE450.out) | exact HB.out)) hb); clear HO_451002; clear HO_451003; clear HO457; clear BK450; clear HB; have HO_451002 := n0_; have HO_451003 := n1_; have HO457 := n2_; have HO461 := n3_; have BK450 := n4_; have HB := n5_; clear n0_ n1_ n2_ n3_ n4_ n5_; (try clear hb); (try clear hb2); (try clear hk); (try clear hi); (try clear ho0); obtain ⟨Ao44, co44, eo44⟩ := Kd.R_slice HO457.out; subst eo44) | (go_at_call 24; (with_reducible refine (reedpipelaw08_size.calls kj19 _ _ t454 t462 _ ?side1 ?side2 A37.out).mono ?_); (case side1 => repeat (first | exact (Kd.R_reads' HO457.out).2.2 | (with_reducible refine Kd.C_alloc ?_ _) | (with_reducible refine Kd.C_drewN ?_ _) | (with_reducible refine Kd.C_drew ?_))); (case side2 => exact (Kd.R_reads' HO457.out).2.1); rintro e w45 ⟨rfl, hb⟩; have n0_ := Aside0.mk (Kd.R_below (by (with_reducible repeat (first | apply Kd.R_alloc | apply Kd.R_drewN | apply Kd.R_drew)); exact HO_451002.out) hb); have n1_ := Aside0.mk (Kd.R_below (by (with_reducible repeat (first | apply Kd.R_alloc | apply Kd.R_drewN | apply Kd.R_drew)); exact HO_451003.out) hb); have n2_ := Aside0.mk (Kd.R_below (by (with_reducible repeat (first | apply Kd.R_alloc | apply Kd.R_drewN | apply Kd.R_drew)); exact HO457.out) hb); have n3_ := Aside0.mk (Kd.R_below (by (with_reducible repeat (first | apply Kd.R_alloc | apply Kd.R_drewN | apply Kd.R_drew)); exact HO461.out) hb); have n4_ := Aside0.mk (blk_below (g := gb450) (o := .cells #[.int .i64 t441, .int .i64 t442, .slice (some ad451) t443.length co10, .slice Ao11 t446.length co11] 24 (0, 0)) (by (with_reducible repeat (first | refine blk_drewN ?_ _ | refine blk_drew ?_ | refine blk_alloc ?_ _)); exact BK450.out) hb); have n5_ := Aside0.mk (below_step (by repeat (first | (with_reducible first | exact HB.out | apply below_alloc | apply pw_below_drewN | apply below_drew1 | refine below_set ?_ GE450.out) | exact HB.out)) hb); clear HO_451002; clear HO_451003; clear HO457; clear HO461; clear BK450; clear HB; have HO_451002 := n0_; have HO_451003 := n1_; have HO457 := n2_; have HO461 := n3_; have BK450 := n4_; have HB := n5_; clear n0_ n1_ n2_ n3_ n4_ n5_; (try clear hb); (try clear hb2); (try clear hk); (try clear hi); have hczA : w45.cell? ⟨gb450, 2, none⟩ = some (.slice (some ad451) t443.length co10) := (blk_cell BK450.out 2).trans rfl; obtain ⟨adA, eA, hxA⟩ := Kd.at_int (Kd.R_reads' HO_451002.out).2.2 (ji30) (by first | (with_reducible assumption) | exact of_eq_true (by with_reducible assumption) | exact of_decide_eq_true (by first | (with_reducible assumption) | assumption)) (by first | (with_reducible assumption) | exact of_eq_true (by with_reducible assumption) | exact of_decide_eq_true (by first | (with_reducible assumption) | assumption)); cases eA; obtain ⟨Ao46, co46, eo46⟩ := Kd.R_slice HO461.out; subst eo46) | (go_at_call 24; (with_reducible refine (reedpipelaw08_size.calls kj19 _ _ t458 t463 _ ?side1 ?side2 A38.out).mono ?_); (case side1 => repeat (first | exact (Kd.R_reads' HO461.out).2.2 | (with_reducible refine Kd.C_alloc ?_ _) | (with_reducible refine Kd.C_drewN ?_ _) | (with_reducible refine Kd.C_drew ?_))); (case side2 => exact (Kd.R_reads' HO461.out).2.1); rintro e w47 ⟨rfl, hb⟩; have n0_ := Aside0.mk (Kd.R_below (by (with_reducible repeat (first | apply Kd.R_alloc | apply Kd.R_drewN | apply Kd.R_drew)); exact HO_451002.out) hb); have n1_ := Aside0.mk (Kd.R_below (by (with_reducible repeat (first | apply Kd.R_alloc | apply Kd.R_drewN | apply Kd.R_drew)); exact HO_451003.out) hb); have n2_ := Aside0.mk (Kd.R_below (by (with_reducible repeat (first | apply Kd.R_alloc | apply Kd.R_drewN | apply Kd.R_drew)); exact HO457.out) hb); have n3_ := Aside0.mk (Kd.R_below (by (with_reducible repeat (first | apply Kd.R_alloc | apply Kd.R_drewN | apply Kd.R_drew)); exact HO461.out) hb); have n4_ := Aside0.mk (blk_below (g := gb450) (o := .cells #[.int .i64 t441, .int .i64 t442, .slice (some ad451) t443.length co10, .slice Ao11 t446.length co11] 24 (0, 0)) (by (with_reducible repeat (first | refine blk_drewN ?_ _ | refine blk_drew ?_ | refine blk_alloc ?_ _)); exact BK450.out) hb); have n5_ := Aside0.mk (below_step (by repeat (first | (with_reducible first | exact HB.out | apply below_alloc | apply pw_below_drewN | apply below_drew1 | refine below_set ?_ GE450.out) | exact HB.out)) hb); clear HO_451002; clear HO_451003; clear HO457; clear HO461; clear BK450; clear HB; have HO_451002 := n0_; have HO_451003 := n1_; have HO457 := n2_; have HO461 := n3_; have BK450 := n4_; have HB := n5_; clear n0_ n1_ n2_ n3_ n4_ n5_; (try clear hb); (try clear hb2); (try clear hk); (try clear hi); have hczA : w47.cell? ⟨gb450, 2, none⟩ = some (.slice (some ad451) t443.length co10) := (blk_cell BK450.out 2).trans rfl; obtain ⟨adA, eA, hxA⟩ := Kd.at_int (Kd.R_reads' HO_451002.out).2.2 (ji30) (by first | (with_reducible assumption) | exact of_eq_true (by with_reducible assumption) | exact of_decide_eq_true (by first | (with_reducible assumption) | assumption)) (by first | (with_reducible assumption) | exact of_eq_true (by with_reducible assumption) | exact of_decide_eq_true (by first | (with_reducible assumption) | assumption)); cases eA))
                                go_ret
                                exact ⟨by first | rfl | (simp [errW_none, errW_some] <;> rfl) | (simp only [← hji17, ← hji30]; first | rfl | (simp [errW_none, errW_some] <;> rfl)) | (simp [*, errW_none, errW_some] <;> rfl), by repeat (first | (with_reducible first | exact HB.out | apply below_alloc | apply pw_below_drewN | apply below_drew1 | refine below_set ?_ GE450.out) | exact HB.out)⟩
                              · rw [if_neg c39] at H
                                have c39b0 : decide (t462 < t463) = false := decide_eq_false c39
                                clear c39
                                replace H := Option.bind_eq_some_iff.mp H
                                obtain ⟨t464, A480, H⟩ := H
                                replace H : ((reedpipelaw08_size.f kj19 t458).bind fun t465 => (if t464 = t465 then (some (decide ((rd t443 (ji30)) < (rd t443 (ji17))))) else (some false))) = some r := H
                                have A48 := Aside0.mk A480
                                clear A480
                                replace H := Option.bind_eq_some_iff.mp H
                                obtain ⟨t465, A490, H⟩ := H
                                replace H : (if t464 = t465 then (some (decide ((rd t443 (ji30)) < (rd t443 (ji17))))) else (some false)) = some r := H
                                have A49 := Aside0.mk A490
                                clear A490
                                by_cases c50 : t464 = t465
                                · rw [if_pos c50] at H
                                  have c50b0 : (t464 == t465) = true := beq_iff_eq.mpr c50
                                  have c50b1 : (t464 != t465) = false := bne_eq_false_iff_eq.mpr c50
                                  clear c50
                                  obtain rfl := Option.some.inj H
                                  try go_wp2
                                  have n0_ := Aside0.mk (Kd.R_drew HO_451002.out)
                                  have n1_ := Aside0.mk (Kd.R_drew HO_451003.out)
                                  have n2_ := Aside0.mk (blk_drew BK450.out)
                                  have n3_ := Aside0.mk (below_drew1 HB.out)
                                  clear HO_451002
                                  clear HO_451003
                                  clear BK450
                                  clear HB
                                  have HO_451002 := n0_
                                  have HO_451003 := n1_
                                  have BK450 := n2_
                                  have HB := n3_
                                  clear n0_ n1_ n2_ n3_
                                  have p453 : 0 ≤ ((ji30) : Int) := of_decide_eq_true (by first | (with_reducible assumption) | assumption)
                                  have q453 : (ji30) < (t443.length : Int) := of_decide_eq_true (by first | (with_reducible assumption) | assumption)
                                  obtain ⟨ad453, e453, hx453_0⟩ := Kd.at_int (Kd.R_reads' HO_451002.out).2.2 (ji30) p453 q453
                                  obtain rfl : ad451 = ad453 := (by injection e453)
                                  replace p453 := eq_true p453
                                  replace q453 := eq_true q453
                                  refine start_ (n := 14) (S := fun w' => w'.cell? ⟨gb450, 0, none⟩ = some (.int .i64 t441) ∧ w'.cell? ⟨gb450, 1, none⟩ = some (.int .i64 t442) ∧ w'.cell? ⟨gb450, 2, none⟩ = some (.slice (some ad451) t443.length co10) ∧ w'.cell? ⟨gb450, 3, none⟩ = some (.slice Ao11 t446.length co11) ∧ w'.cell? (ad451.add ((ji30)).toNat) = some (.int .i64 (rd t443 (ji30)))) (ds := []) #[false, false, false, false, false, false, false, false, false, false, false, false, false, false] (by kernel_rfl) rfl rfl ⟨(blk_cell BK450.out 0).trans rfl, (blk_cell BK450.out 1).trans rfl, (blk_cell BK450.out 2).trans rfl, (blk_cell BK450.out 3).trans rfl, hx453_0⟩ (fun hHeld => ?_); refine with_tabW reedpipelaw08_BookRanks.tab11 reedpipelaw08_BookRanks.bits11 (fun HT_ HW_ => ?_)
                                  generalize wc.drew = w51 at HO_451002 HO_451003 BK450 HB hx453_0 hHeld ⊢
                                  refine pure_ (i := 0) (N := some 70) (v := ?_) (a' := ?_) #[true, false, false, false, false, false, false, false, false, false, false, false, false, false] rfl rfl (any_of HT_.out (by kernel_rfl)) (fun _ _ _ h => h) (Or.inl ⟨by rfl, ?_⟩) ?_ ?_
                                  rotate_left
                                  · intro w'
                                    go_simp
                                    with_reducible rfl
                                  rotate_left
                                  · simp only [Act.put, List.setIfInBounds_toArray, List.set_cons_zero, List.set_cons_succ, i64_w, i32_w]
                                    rfl
                                  refine pure_ (i := 2) (N := some 72) (v := ?_) (a' := ?_) #[true, false, true, false, false, false, false, false, false, false, false, false, false, false] rfl rfl (any_of HT_.out (by kernel_rfl)) (fun _ _ _ h => h) (Or.inl ⟨by rfl, ?_⟩) ?_ ?_
                                  rotate_left
                                  · intro w'
                                    go_simp
                                    with_reducible rfl
                                  rotate_left
                                  · simp only [Act.put, List.setIfInBounds_toArray, List.set_cons_zero, List.set_cons_succ, i64_w, i32_w]
                                    rfl
                                  refine pure_ (i := 4) (N := some 74) (v := ?_) (a' := ?_) #[true, false, true, false, true, false, false, false, false, false, false, false, false, false] rfl rfl (any_of HT_.out (by kernel_rfl)) (fun _ _ _ h => h) (Or.inl ⟨by rfl, ?_⟩) ?_ ?_
                                  rotate_left
                                  · intro w'
                                    go_simp
                                    with_reducible rfl
                                  rotate_left
                                  · simp only [Act.put, List.setIfInBounds_toArray, List.set_cons_zero, List.set_cons_succ, i64_w, i32_w]
                                    rfl
                                  refine pure_ (i := 5) (N := some 75) (v := ?_) (a' := ?_) #[true, false, true, false, true, true, false, false, false, false, false, false, false, false] rfl rfl (any_of HT_.out (by kernel_rfl)) (fun _ _ _ h => h) (Or.inl ⟨by rfl, ?_⟩) ?_ ?_
                                  rotate_left
                                  · intro w'
                                    go_simp
                                    with_reducible rfl
                                  rotate_left
                                  · simp only [Act.put, List.setIfInBounds_toArray, List.set_cons_zero, List.set_cons_succ, i64_w, i32_w]
                                    rfl
                                  refine take_ (i := 1) (N := some 71) (v := ?_) (a' := ?_) #[true, true, true, false, true, true, false, false, false, false, false, false, false, false] rfl rfl (take_ofW HT_.out HW_.out (by kernel_rfl)) (fun _ _ _ h => h) (Or.inl ⟨by rfl, ?_⟩) hHeld ?_ ?_
                                  rotate_left
                                  · rintro w' ⟨s0, s1, s2, s3, s4⟩
                                    go_simp
                                    with_reducible rfl
                                  rotate_left
                                  · simp only [Act.put, List.setIfInBounds_toArray, List.set_cons_zero, List.set_cons_succ, i64_w, i32_w]
                                    rfl
                                  refine take_ (i := 3) (N := some 73) (v := ?_) (a' := ?_) #[true, true, true, true, true, true, false, false, false, false, false, false, false, false] rfl rfl (take_ofW HT_.out HW_.out (by kernel_rfl)) (fun _ _ _ h => h) (Or.inl ⟨by rfl, ?_⟩) hHeld ?_ ?_
                                  rotate_left
                                  · rintro w' ⟨s0, s1, s2, s3, s4⟩
                                    go_simp
                                    with_reducible rfl
                                  rotate_left
                                  · simp only [Act.put, List.setIfInBounds_toArray, List.set_cons_zero, List.set_cons_succ, i64_w, i32_w]
                                    rfl
                                  refine pure_ (i := 6) (N := some 76) (v := ?_) (a' := ?_) #[true, true, true, true, true, true, true, false, false, false, false, false, false, false] rfl rfl (any_of HT_.out (by kernel_rfl)) (fun _ _ _ h => h) (Or.inl ⟨by rfl, ?_⟩) ?_ ?_
                                  rotate_left
                                  · intro w'
                                    go_simp
                                    with_reducible rfl
                                  rotate_left
                                  · simp only [Act.put, List.setIfInBounds_toArray, List.set_cons_zero, List.set_cons_succ, i64_w, i32_w]
                                    rfl
                                  refine take_ (i := 7) (N := some 77) (v := ?_) (a' := ?_) #[true, true, true, true, true, true, true, true, false, false, false, false, false, false] rfl rfl (take_ofW HT_.out HW_.out (by kernel_rfl)) (fun _ _ _ h => h) (Or.inl ⟨by rfl, ?_⟩) hHeld ?_ ?_
                                  rotate_left
                                  · rintro w' ⟨s0, s1, s2, s3, s4⟩
                                    go_simp
                                    with_reducible rfl
                                  rotate_left
                                  · simp only [Act.put, List.setIfInBounds_toArray, List.set_cons_zero, List.set_cons_succ, i64_w, i32_w]
                                    rfl
                                  refine one_ (i := 8) (N := some 78) #[true, true, true, true, true, true, true, true, true, false, false, false, false, false] rfl rfl (one_of HT_.out (by kernel_rfl)) (by decide) (fun K hK => ?_)
                                  refine goes_ Try.func17 (by kernel_rfl) rfl #[.int .i64 t441, .int .i64 (rd t443 (ji30))] (by rfl) rfl rfl (by (try simp only [List.map_toArray, List.map_cons, List.map_nil]); first | done | (simp only [hji30]; rfl) | rfl | (simp only [List.length_drop, List.length_take]; rfl)) ?_
                                  with_reducible refine (book_Values.calls kj19 t441 (rd t443 (ji30)) t454 t455 _ A33.out).mono ?_
                                  rintro e w52 ⟨v456, rfl, ho0, hb⟩
                                  have HS4_ := (hb.cell (World.block_lt_of_cell? _ _ (hHeld.2.2.2.2))).trans (hHeld.2.2.2.2)
                                  refine ⟨_, rfl, ?_⟩
                                  have n0_ := Aside0.mk (Kd.R_elder' (by (with_reducible repeat (first | apply Kd.R_alloc | apply Kd.R_drewN | apply Kd.R_drew)); exact HO_451002.out) (Kd.R_base ho0) hb)
                                  have n1_ := Aside0.mk (Kd.R_elder' (by (with_reducible repeat (first | apply Kd.R_alloc | apply Kd.R_drewN | apply Kd.R_drew)); exact HO_451003.out) (Kd.R_base ho0) hb)
                                  have n2_ := Aside0.mk (Kd.R_lower (Kd.R_new' (Kd.R_new' ho0 (Kd.R_lt (by (with_reducible repeat (first | apply Kd.R_alloc | apply Kd.R_drewN | apply Kd.R_drew)); exact HO_451002.out))) (Kd.R_lt (by (with_reducible repeat (first | apply Kd.R_alloc | apply Kd.R_drewN | apply Kd.R_drew)); exact HO_451003.out))) (below_size (by repeat (first | (with_reducible first | exact HB.out | apply below_alloc | apply pw_below_drewN | apply below_drew1 | refine below_set ?_ GE450.out) | exact HB.out))))
                                  have n3_ := Aside0.mk (blk_below (g := gb450) (o := .cells #[.int .i64 t441, .int .i64 t442, .slice (some ad451) t443.length co10, .slice Ao11 t446.length co11] 24 (0, 0)) (by (with_reducible repeat (first | refine blk_drewN ?_ _ | refine blk_drew ?_ | refine blk_alloc ?_ _)); exact BK450.out) hb)
                                  have n4_ := Aside0.mk (below_step (by repeat (first | (with_reducible first | exact HB.out | apply below_alloc | apply pw_below_drewN | apply below_drew1 | refine below_set ?_ GE450.out) | exact HB.out)) hb)
                                  clear HO_451002
                                  clear HO_451003
                                  clear BK450
                                  clear HB
                                  have HO_451002 := n0_
                                  have HO_451003 := n1_
                                  have HO457 := n2_
                                  have BK450 := n3_
                                  have HB := n4_
                                  clear n0_ n1_ n2_ n3_ n4_
                                  (try clear hb)
                                  (try clear hb2)
                                  (try clear hk)
                                  (try clear hi)
                                  (try clear ho0)
                                  refine hK.out _ _ ⟨(blk_cell BK450.out 0).trans rfl, (blk_cell BK450.out 1).trans rfl, (blk_cell BK450.out 2).trans rfl, (blk_cell BK450.out 3).trans rfl, HS4_⟩ (fun hHeld => ?_)
                                  clear hK K
                                  refine norm_ (a' := ?_) ?_ ?_
                                  rotate_left
                                  · show Act.put _ (some 78) _ = _
                                    simp only [Act.put, List.setIfInBounds_toArray, List.set_cons_zero, List.set_cons_succ, i64_w, i32_w]
                                    rfl
                                  refine pure_ (i := 9) (N := some 69) (v := ?_) (a' := ?_) #[true, true, true, true, true, true, true, true, true, true, false, false, false, false] rfl rfl (any_of HT_.out (by kernel_rfl)) (fun _ _ _ h => h) (Or.inl ⟨by rfl, ?_⟩) ?_ ?_
                                  rotate_left
                                  · intro w'
                                    go_simp
                                    with_reducible rfl
                                  rotate_left
                                  · simp only [Act.put, List.setIfInBounds_toArray, List.set_cons_zero, List.set_cons_succ, i64_w, i32_w]
                                    rfl
                                  refine pure_ (i := 10) (N := some 79) (v := ?_) (a' := ?_) #[true, true, true, true, true, true, true, true, true, true, true, false, false, false] rfl rfl (any_of HT_.out (by kernel_rfl)) (fun _ _ _ h => h) (Or.inl ⟨by rfl, ?_⟩) ?_ ?_
                                  rotate_left
                                  · intro w'
                                    go_simp
                                    with_reducible rfl
                                  rotate_left
                                  · simp only [Act.put, List.setIfInBounds_toArray, List.set_cons_zero, List.set_cons_succ, i64_w, i32_w]
                                    rfl
                                  refine pure_ (i := 11) (N := some 80) (v := ?_) (a' := ?_) #[true, true, true, true, true, true, true, true, true, true, true, true, false, false] rfl rfl (any_of HT_.out (by kernel_rfl)) (fun _ _ _ h => h) (Or.inl ⟨by rfl, ?_⟩) ?_ ?_
                                  rotate_left
                                  · intro w'
                                    go_simp
                                    with_reducible rfl
                                  rotate_left
                                  · simp only [Act.put, List.setIfInBounds_toArray, List.set_cons_zero, List.set_cons_succ, i64_w, i32_w]
                                    rfl
                                  refine pure_ (i := 12) (N := some 10) (v := ?_) (a' := ?_) #[true, true, true, true, true, true, true, true, true, true, true, true, true, false] rfl rfl (any_of HT_.out (by kernel_rfl)) (fun _ _ _ h => h) (Or.inl ⟨by rfl, ?_⟩) ?_ ?_
                                  rotate_left
                                  · intro w'
                                    go_simp
                                    with_reducible rfl
                                  rotate_left
                                  · simp only [Act.put, List.setIfInBounds_toArray, List.set_cons_zero, List.set_cons_succ, i64_w, i32_w]
                                    rfl
                                  refine pure_ (i := 13) (N := some 11) (v := ?_) (a' := ?_) #[true, true, true, true, true, true, true, true, true, true, true, true, true, true] rfl rfl (any_of HT_.out (by kernel_rfl)) (fun _ _ _ h => h) (Or.inl ⟨by rfl, ?_⟩) ?_ ?_
                                  rotate_left
                                  · intro w'
                                    go_simp
                                    with_reducible rfl
                                  rotate_left
                                  · simp only [Act.put, List.setIfInBounds_toArray, List.set_cons_zero, List.set_cons_succ, i64_w, i32_w]
                                    rfl
                                  refine done_ (done_of HT_.out (by kernel_rfl)) ?_
                                  have hcz53_0 : w52.cell? ⟨gb450, 0, none⟩ = some (.int .i64 t441) := (blk_cell BK450.out 0).trans rfl
                                  have hcz53_1 : w52.cell? ⟨gb450, 1, none⟩ = some (.int .i64 t442) := (blk_cell BK450.out 1).trans rfl
                                  have hcz53_2 : w52.cell? ⟨gb450, 2, none⟩ = some (.slice (some ad451) t443.length co10) := (blk_cell BK450.out 2).trans rfl
                                  have hcz53_3 : w52.cell? ⟨gb450, 3, none⟩ = some (.slice Ao11 t446.length co11) := (blk_cell BK450.out 3).trans rfl
                                  have hfz53_0 := blk_frozen BK450.out 0
                                  have hfz53_1 := blk_frozen BK450.out 1
                                  have hfz53_2 := blk_frozen BK450.out 2
                                  have hfz53_3 := blk_frozen BK450.out 3
                                  have hq_1 : t462 = t464 := Option.some.inj (A37.out.symm.trans A48.out)
                                  have hq_2 : t463 = t465 := Option.some.inj (A38.out.symm.trans A49.out)
                                  have hq_3 : (t462 == t463) = true := by rw [hq_1, hq_2]; exact c50b0
                                  have hq_4 : (t462 == t465) = true := by rw [hq_1]; exact c50b0
                                  have hq_5 : (t464 == t463) = true := by rw [hq_2]; exact c50b0
                                  clear hq_1 hq_2
                                  try go_wp2_with (first | ((with_reducible refine gate_callee (f := 17) rfl ?_); refine goesL_ (some 85) rfl rfl Try.func17 (by kernel_rfl) rfl #[.int .i64 t441, .int .i64 (rd t443 (ji17))] rfl (by (try simp only [List.map_toArray, List.map_cons, List.map_nil]); first | done | (simp only [hji17]; rfl) | rfl | (simp only [List.length_drop, List.length_take]; rfl)) ?_; (with_reducible refine (book_Values.calls kj19 t441 (rd t443 (ji17)) t458 t459 _ A34.out).mono ?_); rintro e w54 ⟨v460, rfl, ho0, hb⟩; refine ⟨_, rfl, ?_⟩; have n0_ := Aside0.mk (Kd.R_elder' (by (with_reducible repeat (first | apply Kd.R_alloc | apply Kd.R_drewN | apply Kd.R_drew)); exact HO_451002.out) (Kd.R_base ho0) hb); have n1_ := Aside0.mk (Kd.R_elder' (by (with_reducible repeat (first | apply Kd.R_alloc | apply Kd.R_drewN | apply Kd.R_drew)); exact HO_451003.out) (Kd.R_base ho0) hb); have n2_ := Aside0.mk (Kd.R_elder' (by (with_reducible repeat (first | apply Kd.R_alloc | apply Kd.R_drewN | apply Kd.R_drew)); exact HO457.out) (Kd.R_base ho0) hb); have n3_ := Aside0.mk (Kd.R_lower (Kd.R_new' (Kd.R_new' (Kd.R_new' ho0 (Kd.R_lt (by (with_reducible repeat (first | apply Kd.R_alloc | apply Kd.R_drewN | apply Kd.R_drew)); exact HO_451002.out))) (Kd.R_lt (by (with_reducible repeat (first | apply Kd.R_alloc | apply Kd.R_drewN | apply Kd.R_drew)); exact HO_451003.out))) (Kd.R_lt (by (with_reducible repeat (first | apply Kd.R_alloc | apply Kd.R_drewN | apply Kd.R_drew)); exact HO457.out))) (below_size (by repeat (first | (with_reducible first | exact HB.out | apply below_alloc | apply pw_below_drewN | apply below_drew1 | refine below_set ?_ GE450.out) | exact HB.out)))); have n4_ := Aside0.mk (blk_below (g := gb450) (o := .cells #[.int .i64 t441, .int .i64 t442, .slice (some ad451) t443.length co10, .slice Ao11 t446.length co11] 24 (0, 0)) (by (with_reducible repeat (first | refine blk_drewN ?_ _ | refine blk_drew ?_ | refine blk_alloc ?_ _)); exact BK450.out) hb); have n5_ := Aside0.mk (below_step (by repeat (first | (with_reducible first | exact HB.out | apply below_alloc | apply pw_below_drewN | apply below_drew1 | refine below_set ?_ GE450.out) | exact HB.out)) hb); clear HO_451002; clear HO_451003; clear HO457; clear BK450; clear HB; have HO_451002 := n0_; have HO_451003 := n1_; have HO457 := n2_; have HO461 := n3_; have BK450 := n4_; have HB := n5_; clear n0_ n1_ n2_ n3_ n4_ n5_; (try clear hb); (try clear hb2); (try clear hk); (try clear hi); (try clear ho0); obtain ⟨Ao55, co55, eo55⟩ := Kd.R_slice HO457.out; subst eo55) | (go_at_call 24; (with_reducible refine (reedpipelaw08_size.calls kj19 _ _ t454 t462 _ ?side1 ?side2 A37.out).mono ?_); (case side1 => repeat (first | exact (Kd.R_reads' HO457.out).2.2 | (with_reducible refine Kd.C_alloc ?_ _) | (with_reducible refine Kd.C_drewN ?_ _) | (with_reducible refine Kd.C_drew ?_))); (case side2 => exact (Kd.R_reads' HO457.out).2.1); rintro e w56 ⟨rfl, hb⟩; have n0_ := Aside0.mk (Kd.R_below (by (with_reducible repeat (first | apply Kd.R_alloc | apply Kd.R_drewN | apply Kd.R_drew)); exact HO_451002.out) hb); have n1_ := Aside0.mk (Kd.R_below (by (with_reducible repeat (first | apply Kd.R_alloc | apply Kd.R_drewN | apply Kd.R_drew)); exact HO_451003.out) hb); have n2_ := Aside0.mk (Kd.R_below (by (with_reducible repeat (first | apply Kd.R_alloc | apply Kd.R_drewN | apply Kd.R_drew)); exact HO457.out) hb); have n3_ := Aside0.mk (Kd.R_below (by (with_reducible repeat (first | apply Kd.R_alloc | apply Kd.R_drewN | apply Kd.R_drew)); exact HO461.out) hb); have n4_ := Aside0.mk (blk_below (g := gb450) (o := .cells #[.int .i64 t441, .int .i64 t442, .slice (some ad451) t443.length co10, .slice Ao11 t446.length co11] 24 (0, 0)) (by (with_reducible repeat (first | refine blk_drewN ?_ _ | refine blk_drew ?_ | refine blk_alloc ?_ _)); exact BK450.out) hb); have n5_ := Aside0.mk (below_step (by repeat (first | (with_reducible first | exact HB.out | apply below_alloc | apply pw_below_drewN | apply below_drew1 | refine below_set ?_ GE450.out) | exact HB.out)) hb); clear HO_451002; clear HO_451003; clear HO457; clear HO461; clear BK450; clear HB; have HO_451002 := n0_; have HO_451003 := n1_; have HO457 := n2_; have HO461 := n3_; have BK450 := n4_; have HB := n5_; clear n0_ n1_ n2_ n3_ n4_ n5_; (try clear hb); (try clear hb2); (try clear hk); (try clear hi); have hczA : w56.cell? ⟨gb450, 2, none⟩ = some (.slice (some ad451) t443.length co10) := (blk_cell BK450.out 2).trans rfl; obtain ⟨adA, eA, hxA⟩ := Kd.at_int (Kd.R_reads' HO_451002.out).2.2 (ji30) (by first | (with_reducible assumption) | exact of_eq_true (by with_reducible assumption) | exact of_decide_eq_true (by first | (with_reducible assumption) | assumption)) (by first | (with_reducible assumption) | exact of_eq_true (by with_reducible assumption) | exact of_decide_eq_true (by first | (with_reducible assumption) | assumption)); cases eA; obtain ⟨Ao57, co57, eo57⟩ := Kd.R_slice HO461.out; subst eo57) | (go_at_call 24; (with_reducible refine (reedpipelaw08_size.calls kj19 _ _ t458 t463 _ ?side1 ?side2 A38.out).mono ?_); (case side1 => repeat (first | exact (Kd.R_reads' HO461.out).2.2 | (with_reducible refine Kd.C_alloc ?_ _) | (with_reducible refine Kd.C_drewN ?_ _) | (with_reducible refine Kd.C_drew ?_))); (case side2 => exact (Kd.R_reads' HO461.out).2.1); rintro e w58 ⟨rfl, hb⟩; have n0_ := Aside0.mk (Kd.R_below (by (with_reducible repeat (first | apply Kd.R_alloc | apply Kd.R_drewN | apply Kd.R_drew)); exact HO_451002.out) hb); have n1_ := Aside0.mk (Kd.R_below (by (with_reducible repeat (first | apply Kd.R_alloc | apply Kd.R_drewN | apply Kd.R_drew)); exact HO_451003.out) hb); have n2_ := Aside0.mk (Kd.R_below (by (with_reducible repeat (first | apply Kd.R_alloc | apply Kd.R_drewN | apply Kd.R_drew)); exact HO457.out) hb); have n3_ := Aside0.mk (Kd.R_below (by (with_reducible repeat (first | apply Kd.R_alloc | apply Kd.R_drewN | apply Kd.R_drew)); exact HO461.out) hb); have n4_ := Aside0.mk (blk_below (g := gb450) (o := .cells #[.int .i64 t441, .int .i64 t442, .slice (some ad451) t443.length co10, .slice Ao11 t446.length co11] 24 (0, 0)) (by (with_reducible repeat (first | refine blk_drewN ?_ _ | refine blk_drew ?_ | refine blk_alloc ?_ _)); exact BK450.out) hb); have n5_ := Aside0.mk (below_step (by repeat (first | (with_reducible first | exact HB.out | apply below_alloc | apply pw_below_drewN | apply below_drew1 | refine below_set ?_ GE450.out) | exact HB.out)) hb); clear HO_451002; clear HO_451003; clear HO457; clear HO461; clear BK450; clear HB; have HO_451002 := n0_; have HO_451003 := n1_; have HO457 := n2_; have HO461 := n3_; have BK450 := n4_; have HB := n5_; clear n0_ n1_ n2_ n3_ n4_ n5_; (try clear hb); (try clear hb2); (try clear hk); (try clear hi); have hczA : w58.cell? ⟨gb450, 2, none⟩ = some (.slice (some ad451) t443.length co10) := (blk_cell BK450.out 2).trans rfl; obtain ⟨adA, eA, hxA⟩ := Kd.at_int (Kd.R_reads' HO_451002.out).2.2 (ji30) (by first | (with_reducible assumption) | exact of_eq_true (by with_reducible assumption) | exact of_decide_eq_true (by first | (with_reducible assumption) | assumption)) (by first | (with_reducible assumption) | exact of_eq_true (by with_reducible assumption) | exact of_decide_eq_true (by first | (with_reducible assumption) | assumption)); cases eA) | (go_at_call 24; (with_reducible refine (reedpipelaw08_size.calls kj19 _ _ t454 t464 _ ?side1 ?side2 A48.out).mono ?_); (case side1 => repeat (first | exact (Kd.R_reads' HO457.out).2.2 | (with_reducible refine Kd.C_alloc ?_ _) | (with_reducible refine Kd.C_drewN ?_ _) | (with_reducible refine Kd.C_drew ?_))); (case side2 => exact (Kd.R_reads' HO457.out).2.1); rintro e w59 ⟨rfl, hb⟩; have n0_ := Aside0.mk (Kd.R_below (by (with_reducible repeat (first | apply Kd.R_alloc | apply Kd.R_drewN | apply Kd.R_drew)); exact HO_451002.out) hb); have n1_ := Aside0.mk (Kd.R_below (by (with_reducible repeat (first | apply Kd.R_alloc | apply Kd.R_drewN | apply Kd.R_drew)); exact HO_451003.out) hb); have n2_ := Aside0.mk (Kd.R_below (by (with_reducible repeat (first | apply Kd.R_alloc | apply Kd.R_drewN | apply Kd.R_drew)); exact HO457.out) hb); have n3_ := Aside0.mk (Kd.R_below (by (with_reducible repeat (first | apply Kd.R_alloc | apply Kd.R_drewN | apply Kd.R_drew)); exact HO461.out) hb); have n4_ := Aside0.mk (blk_below (g := gb450) (o := .cells #[.int .i64 t441, .int .i64 t442, .slice (some ad451) t443.length co10, .slice Ao11 t446.length co11] 24 (0, 0)) (by (with_reducible repeat (first | refine blk_drewN ?_ _ | refine blk_drew ?_ | refine blk_alloc ?_ _)); exact BK450.out) hb); have n5_ := Aside0.mk (below_step (by repeat (first | (with_reducible first | exact HB.out | apply below_alloc | apply pw_below_drewN | apply below_drew1 | refine below_set ?_ GE450.out) | exact HB.out)) hb); clear HO_451002; clear HO_451003; clear HO457; clear HO461; clear BK450; clear HB; have HO_451002 := n0_; have HO_451003 := n1_; have HO457 := n2_; have HO461 := n3_; have BK450 := n4_; have HB := n5_; clear n0_ n1_ n2_ n3_ n4_ n5_; (try clear hb); (try clear hb2); (try clear hk); (try clear hi); have hczA : w59.cell? ⟨gb450, 2, none⟩ = some (.slice (some ad451) t443.length co10) := (blk_cell BK450.out 2).trans rfl; obtain ⟨adA, eA, hxA⟩ := Kd.at_int (Kd.R_reads' HO_451002.out).2.2 (ji30) (by first | (with_reducible assumption) | exact of_eq_true (by with_reducible assumption) | exact of_decide_eq_true (by first | (with_reducible assumption) | assumption)) (by first | (with_reducible assumption) | exact of_eq_true (by with_reducible assumption) | exact of_decide_eq_true (by first | (with_reducible assumption) | assumption)); cases eA) | (go_at_call 24; (with_reducible refine (reedpipelaw08_size.calls kj19 _ _ t458 t465 _ ?side1 ?side2 A49.out).mono ?_); (case side1 => repeat (first | exact (Kd.R_reads' HO461.out).2.2 | (with_reducible refine Kd.C_alloc ?_ _) | (with_reducible refine Kd.C_drewN ?_ _) | (with_reducible refine Kd.C_drew ?_))); (case side2 => exact (Kd.R_reads' HO461.out).2.1); rintro e w60 ⟨rfl, hb⟩; have n0_ := Aside0.mk (Kd.R_below (by (with_reducible repeat (first | apply Kd.R_alloc | apply Kd.R_drewN | apply Kd.R_drew)); exact HO_451002.out) hb); have n1_ := Aside0.mk (Kd.R_below (by (with_reducible repeat (first | apply Kd.R_alloc | apply Kd.R_drewN | apply Kd.R_drew)); exact HO_451003.out) hb); have n2_ := Aside0.mk (Kd.R_below (by (with_reducible repeat (first | apply Kd.R_alloc | apply Kd.R_drewN | apply Kd.R_drew)); exact HO457.out) hb); have n3_ := Aside0.mk (Kd.R_below (by (with_reducible repeat (first | apply Kd.R_alloc | apply Kd.R_drewN | apply Kd.R_drew)); exact HO461.out) hb); have n4_ := Aside0.mk (blk_below (g := gb450) (o := .cells #[.int .i64 t441, .int .i64 t442, .slice (some ad451) t443.length co10, .slice Ao11 t446.length co11] 24 (0, 0)) (by (with_reducible repeat (first | refine blk_drewN ?_ _ | refine blk_drew ?_ | refine blk_alloc ?_ _)); exact BK450.out) hb); have n5_ := Aside0.mk (below_step (by repeat (first | (with_reducible first | exact HB.out | apply below_alloc | apply pw_below_drewN | apply below_drew1 | refine below_set ?_ GE450.out) | exact HB.out)) hb); clear HO_451002; clear HO_451003; clear HO457; clear HO461; clear BK450; clear HB; have HO_451002 := n0_; have HO_451003 := n1_; have HO457 := n2_; have HO461 := n3_; have BK450 := n4_; have HB := n5_; clear n0_ n1_ n2_ n3_ n4_ n5_; (try clear hb); (try clear hb2); (try clear hk); (try clear hi); have hczA : w60.cell? ⟨gb450, 2, none⟩ = some (.slice (some ad451) t443.length co10) := (blk_cell BK450.out 2).trans rfl; obtain ⟨adA, eA, hxA⟩ := Kd.at_int (Kd.R_reads' HO_451002.out).2.2 (ji30) (by first | (with_reducible assumption) | exact of_eq_true (by with_reducible assumption) | exact of_decide_eq_true (by first | (with_reducible assumption) | assumption)) (by first | (with_reducible assumption) | exact of_eq_true (by with_reducible assumption) | exact of_decide_eq_true (by first | (with_reducible assumption) | assumption)); cases eA; have hcz61_0 : w60.cell? ⟨gb450, 0, none⟩ = some (.int .i64 t441) := (blk_cell BK450.out 0).trans rfl; have hcz61_1 : w60.cell? ⟨gb450, 1, none⟩ = some (.int .i64 t442) := (blk_cell BK450.out 1).trans rfl; have hcz61_2 : w60.cell? ⟨gb450, 2, none⟩ = some (.slice (some ad451) t443.length co10) := (blk_cell BK450.out 2).trans rfl; have hcz61_3 : w60.cell? ⟨gb450, 3, none⟩ = some (.slice Ao11 t446.length co11) := (blk_cell BK450.out 3).trans rfl; have hfz61_0 := blk_frozen BK450.out 0; have hfz61_1 := blk_frozen BK450.out 1; have hfz61_2 := blk_frozen BK450.out 2; have hfz61_3 := blk_frozen BK450.out 3; have p466 : 0 ≤ ((ji30) : Int) := of_decide_eq_true (by first | (with_reducible assumption) | assumption); have q466 : (ji30) < (t443.length : Int) := of_decide_eq_true (by first | (with_reducible assumption) | assumption); obtain ⟨ad466, e466, hx466_0⟩ := Kd.at_int (Kd.R_reads' HO_451002.out).2.2 (ji30) p466 q466; obtain rfl : ad451 = ad466 := (by injection e466); replace p466 := eq_true p466; replace q466 := eq_true q466))
                                  go_ret
                                  exact ⟨by first | rfl | (simp [errW_none, errW_some] <;> rfl) | (simp only [← hji17, ← hji30]; first | rfl | (simp [errW_none, errW_some] <;> rfl)) | (simp [*, errW_none, errW_some] <;> rfl), by repeat (first | (with_reducible first | exact HB.out | apply below_alloc | apply pw_below_drewN | apply below_drew1 | refine below_set ?_ GE450.out) | exact HB.out)⟩
                                · rw [if_neg c50] at H
                                  have c50b0 : (t464 == t465) = false := beq_eq_false_iff_ne.mpr c50
                                  have c50b1 : (t464 != t465) = true := bne_iff_ne.mpr c50
                                  exact absurd ((Option.some.inj H).trans hrT) (by decide)
                            · rw [if_neg c36] at H
                              have c36b0 : (t459 == 0) = false := beq_eq_false_iff_ne.mpr c36
                              have c36b1 : (t459 != 0) = true := bne_iff_ne.mpr c36
                              exact absurd ((Option.some.inj H).trans hrT) (by decide)
                          · rw [if_neg c35] at H
                            have c35b0 : (t455 == 0) = false := beq_eq_false_iff_ne.mpr c35
                            have c35b1 : (t455 != 0) = true := bne_iff_ne.mpr c35
                            exact absurd ((Option.some.inj H).trans hrT) (by decide)
                        · rw [if_neg c32] at H
                          exact absurd H (by simp)
                      · rw [if_neg c31] at H
                        exact absurd H (by simp)
            · rw [if_neg c19] at H
              exact absurd H (by simp)
          · rw [if_neg c18] at H
            exact absurd H (by simp)

/-- THE ONE PURE STATEMENT of reedpipelaw08_BookRanks: yours. -/
def reedpipelaw08_BookRanks.Pure : Prop := ∀ (a0 : Int) (a1 : Int), (Lit.int .u8 a0).wf = true → (Lit.int .u16 a1).wf = true → ∃ k, reedpipelaw08_BookRanks.f k a0 a1 = some true
theorem reedpipelaw08_BookRanks.walk (P : reedpipelaw08_BookRanks.Pure) (a0 : Int) (a1 : Int) (w : World) (w0 : (Lit.int .u8 a0).wf = true) (w1 : (Lit.int .u16 a1).wf = true) :
    Calls Try.prog 7 #[.int .u8 a0, .int .u16 a1] w fun e w' => e = .returned (.bool true) ∧ Below w.heap.size w w' := by
  obtain ⟨k, h⟩ := P a0 a1 w0 w1
  refine (reedpipelaw08_BookRanks.calls k a0 a1 true w h rfl).mono ?_
  rintro e w' ⟨rfl, hd⟩
  exact ⟨rfl, hd⟩

end Go.Proofs.Ytoeiogefngcdiaa.P
