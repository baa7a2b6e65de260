-- PRINTED by print.py (a twelfth state) out of the translation. Not trusted: Lean checks it.
import Derived.Test.YtlnebmeccgohaaaPx0
import Derived.Test.YtlnebmeccgohaaaPxreedpiperef27Next
namespace Go.Proofs.Ytlnebmeccgohaaa.P
open Go.RowKit Go.Proofs.YtlnebmeccgohaaaW.PrintWords Go.Proofs.YtlnebmeccgohaaaW.PrintLast Go.Proofs.YtlnebmeccgohaaaW.PrintMore
attribute [local go_sem] max2_int min2_int max_two min_two max_three min_three max_four min_four   -- for this text's walks alone
set_option linter.unusedVariables false
set_option linter.unusedSimpArgs false

/-! ### reedpiperef27_Seq: function 7 -/
def reedpiperef27_Seq.f (k : Nat) (a0 : Int) (a1 : Bool) (a2 : Bool) : Option (Int × Int) := if a0 > 3 then (some (0, 2)) else ((reedpiperef27_Next.f k a0 a1 a2).bind fun t114 => (some (t114, 0)))
theorem reedpiperef27_Seq.mono : ∀ a0 a1 a2 k, LeO (reedpiperef27_Seq.f k a0 a1 a2) (reedpiperef27_Seq.f (k + 1) a0 a1 a2) := by
  intro a0 a1 a2 k
  unfold reedpiperef27_Seq.f
  repeat' first
      | (with_reducible exact reedpiperef27_Next.mono _ _ _ _)
      | (with_reducible exact LeO.refl _)
      | (with_reducible exact LeO.none _)
      | (with_reducible refine LeO.ite ?_ ?_)
      | (with_reducible refine LeO.bind ?_ (fun _ => ?_))
      | exact reedpiperef27_Next.mono _ _ _ _
      | exact LeO.none _
      | refine LeO.ite ?_ ?_
      | refine LeO.bind ?_ (fun _ => ?_)
set_option maxHeartbeats 8000000 in
set_option maxRecDepth 100000 in
theorem reedpiperef27_Seq.calls (k : Nat) (a0 : Int) (a1 : Bool) (a2 : Bool) (r1 : Int) (r2 : Int) (w : World) (h : reedpiperef27_Seq.f k a0 a1 a2 = some (r1, r2)) :
    Calls Try.prog 7 #[.int .u8 a0, .bool a1, .bool a2] w fun e w' => e = .returned (.tuple #[.int .u8 r1, .int .i64 r2]) ∧ Drawn0 w w' := by
  have H : (if a0 > 3 then (some (0, 2)) else ((reedpiperef27_Next.f k a0 a1 a2).bind fun t114 => (some (t114, 0)))) = some (r1, r2) := h
  clear h
  by_cases c4 : a0 > 3
  · rw [if_pos c4] at H
    have c4b0 : decide (3 < a0) = true := decide_eq_true c4
    clear c4
    simp only [Option.some.injEq, Prod.mk.injEq] at H
    obtain ⟨rfl, rfl⟩ := H
    go_enter Try.func7, Try.ntmps7
    go_wp2
    go_ret2
    exact ⟨by first | rfl | (simp; done) | (simp [*]; done), by repeat (first | exact Drawn0.refl _ | apply Drawn0.step)⟩
  · rw [if_neg c4] at H
    have c4b0 : decide (3 < a0) = false := decide_eq_false c4
    clear c4
    replace H := Option.bind_eq_some_iff.mp H
    obtain ⟨t114, A50, H⟩ := H
    replace H : (some (t114, 0)) = some (r1, r2) := H
    have A5 := Aside0.mk A50
    clear A50
    simp only [Option.some.injEq, Prod.mk.injEq] at H
    obtain ⟨rfl, rfl⟩ := H
    go_enter Try.func7, Try.ntmps7
    go_wp2_with (first | ((with_reducible refine gate_callee (f := 13) rfl ?_); refine goesL_ (some 13) rfl rfl Try.func13 (by kernel_rfl) rfl #[.int .u8 a0, .bool a1, .bool a2] rfl (by (try simp only [List.map_toArray, List.map_cons, List.map_nil]); first | done | rfl | (simp only [List.length_drop, List.length_take]; rfl)) ?_; (with_reducible refine (reedpiperef27_Next.calls k a0 a1 a2 t114 _ A5.out).mono ?_); rintro e w' ⟨rfl, ⟨nd, rfl⟩⟩; refine ⟨_, rfl, ?_⟩))
    go_ret2
    exact ⟨by first | rfl | (simp; done) | (simp [*]; done), by repeat (first | exact Drawn0.refl _ | apply Drawn0.step)⟩

end Go.Proofs.Ytlnebmeccgohaaa.P
