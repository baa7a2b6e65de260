/- The document's codes, what it reads: as the program. -/
import Derived.Test.YtchflniekbhohaaPCodeS
import Derived.Test.YtchflniekbhohaaPBitsRS
import Derived.Test.YtchflniekbhohaaS0a1
import Derived.Test.YtchflniekbhohaaS0a0

/- The document's codes, what it reads: as the program. -/
namespace Go.Proofs.Ytchflniekbhohaa.Pure
open Go.RowKit Go.Proofs.Ytchflniekbhohaa.P Go.Proofs.YtchflniekbhohaaW.PrintWords Go.Proofs.YtchflniekbhohaaW.PrintLast Go.Proofs.YtchflniekbhohaaW.PrintMore
set_option linter.unusedVariables false
set_option linter.unusedSimpArgs false

theorem rank_ref {m : Nat} {h pl w : Int} (hm : m ≤ 9) (h0 : 0 ≤ h) (h1 : h < 2 ^ m) (p0 : 0 ≤ pl) (p2 : pl ≤ 2) (w0 : 0 ≤ w) (w1 : w < 2 ^ pl.toNat) :
    wrap64 ((wrap64 ((wrap64 ((wrap64 (2 ^ m + h)) - 1)) * 2 ^ pl.toNat)) + w) = rankV m h pl w := by
  obtain ⟨a, b, c, d, e, f, g⟩ := rank_in hm h0 h1 p0 p2 w0 w1
  rw [w64 (x := 2 ^ m + h) (by omega) (by omega), w64 (x := 2 ^ m + h - 1) (by omega) (by omega), w64 (x := (2 ^ m + h - 1) * 2 ^ pl.toNat) (by omega) (by omega), w64 (by omega) (by omega)]
  rfl
theorem refRead_go {id : Int} (h1 : 1 ≤ id) (h2 : id ≤ 12) {l : List Int} (B : Byt l) (d : Nat) : ∀ (m : Nat) (p : Int), m + d = 10 →
    Ev (fun k => reedpiperef08_Found.l0 k l p (m : Int) id (plV id) (entL id) (rnkL id)) (readL id l d m p) := by
  obtain ⟨p0, p2⟩ := plain_in h1 h2
  induction d with
  | zero =>
    intro m p hm
    refine Ev.step (f := fun _ => some (0, 0, 8)) (fun k => ?_) (Ev.now _)
    simp only [reedpiperef08_Found.l0]; rw [if_pos (by omega)]
  | succ d ih =>
    intro m p hm
    obtain ⟨K1, e1⟩ := refBits_ev B p 1
    obtain ⟨K2, e2⟩ := ih (m + 1) (getV l p 1).2.1 (by omega)
    obtain ⟨K3, e3⟩ := refBits_ev B (getV l p 1).2.1 (m : Int)
    obtain ⟨K4, e4⟩ := refBits_ev B (getV l (getV l p 1).2.1 (m : Int)).2.1 (plV id)
    obtain ⟨K5, e5⟩ := two_ev m (by omega)
    obtain ⟨K6, e6⟩ := two_ev (plV id).toNat (by omega)
    rw [Int.toNat_of_nonneg p0] at e6
    dsimp only at e1 e2 e3 e4 e5 e6
    refine ⟨K1 + K2 + K3 + K4 + K5 + K6 + 1, fun k hk => ?_⟩
    obtain ⟨k, rfl⟩ : ∃ k', k = k' + 1 := ⟨k - 1, by omega⟩
    simp only [reedpiperef08_Found.l0]
    rw [if_neg (by omega), e1 k (by omega)]
    simp only [Option.bind_some, readL]
    by_cases g : (getV l p 1).2.2 = 0
    · rw [if_pos g, if_pos g]
      rcases get_one B g with g0 | g0
      · rw [if_neg (by omega), if_pos g0, w64 (by omega) (by omega)]; exact e2 k (by omega)
      · rw [if_pos g0, if_neg (by omega), e3 k (by omega)]
        simp only [Option.bind_some]
        unfold tailV
        by_cases g1 : (getV l (getV l p 1).2.1 (m : Int)).2.2 = 0
        · rw [if_pos g1, if_pos g1, e4 k (by omega)]
          simp only [Option.bind_some]
          by_cases g2 : (getV l (getV l (getV l p 1).2.1 (m : Int)).2.1 (plV id)).2.2 = 0
          · have o1 := getV_ok B (getV_eta g1)
            have o2 := getV_ok B (getV_eta g2)
            rw [Int.toNat_natCast] at o1
            have gg := (rank_in (by omega : m ≤ 9) o1.2.2.2.2.2.2.1 o1.2.2.2.2.2.2.2 p0 p2 o2.2.2.2.2.2.2.1 o2.2.2.2.2.2.2.2).2.2.2.2.2.2
            rw [if_pos g2, if_pos g2, e5 k (by omega)]
            simp only [Option.bind_some]
            rw [e6 k (by omega)]
            simp only [Option.bind_some]
            rw [rank_ref (by omega : m ≤ 9) o1.2.2.2.2.2.2.1 o1.2.2.2.2.2.2.2 p0 p2 o2.2.2.2.2.2.2.1 o2.2.2.2.2.2.2.2]
            by_cases g3 : rankV m (getV l (getV l p 1).2.1 (m : Int)).1 (plV id) (getV l (getV l (getV l p 1).2.1 (m : Int)).2.1 (plV id)).1 ≥ ((entL id).length : Int)
            · rw [if_pos g3, if_pos g3]
            · rw [if_neg g3, if_neg g3, if_pos gg, if_pos (by omega)]
          · rw [if_neg g2, if_neg g2]
        · rw [if_neg g1, if_neg g1]
    · rw [if_neg g, if_neg g]
theorem found_ev {id : Int} (h1 : 1 ≤ id) (h2 : id ≤ 12) {l : List Int} (B : Byt l) (p : Int) : Ev (fun k => reedpiperef08_Found.f k id (plV id) (entL id) (rnkL id) l p) (readL id l 10 0 p) := by
  by_cases g : 0 ≤ p ∧ p ≤ (l.length : Int)
  · refine Ev.congr (f := fun k => reedpiperef08_Found.j0 k l p false id (plV id) (entL id) (rnkL id)) (fun k => ?_) (Ev.step (fun k => ?_) (refRead_go h1 h2 B 10 0 p rfl))
    · unfold reedpiperef08_Found.f; rw [if_neg (by omega), decide_eq_false (by omega)]
    · simp only [reedpiperef08_Found.j0]; rw [if_neg (by decide)]; rfl
  · refine Ev.congr (f := fun k => reedpiperef08_Found.j0 k l p true id (plV id) (entL id) (rnkL id)) (fun k => ?_) (Ev.step (f := fun _ => some (0, 0, 2)) (fun k => ?_) ?_)
    · unfold reedpiperef08_Found.f
      by_cases g2 : p < 0
      · rw [if_pos g2]
      · rw [if_neg g2, decide_eq_true (by omega)]
    · simp only [reedpiperef08_Found.j0]; rw [if_pos trivial]
    · have : getV l p 1 = (0, 0, 2) := by unfold getV; rw [if_neg (by omega)]
      simp only [readL, this]
      exact Ev.now _
def refCodeOk (id : Int) : Bool := (List.range (manyV id).toNat).all fun e => decide (reedpiperef08_Bits.f 40 (rd (rnkL id) (e : Int)) (plV id) = some (codeL id e))
end Go.Proofs.Ytchflniekbhohaa.Pure
