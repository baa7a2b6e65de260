/- slices.SortStableFunc over a row of numbers below 289: insertion sort, and the whole, as the plain function stab sorts it. -/
import Derived.Test.YtchflniekbhohaaHSortL

/- slices.SortStableFunc over a row of numbers below 289: insertion sort, and the whole, as the plain function stab sorts it. -/
namespace Go.Proofs.Ytchflniekbhohaa.P
open Go.RowKit Go.Sort Go.Proofs.Ytchflniekbhohaa.Eng Go.Proofs.YtchflniekbhohaaW.PrintWords Go.Proofs.YtchflniekbhohaaW.PrintLast
set_option linter.unusedVariables false
set_option linter.unusedSimpArgs false

def insS {α : Type} [Inhabited α] (lt : α → α → Bool) (a : Nat) : Nat → Nat → Array α → Array α
 | 0, _, d => d
 | n + 1, i, d => insS lt a n (i + 1) (insInner lt a i d)
theorem size_insInner {α : Type} [Inhabited α] (lt : α → α → Bool) (a : Nat) : ∀ (j : Nat) (d : Array α), (insInner lt a j d).size = d.size
 | 0, _ => rfl
 | j + 1, d => by
  rw [insInner]
  split
  ·rw [size_insInner lt a j, size_swp]
  ·rfl
theorem size_insS {α : Type} [Inhabited α] (lt : α → α → Bool) (a : Nat) : ∀ (n i : Nat) (d : Array α), (insS lt a n i d).size = d.size
 | 0, _, _ => rfl
 | n + 1, i, d => by rw [insS, size_insS lt a n, size_insInner]

set_option maxRecDepth 100000 in
set_option maxHeartbeats 4000000 in
theorem ins_at (w : World) (blk off cap Z : Nat) (cf : E289 → E289 → Int) (d0 : Array E289) (hH : Holds encE w blk off d0) (hC : CmpOk w blk off d0.size Z cf) (hsz : d0.size ≤ 289) (a b : Nat) (d : Array E289) (hd : d.size = d0.size) (q0 : Nat) (hab : a ≤ b) (hb : b ≤ d0.size) :
  Calls Try.prog 94 #[.slice (some ⟨blk, off, none⟩) d0.size cap, .int .i64 a, .int .i64 b, .func (.func 56) #[] #[.pointer (some ⟨Z, 0, none⟩)]] (PW w blk off d q0) fun e w' => e = .returned (.tuple #[]) ∧ ∃ q', w' = PW w blk off (insS (ltF cf) a (b - (a + 1)) (a + 1) d) q' := by
 have HH := Aside0.mk hH
 have HC := Aside0.mk hC
 clear hH hC
 have z3 : (b : Int) ≤ 289 := by omega
 have z4 : (a : Int) ≤ b := by omega
 go_enter Try.func94, Try.ntmps94
 go_wp2
 go_loopg [8] (b - a) (fun g1 vi wr => ∃ (i q : Nat) (dk : Array E289), vi = .int .i64 i ∧ a < i ∧ i ≤ b + 1 ∧ b + 1 - i ≤ g1 + 1 ∧ dk.size = d0.size ∧ wr = PW w blk off dk q ∧ Aside0 (insS (ltF cf) a (b - i) i dk = insS (ltF cf) a (b - (a + 1)) (a + 1) d))
 case atStart => exact ⟨a + 1, q0, d, by go_num, by omega, by omega, by omega, hd, rfl, ⟨rfl⟩⟩
 case round =>
  obtain ⟨i, q, dk, rfl, hai, hib, hg1, hsk, rfl, HO⟩ := hrel
  by_cases hlt : i < b
  ·have hlti : (i : Int) < (b : Int) := by omega
   rw [show b - i = (b - (i + 1)) + 1 by omega, insS] at HO
   go_wp2
   go_loopg [9] i (fun g2 vj wr2 => ∃ (j m : Nat) (dj : Array E289), vj = .int .i64 j ∧ a ≤ j ∧ j ≤ i ∧ j ≤ g2 ∧ dj.size = d0.size ∧ wr2 = PW w blk off dj m ∧ Aside0 (insInner (ltF cf) a j dj = insInner (ltF cf) a i dk))
   case atStart => exact ⟨i, q, dk, rfl, by omega, Nat.le_refl _, Nat.le_refl _, hsk, rfl, ⟨rfl⟩⟩
   case round =>
    obtain ⟨j, m, dj, rfl, haj, hji, hg2, hsj, hw, HI⟩ := hrel
    have OUT : Aside0 ((j ≤ a ∨ ltF cf dj[j]! dj[j - 1]! = false) → insS (ltF cf) a (b - (i + 1)) (i + 1) dj = insS (ltF cf) a (b - (a + 1)) (a + 1) d) := ⟨fun hs => by
     rw [← HO.out, ← HI.out, insInner_stop _ _ _ _ hs]⟩
    by_cases hja : a < j
    ·obtain ⟨jp, rfl⟩ : ∃ jp, j = jp + 1 := ⟨j - 1, by omega⟩
     obtain ⟨cj, fj⟩ := PW.get HH.out hsj m (jp + 1) (by omega)
     obtain ⟨cp, fp⟩ := PW.get HH.out hsj m jp (by omega)
     obtain ⟨x, hx⟩ : ∃ x, dj[jp + 1]! = x := ⟨_, rfl⟩
     obtain ⟨y, hy⟩ : ∃ y, dj[jp]! = y := ⟨_, rfl⟩
     have hc := fun n => by have := HC.out dj (m + n) hsj x y; rw [← PW.drewN] at this; exact this
     rw [hx] at cj
     rw [hy] at cp
     unfold encE at cj cp
     rw [← hw] at cj cp fj fp hc
     have hwp : IntKind.i64.wrap (jp : Int) = (jp : Int) := by rw [IntKind.wrap_i64]; omega
     have jz : (jp : Int) + 1 < (d0.size : Int) := by omega
     have jz1 : (jp : Int) < (d0.size : Int) := by omega
     have hz : (d0.size : Int) ≤ 289 := by omega
     have hjaz : (a : Int) < (jp : Int) + 1 := by omega
     have p0 : (0 : Int) ≤ (jp : Int) + 1 := by omega
     have e0 : ((jp : Int) + 1).toNat = jp + 1 := by omega
     have X := Aside0.mk hx
     have Y := Aside0.mk hy
     have HW := Aside0.mk hw
     clear hx hy hw
     by_cases hlv : cf x y < 0
     ·go_wp2_with fail
      go_quiet ((go_at_call 56; exact Calls.quiet_of (hc _)))
      go_wp2_with fail
      have cj2 : (wr.drewN nq).cell? ⟨blk, off + (jp + 1), none⟩ = some (.int .i64 (x.val : Int)) := cj
      have cp2 : (wr.drewN nq).cell? ⟨blk, off + jp, none⟩ = some (.int .i64 (y.val : Int)) := cp
      have fj2 : (wr.drewN nq).frozen? ⟨blk, off + (jp + 1), none⟩ = false := fj
      have fp2 : (wr.drewN nq).frozen? ⟨blk, off + jp, none⟩ = false := fp
      clear cj cp fj fp hc
      obtain ⟨wq2, hw2⟩ : ∃ wq2, wr.drewN nq = wq2 := ⟨_, rfl⟩
      rw [hw2] at cj2 cp2 fj2 fp2 ⊢
      have HW2 : Aside0 (wq2 = PW w blk off dj (m + nq)) := ⟨by rw [← hw2, HW.out, PW.drewN]⟩
      obtain ⟨j1, hj1⟩ : ∃ j1, j1 = jp + 1 := ⟨_, rfl⟩
      rw [← hj1] at cj2 fj2 e0
      have hne : jp ≠ j1 := by omega
      have hne2 : j1 ≠ jp := by omega
      have J1 := Aside0.mk hj1
      clear hj1 hw2
      go_big_region
      all_goals go_wp2
      go_roundg jp
      case measure => omega
      case rel =>
       refine ⟨jp, m + nq + 1, swp dj (jp + 1) jp, by first | rfl | go_num | (congr 1; omega), by omega, by omega, Nat.le_refl _, by rw [size_swp]; exact hsj, ?_, ⟨?_⟩⟩
       ·rw [← PW.swap (m + nq) (jp + 1) jp (by omega) (by omega), X.out, Y.out, ← HW2.out, ← J1.out]
        rfl
       ·have := insInner_go (ltF cf) a (jp + 1) dj hja (by simp only [Nat.add_sub_cancel]; rw [X.out, Y.out]; exact decide_eq_true hlv)
        simp only [Nat.add_sub_cancel] at this
        rw [← HI.out, this]
     ·have hlv2 : decide (cf x y < 0) = false := decide_eq_false hlv
      go_wp2_with fail
      go_quiet ((go_at_call 56; exact Calls.quiet_of (hc _)))
      go_wp2
      go_roundg (b - (i + 1))
      case measure => omega
      case rel => exact ⟨i + 1, _, dj, by go_num, by omega, by omega, by omega, hsj, by rw [HW.out, PW.drewN], ⟨OUT.out (Or.inr (by simp only [Nat.add_sub_cancel]; rw [X.out, Y.out]; exact decide_eq_false (by omega)))⟩⟩
    ·have hjaz : decide ((j : Int) > (a : Int)) = false := decide_eq_false (by omega)
     have hjaz' : ¬ (a : Int) < (j : Int) := by omega
     have HW := Aside0.mk hw
     clear hw
     go_wp2_with fail
     go_big_region
     all_goals go_wp2
     go_roundg (b - (i + 1))
     case measure => omega
     case rel => exact ⟨i + 1, m + 1, dj, by go_num, by omega, by omega, by omega, hsj, by rw [HW.out]; rfl, ⟨OUT.out (Or.inl (by omega))⟩⟩
  ·have hltz : ¬ (i : Int) < (b : Int) := by omega
   rw [show b - i = 0 by omega, insS] at HO
   go_wp2
   go_end0
   exact ⟨rfl, q, by rw [HO.out]⟩

section
variable {α : Type} [Inhabited α] (lt : α → α → Bool)
def insA (d : Array α) (a b : Nat) : Array α := insS lt a (b - (a + 1)) (a + 1) d
def blocksS (n : Nat) : Nat → Nat → Nat → Array α → Array α
 | 0, _, _, d => d
 | f + 1, a, b, d => if b ≤ n then blocksS n f b (b + 20) (insA lt d a b) else insA lt d a n
def mergesS (bz n : Nat) : Nat → Nat → Nat → Array α → Array α
 | 0, _, _, d => d
 | f + 1, a, b, d => if b ≤ n then mergesS bz n f b (b + 2 * bz) (symMerge lt 289 a (a + bz) b d) else if a + bz < n then symMerge lt 289 a (a + bz) n d else d
def levelsS (n : Nat) : Nat → Nat → Array α → Array α
 | 0, _, d => d
 | f + 1, bz, d => if bz < n then levelsS n f (bz * 2) (mergesS lt bz n 10 0 (2 * bz) d) else d
/-- slices.SortStableFunc. -/
def stab (n : Nat) (d : Array α) : Array α := levelsS lt n 10 20 (blocksS lt n 20 0 20 d)
theorem size_insA (d : Array α) (a b : Nat) : (insA lt d a b).size = d.size := size_insS lt _ _ _ _
theorem size_blocksS (n : Nat) : ∀ (f a b : Nat) (d : Array α), (blocksS lt n f a b d).size = d.size
 | 0, _, _, _ => rfl
 | f + 1, a, b, d => by
  rw [blocksS]
  split
  ·rw [size_blocksS n f, size_insA]
  ·rw [size_insA]
theorem size_mergesS (bz n : Nat) : ∀ (f a b : Nat) (d : Array α), (mergesS lt bz n f a b d).size = d.size
 | 0, _, _, _ => rfl
 | f + 1, a, b, d => by
  rw [mergesS]
  split
  ·rw [size_mergesS bz n f, size_symMerge]
  ·split
   ·rw [size_symMerge]
   ·rfl
theorem size_levelsS (n : Nat) : ∀ (f bz : Nat) (d : Array α), (levelsS lt n f bz d).size = d.size
 | 0, _, _ => rfl
 | f + 1, bz, d => by
  rw [levelsS]
  split
  ·rw [size_levelsS n f, size_mergesS]
  ·rfl
theorem size_stab (n : Nat) (d : Array α) : (stab lt n d).size = d.size := by unfold stab; rw [size_levelsS, size_blocksS]
end

set_option maxRecDepth 100000 in
set_option maxHeartbeats 4000000 in
theorem stable_at (w : World) (blk off cap Z : Nat) (cf : E289 → E289 → Int) (d0 : Array E289) (hH : Holds encE w blk off d0) (hC : CmpOk w blk off d0.size Z cf) (hsz : d0.size ≤ 289) (n : Nat) (hn : n = d0.size) (d : Array E289) (hd : d.size = d0.size) (q0 : Nat) :
  Calls Try.prog 83 #[.slice (some ⟨blk, off, none⟩) d0.size cap, .int .i64 n, .func (.func 56) #[] #[.pointer (some ⟨Z, 0, none⟩)]] (PW w blk off d q0) fun e w' => e = .returned (.tuple #[]) ∧ ∃ q', w' = PW w blk off (stab (ltF cf) n d) q' := by
 have INS := Aside0.mk (fun (a b : Nat) (d' : Array E289) (h : d'.size = d0.size) (q' : Nat) (h1 : a ≤ b) (h2 : b ≤ d0.size) => ins_at w blk off cap Z cf d0 hH hC hsz a b d' h q' h1 h2)
 have SYM := Aside0.mk (sym_at w blk off cap Z cf d0 hH hC hsz 289)
 clear hH hC
 have z3 : (n : Int) ≤ 289 := by omega
 have hn' : n ≤ d0.size := by omega
 have hn2 : n ≤ 289 := by omega
 clear hn
 go_enter Try.func83, Try.ntmps83
 go_wp2
 go_loopg [7, 8] n (fun g va vb wr => ∃ (a b f q : Nat) (dk : Array E289), va = .int .i64 a ∧ vb = .int .i64 b ∧ b = a + 20 ∧ a ≤ n ∧ n - a ≤ g ∧ n < a + 20 * f ∧ dk.size = d0.size ∧ wr = PW w blk off dk q ∧ Aside0 (blocksS (ltF cf) n f a b dk = blocksS (ltF cf) n 20 0 20 d))
 case atStart => exact ⟨0, 20, 20, q0, d, rfl, rfl, rfl, by omega, by omega, by omega, hd, rfl, ⟨rfl⟩⟩
 case round =>
  obtain ⟨a, b, f, q, dk, rfl, rfl, hb, han, hg, hf, hsk, rfl, HI⟩ := hrel
  obtain ⟨f, rfl⟩ : ∃ f', f = f' + 1 := ⟨f - 1, by omega⟩
  by_cases hbn : b ≤ n
  ·have hb1 : (b : Int) ≤ n := by omega
   have HB := Aside0.mk hb
   clear hb
   rw [blocksS, if_pos hbn] at HI
   go_wp2_with (go_at_call 94; refine (INS.out a b dk hsk q (by have := HB.out; omega) (by omega)).mono ?_; rintro e w1 ⟨rfl, q1, rfl⟩)
   go_roundg (n - b)
   case measure => have := HB.out; omega
   case rel => exact ⟨b, b + 20, f, q1, _, rfl, by go_num, rfl, hbn, Nat.le_refl _, by have := HB.out; omega, by rw [size_insS]; exact hsk, rfl, HI⟩
  ·have hb1 : ¬ (b : Int) ≤ n := by omega
   rw [blocksS, if_neg hbn] at HI
   clear hb
   go_wp2_with (go_at_call 94; refine (INS.out a n dk hsk q han hn').mono ?_; rintro e w1 ⟨rfl, q1, rfl⟩)
   have hs1 : (insA (ltF cf) dk a n).size = d0.size := by rw [size_insA]; exact hsk
   have EI : Aside0 (insS (ltF cf) a (n - (a + 1)) (a + 1) dk = insA (ltF cf) dk a n) := ⟨rfl⟩
   have HS : Aside0 (stab (ltF cf) n d = levelsS (ltF cf) n 10 20 (insA (ltF cf) dk a n)) := ⟨by rw [HI.out]; rfl⟩
   rw [EI.out]
   generalize insA (ltF cf) dk a n = d1 at hs1 HS ⊢
   clear HI EI INS
   go_loopg [6, 7, 8, 9] n (fun g vz va vb vm wr => ∃ (bz f q : Nat) (dk : Array E289), vz = .int .i64 bz ∧ 20 ≤ bz ∧ bz ≤ 640 ∧ n - bz ≤ g ∧ n ≤ bz * 2 ^ f ∧ dk.size = d0.size ∧ wr = PW w blk off dk q ∧ Aside0 (levelsS (ltF cf) n f bz dk = stab (ltF cf) n d))
   case atStart => exact ⟨20, 10, q1, d1, rfl, by omega, by omega, by omega, by omega, hs1, rfl, ⟨HS.out.symm⟩⟩
   case round =>
    clear HS hs1
    obtain ⟨bz, f, q, dk, rfl, hz1, hz2, hg, hf, hsk, rfl, HI⟩ := hrel
    by_cases hbn : bz < n
    ·have hb1 : (bz : Int) < n := by omega
     obtain ⟨f, rfl⟩ : ∃ f', f = f' + 1 := by
      cases f with
      | zero => simp at hf; omega
      | succ f => exact ⟨f, rfl⟩
     have HF : Aside0 (n ≤ bz * 2 * 2 ^ f) := ⟨by rw [Nat.mul_assoc, show 2 * 2 ^ f = 2 ^ (f + 1) by rw [Nat.pow_succ, Nat.mul_comm]]; exact hf⟩
     clear hf
     rw [levelsS, if_pos hbn] at HI
     have hbz : (bz : Int) ≤ 289 := by omega
     have hbz20 : (20 : Int) ≤ bz := by omega
     go_wp2
     go_loopg [7, 8] n (fun g2 va vb wr => ∃ (a b f2 q : Nat) (dj : Array E289), va = .int .i64 a ∧ vb = .int .i64 b ∧ Aside0 (b = a + 2 * bz) ∧ a ≤ n ∧ n - a ≤ g2 ∧ n < a + 40 * f2 ∧ dj.size = d0.size ∧ wr = PW w blk off dj q ∧ Aside0 (mergesS (ltF cf) bz n f2 a b dj = mergesS (ltF cf) bz n 10 0 (2 * bz) dk))
     case atStart => exact ⟨0, 2 * bz, 10, q, dk, rfl, by go_num, ⟨by omega⟩, by omega, by omega, by omega, hsk, rfl, ⟨rfl⟩⟩
     case round =>
      obtain ⟨a, b, f2, q2, dj, rfl, rfl, HB, han, hg2, hf2, hsj, rfl, HJ⟩ := hrel
      obtain ⟨f2, rfl⟩ : ∃ f', f2 = f' + 1 := ⟨f2 - 1, by omega⟩
      have a289 : (a : Int) ≤ 289 := by omega
      by_cases hbl : b ≤ n
      ·have hb2 : (b : Int) ≤ n := by omega
       rw [mergesS, if_pos hbl] at HJ
       go_wp2_with (go_at_call 95; refine (SYM.out a (a + bz) b dj q2 _ _ _ rfl (by omega) rfl (by have := HB.out; omega) (by omega) (by have := HB.out; omega) (by omega) hsj).mono ?_; rintro e w1 ⟨rfl, q3, rfl⟩)
       go_roundg (n - b)
       case measure => have := HB.out; omega
       case rel => exact ⟨b, b + 2 * bz, f2, q3, _, rfl, by go_num, ⟨rfl⟩, hbl, Nat.le_refl _, by have := HB.out; omega, by rw [size_symMerge]; exact hsj, rfl, HJ⟩
      ·have hb2 : ¬ (b : Int) ≤ n := by omega
       rw [mergesS, if_neg hbl] at HJ
       by_cases hm : a + bz < n
       ·have hm2 : (a : Int) + bz < n := by omega
        rw [if_pos hm] at HJ
        go_wp2_with (go_at_call 95; refine (SYM.out a (a + bz) n dj q2 _ _ _ rfl (by omega) rfl (by omega) (by omega) (by omega) hn' hsj).mono ?_; rintro e w1 ⟨rfl, q3, rfl⟩)
        go_roundg (n - bz * 2)
        case measure => omega
        case rel => exact ⟨bz * 2, f, q3, _, by go_num, by omega, by omega, Nat.le_refl _, HF.out, by rw [size_symMerge]; exact hsj, rfl, ⟨by rw [HJ.out]; exact HI.out⟩⟩
       ·have hm2 : ¬ (a : Int) + bz < n := by omega
        rw [if_neg hm] at HJ
        go_wp2
        go_roundg (n - bz * 2)
        case measure => omega
        case rel => exact ⟨bz * 2, f, q2, dj, by go_num, by omega, by omega, Nat.le_refl _, HF.out, hsj, rfl, ⟨by rw [HJ.out]; exact HI.out⟩⟩
    ·have hb1 : ¬ (bz : Int) < n := by omega
     have HE : Aside0 (stab (ltF cf) n d = dk) := ⟨by
      rw [← HI.out]
      cases f with
      | zero => rfl
      | succ f => rw [levelsS, if_neg hbn]⟩
     go_wp2
     go_end0
     exact ⟨rfl, q, by rw [HE.out]⟩

set_option maxHeartbeats 1000000 in
/-- slices.SortStableFunc: the row is sorted as stab says. -/
theorem sort_at (w : World) (blk off cap Z : Nat) (cf : E289 → E289 → Int) (d : Array E289) (hH : Holds encE w blk off d) (hC : CmpOk w blk off d.size Z cf) (hsz : d.size ≤ 289) :
  Calls Try.prog 55 #[.slice (some ⟨blk, off, none⟩) d.size cap, .func (.func 56) #[] #[.pointer (some ⟨Z, 0, none⟩)]] w fun e w' => e = .returned (.tuple #[]) ∧ ∃ q', w' = PW w blk off (stab (ltF cf) d.size d) q' := by
 have ST := stable_at w blk off cap Z cf d hH hC hsz d.size rfl d rfl 0
 have e0 : PW w blk off d 0 = w := by unfold PW; exact putRow_self encE w blk off d hH
 rw [e0] at ST
 have S := Aside0.mk ST
 clear ST hH hC e0
 go_enter Try.func55, Try.ntmps55
 go_wp2_with (go_at_call 83; refine S.out.mono ?_; rintro e w1 ⟨rfl, q1, rfl⟩)
 go_end0
 exact ⟨rfl, q1, rfl⟩
end Go.Proofs.Ytchflniekbhohaa.P
