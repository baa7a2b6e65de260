/- slices.SortStableFunc over a row of numbers below 289, as the plain function stab sorts it: whatever comparison that reads. -/
import Derived.Test.YtchflniekbhohaaL0a0
import Derived.Test.YtchflniekbhohaaEngL
import Derived.Sort.WalkA
import Derived.Sort.WalkC
import Derived.Deep.LoopGhost
import Derived.Deep.QuietTactic
import Derived.BigQuiet
import Derived.BigRegion
import Derived.WalkKit
import Derived.Laws.BitsLemmas
import Derived.Outline

/- slices.SortStableFunc over a row of numbers below 289, as the plain function stab sorts it: whatever comparison that reads. -/
namespace Go.Proofs.Ytchflniekbhohaa.P
open Go.RowKit Go.Sort Go.Proofs.Ytchflniekbhohaa.Eng Go.Proofs.YtchflniekbhohaaW.PrintWords Go.Proofs.YtchflniekbhohaaW.PrintLast
set_option linter.unusedVariables false
set_option linter.unusedSimpArgs false

abbrev E289 := Fin 289
def encE (x : E289) : Value := .int .i64 (x.val : Int)

/-! ### The plain functions -/
def swapRange {α : Type} [Inhabited α] (a b : Nat) : Nat → Nat → Array α → Array α
 | 0, _, d => d
 | n + 1, i, d => swapRange a b n (i + 1) (swp d (a + i) (b + i))
def rotateF {α : Type} [Inhabited α] (m : Nat) : Nat → Nat → Nat → Array α → Array α
 | 0, _, _, d => d
 | f + 1, i, j, d => if i = j then swapRange (m - i) m i 0 d else if j < i then rotateF m f (i - j) j (swapRange (m - i) m j 0 d) else rotateF m f i (j - i) (swapRange (m - i) (m + j - i) i 0 d)
theorem size_swapRange {α : Type} [Inhabited α] (a b : Nat) : ∀ (n i : Nat) (d : Array α), (swapRange a b n i d).size = d.size
 | 0, _, _ => rfl
 | n + 1, i, d => by rw [swapRange, size_swapRange a b n, size_swp]

/-- The least h in [i, j) where p is false, by halves. -/
def bs (p : Nat → Bool) : Nat → Nat → Nat → Nat
 | 0, i, _ => i
 | f + 1, i, j => if i < j then (if p ((i + j) / 2) then bs p f ((i + j) / 2 + 1) j else bs p f i ((i + j) / 2)) else i
theorem bs_stop (p : Nat → Bool) (f i j : Nat) (h : ¬ i < j) : bs p f i j = i := by
 cases f with
 | zero => rfl
 | succ f => rw [bs, if_neg h]
theorem bs_bd (p : Nat → Bool) : ∀ (f i j : Nat), i ≤ j → i ≤ bs p f i j ∧ bs p f i j ≤ j
 | 0, i, j, h => ⟨Nat.le_refl _, h⟩
 | f + 1, i, j, h => by
  rw [bs]
  split
  ·split
   ·have := bs_bd p f ((i + j) / 2 + 1) j (by omega); omega
   ·have := bs_bd p f i ((i + j) / 2) (by omega); omega
  ·omega
def upS {α : Type} [Inhabited α] : Nat → Nat → Array α → Array α
 | 0, _, d => d
 | n + 1, k, d => upS n (k + 1) (swp d k (k + 1))
def downS {α : Type} [Inhabited α] : Nat → Nat → Array α → Array α
 | 0, _, d => d
 | n + 1, k, d => downS n (k - 1) (swp d k (k - 1))
def symTail {α : Type} [Inhabited α] (self : Nat → Nat → Nat → Array α → Array α) (a m b : Nat) (d : Array α) (start : Nat) : Array α :=
 let mid := (a + b) / 2
 let fin := mid + m - start
 let d1 := if start < m ∧ m < fin then rotateF m (fin - start) (m - start) (fin - m) d else d
 let d2 := if a < start ∧ start < mid then self a start mid d1 else d1
 if mid < fin ∧ fin < b then self mid fin b d2 else d2
def symMerge {α : Type} [Inhabited α] (lt : α → α → Bool) : Nat → Nat → Nat → Nat → Array α → Array α
 | 0, _, _, _, d => d
 | f + 1, a, m, b, d =>
  if m - a = 1 then upS (bs (fun h => lt d[h]! d[a]!) (b - m) m b - 1 - a) a d
  else if b - m = 1 then downS (m - bs (fun h => !lt d[m]! d[h]!) (m - a) a m) m d
  else symTail (symMerge lt f) a m b d (bs (fun c => !lt d[(a + b) / 2 + m - 1 - c]! d[c]!) (b - a) (if (a + b) / 2 < m then (a + b) / 2 + m - b else a) (if (a + b) / 2 < m then (a + b) / 2 else m))
/-! ### The worlds of the sort -/
def PW (w : World) (blk off : Nat) (d : Array E289) (m : Nat) : World := (putRow encE w blk off d).drewN m
theorem PW.get {w : World} {blk off : Nat} {d0 d : Array E289} (hH : Holds encE w blk off d0) (hs : d.size = d0.size) (m t : Nat) (ht : t < d.size) :
  (PW w blk off d m).cell? ⟨blk, off + t, none⟩ = some (encE d[t]!) ∧ (PW w blk off d m).frozen? ⟨blk, off + t, none⟩ = false :=
 holds_putRow encE w blk off d0 d hH hs t ht
theorem PW.drewN (w : World) (blk off : Nat) (d : Array E289) (m q : Nat) : (PW w blk off d m).drewN q = PW w blk off d (m + q) := by unfold PW; rw [World.drewN_drewN]
theorem PW.swap {w : World} {blk off : Nat} {d : Array E289} (m i j : Nat) (hi : i < d.size) (hj : j < d.size) :
  (((PW w blk off d m).setCell ⟨blk, off + i, none⟩ (encE d[j]!)).setCell ⟨blk, off + j, none⟩ (encE d[i]!)).drew = PW w blk off (swp d i j) (m + 1) := swap_worldC encE w blk off d m i j hi hj

set_option maxRecDepth 100000 in
set_option maxHeartbeats 2000000 in
theorem swapRange_calls (w : World) (blk off cap : Nat) (d0 : Array E289) (hH : Holds encE w blk off d0) (hsz : d0.size ≤ 289) (a b n : Nat) (f : Value) (d : Array E289) (hd : d.size = d0.size) (m : Nat) (ha : a + n ≤ d0.size) (hb : b + n ≤ d0.size) (hab : a ≠ b) :
  Calls Try.prog 100 #[.slice (some ⟨blk, off, none⟩) d0.size cap, .int .i64 a, .int .i64 b, .int .i64 n, f] (PW w blk off d m) fun e w' => e = .returned (.tuple #[]) ∧ ∃ m', w' = PW w blk off (swapRange a b n 0 d) m' := by
 have HH := Aside0.mk hH
 clear hH
 have HW : Hid (PW w blk off d m = PW w blk off d m) := rfl
 go_enter Try.func100, Try.ntmps100
 go_wp2
 go_loopw [10] (fun vi wr => ∃ (i q : Nat) (dk : Array E289), vi = .int .i64 i ∧ i ≤ n ∧ dk.size = d0.size ∧ wr = PW w blk off dk q ∧ Aside0 (swapRange a b (n - i) i dk = swapRange a b n 0 d)) (fun vi _ => n - (intOf vi).toNat)
 case atStart => exact ⟨0, m, d, by go_num, Nat.zero_le _, hd, rfl, ⟨rfl⟩⟩
 case round =>
  obtain ⟨i, q, dk, rfl, hin, hsk, hw, HI⟩ := hrel
  by_cases hlt : i < n
  ·obtain ⟨c1, f1⟩ := PW.get HH.out hsk q (a + i) (by omega)
   obtain ⟨c2, f2⟩ := PW.get HH.out hsk q (b + i) (by omega)
   rw [← hw] at c1 f1 c2 f2
   obtain ⟨x, hx⟩ : ∃ x, dk[a + i]! = x := ⟨_, rfl⟩
   obtain ⟨y, hy⟩ : ∃ y, dk[b + i]! = y := ⟨_, rfl⟩
   rw [hx] at c1
   rw [hy] at c2
   unfold encE at c1 c2
   have ai : (a : Int) + (i : Int) < (d0.size : Int) := by omega
   have bi : (b : Int) + (i : Int) < (d0.size : Int) := by omega
   have hz : (d0.size : Int) ≤ 289 := by omega
   have X := Aside0.mk hx
   have Y := Aside0.mk hy
   have HWR := Aside0.mk hw
   obtain ⟨p1, hp1⟩ : ∃ p1, p1 = a + i := ⟨_, rfl⟩
   obtain ⟨p2, hp2⟩ : ∃ p2, p2 = b + i := ⟨_, rfl⟩
   rw [← hp1] at c1 f1
   rw [← hp2] at c2 f2
   have e1 : ((a : Int) + (i : Int)).toNat = p1 := by omega
   have e2 : ((b : Int) + (i : Int)).toNat = p2 := by omega
   have n1 : 0 ≤ (a : Int) + (i : Int) := by omega
   have n2 : 0 ≤ (b : Int) + (i : Int) := by omega
   have hne : p1 ≠ p2 := by omega
   have hne2 : p2 ≠ p1 := by omega
   have P1 := Aside0.mk hp1
   have P2 := Aside0.mk hp2
   clear hx hy hw hp1 hp2
   go_wp2
   go_big_region
   all_goals go_wp2
   go_roundw
   case rel =>
    refine ⟨i + 1, q + 1, swp dk (a + i) (b + i), by go_num, by omega, by rw [size_swp]; exact hsk, ?_, ?_⟩
    ·rw [← PW.swap q (a + i) (b + i) (by omega) (by omega), X.out, Y.out, ← HWR.out, ← P1.out, ← P2.out]
     rfl
    ·refine ⟨?_⟩
     rw [← HI.out, show n - i = (n - (i + 1)) + 1 by omega, swapRange]
   case measure => simp [intOf]; omega
  ·obtain rfl : i = n := by omega
   have HWR := Aside0.mk hw
   clear hw
   go_wp2
   go_end0
   exact ⟨rfl, q, by rw [HWR.out, ← HI.out, Nat.sub_self, swapRange]⟩

theorem swapRange_at (w : World) (blk off cap : Nat) (d0 : Array E289) (hH : Holds encE w blk off d0) (hsz : d0.size ≤ 289) (A B N : Int) (a b n : Nat) (hA : A = a) (hB : B = b) (hN : N = n) (f : Value) (d : Array E289) (hd : d.size = d0.size) (m : Nat) (ha : a + n ≤ d0.size) (hb : b + n ≤ d0.size) (hab : a ≠ b) :
  Calls Try.prog 100 #[.slice (some ⟨blk, off, none⟩) d0.size cap, .int .i64 A, .int .i64 B, .int .i64 N, f] (PW w blk off d m) fun e w' => e = .returned (.tuple #[]) ∧ ∃ m', w' = PW w blk off (swapRange a b n 0 d) m' := by
 subst hA hB hN
 exact swapRange_calls w blk off cap d0 hH hsz a b n f d hd m ha hb hab

set_option maxRecDepth 100000 in
set_option maxHeartbeats 2000000 in
theorem rotate_at (w : World) (blk off cap : Nat) (d0 : Array E289) (hH : Holds encE w blk off d0) (hsz : d0.size ≤ 289) (a m b : Nat) (f : Value) (d : Array E289) (hd : d.size = d0.size) (q0 : Nat) (ham : a < m) (hmb : m < b) (hb : b ≤ d0.size) :
  Calls Try.prog 99 #[.slice (some ⟨blk, off, none⟩) d0.size cap, .int .i64 a, .int .i64 m, .int .i64 b, f] (PW w blk off d q0) fun e w' => e = .returned (.tuple #[]) ∧ ∃ q', w' = PW w blk off (rotateF m (b - a) (m - a) (b - m) d) q' := by
 have HH := Aside0.mk hH
 clear hH
 have z1 : (a : Int) < m := by omega
 have z2 : (m : Int) < b := by omega
 have z3 : (b : Int) ≤ 289 := by omega
 go_enter Try.func99, Try.ntmps99
 go_wp2
 go_loopw [10, 11] (fun vi vj wr => ∃ (i j f q : Nat) (dk : Array E289), vi = .int .i64 i ∧ vj = .int .i64 j ∧ 1 ≤ i ∧ 1 ≤ j ∧ i ≤ m ∧ m + j ≤ b ∧ i + j ≤ f ∧ dk.size = d0.size ∧ wr = PW w blk off dk q ∧ Aside0 (rotateF m f i j dk = rotateF m (b - a) (m - a) (b - m) d)) (fun vi vj _ => (intOf vi + intOf vj).toNat)
 case atStart => exact ⟨m - a, b - m, b - a, q0, d, by congr 1; omega, by congr 1; omega, by omega, by omega, by omega, by omega, by omega, hd, rfl, ⟨rfl⟩⟩
 case round =>
  obtain ⟨i, j, f, q, dk, rfl, rfl, hi1, hj1, him, hmj, hf, hsk, rfl, HI⟩ := hrel
  have y1 : (i : Int) ≤ m := by omega
  have y2 : (m : Int) + j ≤ b := by omega
  have y3 : (1 : Int) ≤ i := by omega
  have y4 : (1 : Int) ≤ j := by omega
  obtain ⟨f, rfl⟩ : ∃ g, f = g + 1 := ⟨f - 1, by omega⟩
  rcases Nat.lt_trichotomy i j with hij | hij | hij
  ·have hij1 : (i : Int) < j := by omega
   have b1 : ((i : Int) != (j : Int)) = true := bne_iff_ne.mpr (by omega)
   have b2 : decide ((j : Int) < (i : Int)) = false := decide_eq_false (by omega)
   rw [rotateF, if_neg (by omega), if_neg (by omega)] at HI
   go_wp2_with (go_at_call 100; refine (swapRange_at w blk off cap d0 HH.out hsz _ _ _ (m - i) (m + j - i) i (by omega) (by omega) (by omega) _ dk hsk q (by omega) (by omega) (by omega)).mono ?_; rintro e w1 ⟨rfl, q1, rfl⟩)
   go_roundw
   case rel => exact ⟨i, j - i, f, q1, _, rfl, by congr 1; omega, hi1, by omega, him, by omega, by omega, by rw [size_swapRange]; exact hsk, rfl, HI⟩
   case measure => simp [intOf]; omega
  ·subst hij
   have b1 : ((i : Int) != (i : Int)) = false := by simp
   rw [rotateF, if_pos rfl] at HI
   go_wp2_with (go_at_call 100; refine (swapRange_at w blk off cap d0 HH.out hsz _ _ _ (m - i) m i (by omega) (by omega) (by omega) _ dk hsk q (by omega) (by omega) (by omega)).mono ?_; rintro e w1 ⟨rfl, q1, rfl⟩)
   go_end0
   exact ⟨rfl, q1, by rw [HI.out]⟩
  ·have hij1 : (j : Int) < i := by omega
   have b1 : ((i : Int) != (j : Int)) = true := bne_iff_ne.mpr (by omega)
   rw [rotateF, if_neg (by omega), if_pos (by omega)] at HI
   go_wp2_with (go_at_call 100; refine (swapRange_at w blk off cap d0 HH.out hsz _ _ _ (m - i) m j (by omega) (by omega) (by omega) _ dk hsk q (by omega) (by omega) (by omega)).mono ?_; rintro e w1 ⟨rfl, q1, rfl⟩)
   go_roundw
   case rel => exact ⟨i - j, j, f, q1, _, by congr 1; omega, rfl, by omega, hj1, by omega, by omega, by omega, by rw [size_swapRange]; exact hsk, rfl, HI⟩
   case measure => simp [intOf]; omega

/-! ### The comparison -/
def ltF (cf : E289 → E289 → Int) (x y : E289) : Bool := decide (cf x y < 0)
/-- The comparison answers cf, in all worlds of the sort. -/
def CmpOk (w : World) (blk off n Z : Nat) (cf : E289 → E289 → Int) : Prop := ∀ (d : Array E289) (m : Nat), d.size = n → ∀ x y : E289,
 Calls Try.prog 56 #[.int .i64 (x.val : Int), .int .i64 (y.val : Int), .pointer (some ⟨Z, 0, none⟩)] (PW w blk off d m) fun e w' => e = .returned (.int .i64 (cf x y)) ∧ ∃ q, w' = (PW w blk off d m).drewN q

set_option maxRecDepth 100000 in
set_option maxHeartbeats 4000000 in
theorem sym1_at (w : World) (blk off cap Z : Nat) (cf : E289 → E289 → Int) (d0 : Array E289) (hH : Holds encE w blk off d0) (hC : CmpOk w blk off d0.size Z cf) (hsz : d0.size ≤ 289) (a m b : Nat) (d : Array E289) (hd : d.size = d0.size) (q0 : Nat) (ham : m = a + 1) (hmb : m < b) (hb : b ≤ d0.size) :
  Calls Try.prog 95 #[.slice (some ⟨blk, off, none⟩) d0.size cap, .int .i64 a, .int .i64 m, .int .i64 b, .func (.func 56) #[] #[.pointer (some ⟨Z, 0, none⟩)]] (PW w blk off d q0) fun e w' => e = .returned (.tuple #[]) ∧ ∃ q', w' = PW w blk off (upS (bs (fun h => ltF cf d[h]! d[a]!) (b - m) m b - 1 - a) a d) q' := by
 have HH := Aside0.mk hH
 have HC := Aside0.mk hC
 clear hH hC
 have z1 : (m : Int) - a = 1 := by omega
 have z2 : (m : Int) < b := by omega
 have z3 : (b : Int) ≤ 289 := by omega
 have HAM := Aside0.mk ham
 have ham2 : a < m := by omega
 clear ham
 go_enter Try.func95, Try.ntmps95
 go_wp2
 go_loopw [10, 11] (fun vi vj wr => ∃ (i j f q : Nat), vi = .int .i64 i ∧ vj = .int .i64 j ∧ m ≤ i ∧ i ≤ j ∧ j ≤ b ∧ j - i ≤ f ∧ wr = PW w blk off d q ∧ Aside0 (bs (fun h => ltF cf d[h]! d[a]!) f i j = bs (fun h => ltF cf d[h]! d[a]!) (b - m) m b)) (fun vi vj _ => (intOf vj - intOf vi).toNat)
 case atStart => exact ⟨m, b, b - m, q0, rfl, rfl, by omega, by omega, by omega, by omega, rfl, ⟨rfl⟩⟩
 case round =>
  obtain ⟨i, j, f, q, rfl, rfl, hi1, hij, hjb, hf, hw, HI⟩ := hrel
  by_cases hlt : i < j
  ·obtain ⟨f, rfl⟩ : ∃ g, f = g + 1 := ⟨f - 1, by omega⟩
   rw [bs, if_pos hlt] at HI
   obtain ⟨h, hh⟩ : ∃ h, h = (i + j) / 2 := ⟨_, rfl⟩
   rw [← hh] at HI
   obtain ⟨c1, f1⟩ := PW.get HH.out hd q h (by omega)
   obtain ⟨c2, f2⟩ := PW.get HH.out hd q a (by omega)
   obtain ⟨x, hx⟩ : ∃ x, d[h]! = x := ⟨_, rfl⟩
   obtain ⟨y, hy⟩ : ∃ y, d[a]! = y := ⟨_, rfl⟩
   have hc := fun n => by have := HC.out d (q + n) hd x y; rw [← PW.drewN] at this; exact this
   rw [hx] at c1
   rw [hy] at c2
   unfold encE at c1 c2
   rw [← hw] at c1 c2 f1 f2 hc
   have y1 : (i : Int) + j ≤ 578 := by omega
   have y2 : (0 : Int) ≤ (i : Int) + j := by omega
   have HHe := Aside0.mk hh
   have hij1 : (i : Int) < j := by omega
   have X := Aside0.mk hx
   have Y := Aside0.mk hy
   have HW := Aside0.mk hw
   clear hx hy hw hh
   have eh : ((i : Int) + (j : Int)) / 2 = (h : Int) := by have := HHe.out; omega
   have EH := Aside0.mk eh
   have h0 : (0 : Int) ≤ (h : Int) := by omega
   have h1 : (h : Int) < (d0.size : Int) := by have := HHe.out; omega
   have a1 : (a : Int) < (d0.size : Int) := by omega
   have hz : (d0.size : Int) ≤ 289 := by omega
   have hh1 : i ≤ h := by have := HHe.out; omega
   have hh2 : h < j := by have := HHe.out; omega
   have HH1 := Aside0.mk hh1
   have HH2 := Aside0.mk hh2
   clear eh hh1 hh2
   by_cases hlv : cf x y < 0
   ·have hp : Aside0 (ltF cf d[h]! d[a]! = true) := ⟨by rw [X.out, Y.out]; exact decide_eq_true hlv⟩
    go_wp2
    rw [EH.out]
    go_quiet ((go_at_call 56; exact Calls.quiet_of (hc _)))
    go_wp2
    go_roundw
    case rel => exact ⟨h + 1, j, f, q + nq, by go_num, rfl, by have := HH1.out; omega, by have := HH2.out; omega, by omega, by have := HH1.out; omega, by rw [HW.out, PW.drewN], ⟨by have h3 := HI.out; rw [if_pos hp.out] at h3; exact h3⟩⟩
    case measure => simp [intOf]; have := HH1.out; omega
   ·have hp : Aside0 (ltF cf d[h]! d[a]! = false) := ⟨by rw [X.out, Y.out]; exact decide_eq_false hlv⟩
    have hlv2 : decide (cf x y < 0) = false := decide_eq_false hlv
    go_wp2
    rw [EH.out]
    go_quiet ((go_at_call 56; exact Calls.quiet_of (hc _)))
    go_wp2
    go_roundw
    case rel => exact ⟨i, h, f, q + nq, rfl, rfl, hi1, by have := HH1.out; omega, by have := HH2.out; omega, by have := HH2.out; omega, by rw [HW.out, PW.drewN], ⟨by have h3 := HI.out; rw [if_neg (by rw [hp.out]; decide)] at h3; exact h3⟩⟩
    case measure => simp [intOf]; have := HH2.out; omega
  ·obtain rfl : i = j := by omega
   rw [bs_stop _ _ _ _ (by omega)] at HI
   have HJ := Aside0.mk HI.out
   have HW := Aside0.mk hw
   have i0 : 1 ≤ (i : Int) := by omega
   have iz : (i : Int) ≤ 289 := by omega
   have ia : a < i := by omega
   rw [← HJ.out]
   clear HI
   go_wp2
   go_loopw [13] (fun vk wr => ∃ (k q : Nat) (dk : Array E289), vk = .int .i64 k ∧ a ≤ k ∧ k + 1 ≤ i ∧ dk.size = d0.size ∧ wr = PW w blk off dk q ∧ Aside0 (upS (i - 1 - k) k dk = upS (i - 1 - a) a d)) (fun vk _ => i - (intOf vk).toNat)
   case atStart => exact ⟨a, q, d, rfl, Nat.le_refl _, by omega, hd, (by first | rfl | exact HW.out), ⟨rfl⟩⟩
   case round =>
    clear HW hw
    obtain ⟨k, q, dk, rfl, hak, hki, hsk, hw, HI⟩ := hrel
    by_cases hlt : k + 1 < i
    ·obtain ⟨c1, f1⟩ := PW.get HH.out hsk q k (by omega)
     obtain ⟨c2, f2⟩ := PW.get HH.out hsk q (k + 1) (by omega)
     rw [← hw] at c1 f1 c2 f2
     obtain ⟨x, hx⟩ : ∃ x, dk[k]! = x := ⟨_, rfl⟩
     obtain ⟨y, hy⟩ : ∃ y, dk[k + 1]! = y := ⟨_, rfl⟩
     rw [hx] at c1
     rw [hy] at c2
     unfold encE at c1 c2
     have ai : (k : Int) < (d0.size : Int) := by omega
     have bi : (k : Int) + 1 < (d0.size : Int) := by omega
     have hz : (d0.size : Int) ≤ 289 := by omega
     have hti : (k : Int) < (i : Int) - 1 := by omega
     obtain ⟨p2, hp2⟩ : ∃ p2, p2 = k + 1 := ⟨_, rfl⟩
     rw [← hp2] at c2 f2
     have e2 : ((k : Int) + 1).toNat = p2 := by omega
     have n1 : 0 ≤ (k : Int) := by omega
     have n2 : 0 ≤ (k : Int) + 1 := by omega
     have hne : k ≠ p2 := by omega
     have hne2 : p2 ≠ k := by omega
     have X := Aside0.mk hx
     have Y := Aside0.mk hy
     have HWR := Aside0.mk hw
     have P2 := Aside0.mk hp2
     clear hx hy hw hp2
     go_wp2
     go_big_region
     all_goals go_wp2
     go_roundw
     case rel =>
      refine ⟨k + 1, q + 1, swp dk k (k + 1), by go_num, by omega, by omega, by rw [size_swp]; exact hsk, ?_, ?_⟩
      ·rw [← PW.swap q k (k + 1) (by omega) (by omega), X.out, Y.out, ← HWR.out, ← P2.out]
       rfl
      ·refine ⟨?_⟩
       rw [← HI.out, show i - 1 - k = (i - 1 - (k + 1)) + 1 by omega, upS]
     case measure => simp [intOf]; omega
    ·have hk : i - 1 = k := by omega
     have HWR := Aside0.mk hw
     have HK := Aside0.mk hk
     have hti : ¬ (k : Int) < (i : Int) - 1 := by omega
     clear hw hk
     go_wp2
     refine bodyPost_ret (results_none rfl _ _ _) rfl ?_
     exact ⟨rfl, q, by rw [HWR.out, ← HJ.out, ← HI.out, HK.out, Nat.sub_self, upS]⟩

set_option maxRecDepth 100000 in
set_option maxHeartbeats 4000000 in
theorem sym2_at (w : World) (blk off cap Z : Nat) (cf : E289 → E289 → Int) (d0 : Array E289) (hH : Holds encE w blk off d0) (hC : CmpOk w blk off d0.size Z cf) (hsz : d0.size ≤ 289) (a m b : Nat) (d : Array E289) (hd : d.size = d0.size) (q0 : Nat) (ham : a + 1 < m) (hmb : b = m + 1) (hb : b ≤ d0.size) :
  Calls Try.prog 95 #[.slice (some ⟨blk, off, none⟩) d0.size cap, .int .i64 a, .int .i64 m, .int .i64 b, .func (.func 56) #[] #[.pointer (some ⟨Z, 0, none⟩)]] (PW w blk off d q0) fun e w' => e = .returned (.tuple #[]) ∧ ∃ q', w' = PW w blk off (downS (m - bs (fun h => !ltF cf d[m]! d[h]!) (m - a) a m) m d) q' := by
 have HH := Aside0.mk hH
 have HC := Aside0.mk hC
 clear hH hC
 have z0 : ((m : Int) - a == 1) = false := by simp; omega
 have z1 : (b : Int) - m = 1 := by omega
 have z2 : (a : Int) < m := by omega
 have z3 : (b : Int) ≤ 289 := by omega
 have z4 : (m : Int) < d0.size := by omega
 have HMB := Aside0.mk hmb
 have hmb2 : m < b := by omega
 clear hmb
 go_enter Try.func95, Try.ntmps95
 go_wp2
 go_loopw [14, 15] (fun vi vj wr => ∃ (i j f q : Nat), vi = .int .i64 i ∧ vj = .int .i64 j ∧ a ≤ i ∧ i ≤ j ∧ j ≤ m ∧ j - i ≤ f ∧ wr = PW w blk off d q ∧ Aside0 (bs (fun h => !ltF cf d[m]! d[h]!) f i j = bs (fun h => !ltF cf d[m]! d[h]!) (m - a) a m)) (fun vi vj _ => (intOf vj - intOf vi).toNat)
 case atStart => exact ⟨a, m, m - a, q0, rfl, rfl, by omega, by omega, by omega, by omega, rfl, ⟨rfl⟩⟩
 case round =>
  obtain ⟨i, j, f, q, rfl, rfl, hi1, hij, hjb, hf, hw, HI⟩ := hrel
  by_cases hlt : i < j
  ·obtain ⟨f, rfl⟩ : ∃ g, f = g + 1 := ⟨f - 1, by omega⟩
   rw [bs, if_pos hlt] at HI
   obtain ⟨h, hh⟩ : ∃ h, h = (i + j) / 2 := ⟨_, rfl⟩
   rw [← hh] at HI
   obtain ⟨c1, f1⟩ := PW.get HH.out hd q m (by omega)
   obtain ⟨c2, f2⟩ := PW.get HH.out hd q h (by omega)
   obtain ⟨x, hx⟩ : ∃ x, d[m]! = x := ⟨_, rfl⟩
   obtain ⟨y, hy⟩ : ∃ y, d[h]! = y := ⟨_, rfl⟩
   have hc := fun n => by have := HC.out d (q + n) hd x y; rw [← PW.drewN] at this; exact this
   rw [hx] at c1
   rw [hy] at c2
   unfold encE at c1 c2
   rw [← hw] at c1 c2 f1 f2 hc
   have y1 : (i : Int) + j ≤ 578 := by omega
   have y2 : (0 : Int) ≤ (i : Int) + j := by omega
   have HHe := Aside0.mk hh
   have hij1 : (i : Int) < j := by omega
   have X := Aside0.mk hx
   have Y := Aside0.mk hy
   have HW := Aside0.mk hw
   clear hx hy hw hh
   have eh : ((i : Int) + (j : Int)) / 2 = (h : Int) := by have := HHe.out; omega
   have EH := Aside0.mk eh
   have h0 : (0 : Int) ≤ (h : Int) := by omega
   have h1 : (h : Int) < (d0.size : Int) := by have := HHe.out; omega
   have hz : (d0.size : Int) ≤ 289 := by omega
   have hh1 : i ≤ h := by have := HHe.out; omega
   have hh2 : h < j := by have := HHe.out; omega
   have HH1 := Aside0.mk hh1
   have HH2 := Aside0.mk hh2
   clear eh hh1 hh2
   by_cases hlv : cf x y < 0
   ·have hp : Aside0 ((!ltF cf d[m]! d[h]!) = false) := ⟨by rw [X.out, Y.out]; unfold ltF; rw [decide_eq_true hlv]; rfl⟩
    go_wp2
    rw [EH.out]
    go_quiet ((go_at_call 56; exact Calls.quiet_of (hc _)))
    go_wp2
    go_roundw
    case rel => exact ⟨i, h, f, q + nq, rfl, rfl, hi1, by have := HH1.out; omega, by have := HH2.out; omega, by have := HH2.out; omega, by rw [HW.out, PW.drewN], ⟨by have h3 := HI.out; rw [if_neg (by rw [hp.out]; decide)] at h3; exact h3⟩⟩
    case measure => simp [intOf]; have := HH2.out; omega
   ·have hp : Aside0 ((!ltF cf d[m]! d[h]!) = true) := ⟨by rw [X.out, Y.out]; unfold ltF; rw [decide_eq_false hlv]; rfl⟩
    have hlv2 : decide (cf x y < 0) = false := decide_eq_false hlv
    go_wp2
    rw [EH.out]
    go_quiet ((go_at_call 56; exact Calls.quiet_of (hc _)))
    go_wp2
    go_roundw
    case rel => exact ⟨h + 1, j, f, q + nq, by go_num, rfl, by have := HH1.out; omega, by have := HH2.out; omega, by omega, by have := HH1.out; omega, by rw [HW.out, PW.drewN], ⟨by have h3 := HI.out; rw [if_pos hp.out] at h3; exact h3⟩⟩
    case measure => simp [intOf]; have := HH1.out; omega
  ·obtain rfl : i = j := by omega
   rw [bs_stop _ _ _ _ (by omega)] at HI
   have HJ := Aside0.mk HI.out
   have HW := Aside0.mk hw
   have iz : (i : Int) ≤ 289 := by omega
   rw [← HJ.out]
   clear HI
   go_wp2
   go_loopw [17] (fun vk wr => ∃ (k q : Nat) (dk : Array E289), vk = .int .i64 k ∧ i ≤ k ∧ k ≤ m ∧ dk.size = d0.size ∧ wr = PW w blk off dk q ∧ Aside0 (downS (k - i) k dk = downS (m - i) m d)) (fun vk _ => (intOf vk).toNat)
   case atStart => exact ⟨m, q, d, rfl, by omega, Nat.le_refl _, hd, (by first | rfl | exact HW.out), ⟨rfl⟩⟩
   case round =>
    clear HW hw
    obtain ⟨k, q, dk, rfl, hik, hkm, hsk, hw, HI⟩ := hrel
    by_cases hlt : i < k
    ·obtain ⟨kp, hkp⟩ : ∃ kp, k = kp + 1 := ⟨k - 1, by omega⟩
     subst hkp
     obtain ⟨c1, f1⟩ := PW.get HH.out hsk q (kp + 1) (by omega)
     obtain ⟨c2, f2⟩ := PW.get HH.out hsk q kp (by omega)
     rw [← hw] at c1 f1 c2 f2
     obtain ⟨x, hx⟩ : ∃ x, dk[kp + 1]! = x := ⟨_, rfl⟩
     obtain ⟨y, hy⟩ : ∃ y, dk[kp]! = y := ⟨_, rfl⟩
     rw [hx] at c1
     rw [hy] at c2
     unfold encE at c1 c2
     have hwp : IntKind.i64.wrap (kp : Int) = (kp : Int) := by rw [IntKind.wrap_i64]; omega
     have ai : (kp : Int) < (d0.size : Int) := by omega
     have bi : (kp : Int) + 1 < (d0.size : Int) := by omega
     have hz : (d0.size : Int) ≤ 289 := by omega
     have hti : (i : Int) < (kp : Int) + 1 := by omega
     obtain ⟨p2, hp2⟩ : ∃ p2, p2 = kp + 1 := ⟨_, rfl⟩
     rw [← hp2] at c1 f1
     have e2 : ((kp : Int) + 1).toNat = p2 := by omega
     have n1 : 0 ≤ (kp : Int) := by omega
     have n2 : 0 ≤ (kp : Int) + 1 := by omega
     have hne : kp ≠ p2 := by omega
     have hne2 : p2 ≠ kp := by omega
     have X := Aside0.mk hx
     have Y := Aside0.mk hy
     have HWR := Aside0.mk hw
     have P2 := Aside0.mk hp2
     clear hx hy hw hp2
     go_wp2
     go_big_region
     all_goals go_wp2
     go_roundw
     case rel =>
      refine ⟨kp, q + 1, swp dk (kp + 1) kp, by first | rfl | go_num | (congr 1; omega), by omega, by omega, by rw [size_swp]; exact hsk, ?_, ?_⟩
      ·rw [← PW.swap q (kp + 1) kp (by omega) (by omega), X.out, Y.out, ← HWR.out, ← P2.out]
       rfl
      ·refine ⟨?_⟩
       rw [← HI.out, show kp + 1 - i = (kp - i) + 1 by omega, downS, Nat.add_sub_cancel]
     case measure => simp [intOf]
    ·have hk : m - i = m - k ∧ k = i := by omega
     obtain ⟨-, rfl⟩ := hk
     have HWR := Aside0.mk hw
     clear hw
     go_wp2
     refine bodyPost_ret (results_none rfl _ _ _) rfl ?_
     exact ⟨rfl, q, by rw [HWR.out, ← HJ.out, ← HI.out, Nat.sub_self, downS]⟩

theorem size_rotateF {α : Type} [Inhabited α] (m : Nat) : ∀ (f i j : Nat) (d : Array α), (rotateF m f i j d).size = d.size
 | 0, _, _, _ => rfl
 | f + 1, i, j, d => by
  rw [rotateF]
  split
  ·rw [size_swapRange]
  ·split
   ·rw [size_rotateF m f, size_swapRange]
   ·rw [size_rotateF m f, size_swapRange]
theorem size_upS {α : Type} [Inhabited α] : ∀ (n k : Nat) (d : Array α), (upS n k d).size = d.size
 | 0, _, _ => rfl
 | n + 1, k, d => by rw [upS, size_upS n, size_swp]
theorem size_downS {α : Type} [Inhabited α] : ∀ (n k : Nat) (d : Array α), (downS n k d).size = d.size
 | 0, _, _ => rfl
 | n + 1, k, d => by rw [downS, size_downS n, size_swp]
theorem size_symMerge {α : Type} [Inhabited α] (lt : α → α → Bool) : ∀ (f a m b : Nat) (d : Array α), (symMerge lt f a m b d).size = d.size
 | 0, _, _, _, _ => rfl
 | f + 1, a, m, b, d => by
  have ih := size_symMerge lt f
  rw [symMerge]
  split
  ·rw [size_upS]
  ·split
   ·rw [size_downS]
   ·unfold symTail
    dsimp only
    repeat' split
    all_goals simp only [ih, size_rotateF]

theorem symTail_eq {α : Type} [Inhabited α] (self : Nat → Nat → Nat → Array α → Array α) (a m b : Nat) (d : Array α) (i mid fin : Nat) (h1 : mid = (a + b) / 2) (h2 : fin = mid + m - i) :
  symTail self a m b d i = if mid < fin ∧ fin < b then self mid fin b (if a < i ∧ i < mid then self a i mid (if i < m ∧ m < fin then rotateF m (fin - i) (m - i) (fin - m) d else d) else (if i < m ∧ m < fin then rotateF m (fin - i) (m - i) (fin - m) d else d)) else (if a < i ∧ i < mid then self a i mid (if i < m ∧ m < fin then rotateF m (fin - i) (m - i) (fin - m) d else d) else (if i < m ∧ m < fin then rotateF m (fin - i) (m - i) (fin - m) d else d)) := by
 subst h1 h2; rfl
/-- What symMerge asks of itself: the contract, up to a size. -/
def SymIH (w : World) (blk off cap Z : Nat) (cf : E289 → E289 → Int) (n f : Nat) : Prop := ∀ (a m b : Nat) (d : Array E289) (q0 : Nat) (A M B : Int), A = a → M = m → B = b → b - a ≤ f → a < m → m < b → b ≤ n → d.size = n →
 Calls Try.prog 95 #[.slice (some ⟨blk, off, none⟩) n cap, .int .i64 A, .int .i64 M, .int .i64 B, .func (.func 56) #[] #[.pointer (some ⟨Z, 0, none⟩)]] (PW w blk off d q0) fun e w' => e = .returned (.tuple #[]) ∧ ∃ q', w' = PW w blk off (symMerge (ltF cf) f a m b d) q'

set_option maxRecDepth 100000 in
set_option maxHeartbeats 4000000 in
theorem sym3_at (w : World) (blk off cap Z : Nat) (cf : E289 → E289 → Int) (d0 : Array E289) (hH : Holds encE w blk off d0) (hC : CmpOk w blk off d0.size Z cf) (hsz : d0.size ≤ 289) (f0 : Nat) (ih : SymIH w blk off cap Z cf d0.size f0) (a m b : Nat) (d : Array E289) (hd : d.size = d0.size) (q0 : Nat) (ham : a + 1 < m) (hmb : m + 1 < b) (hb : b ≤ d0.size) (hf0 : b - a ≤ f0 + 1)
  (mid s0 r0 : Nat) (hmid : mid = (a + b) / 2) (hs0 : s0 = if mid < m then mid + m - b else a) (hr0 : r0 = if mid < m then mid else m) :
  Calls Try.prog 95 #[.slice (some ⟨blk, off, none⟩) d0.size cap, .int .i64 a, .int .i64 m, .int .i64 b, .func (.func 56) #[] #[.pointer (some ⟨Z, 0, none⟩)]] (PW w blk off d q0) fun e w' => e = .returned (.tuple #[]) ∧ ∃ q', w' = PW w blk off (symTail (symMerge (ltF cf) f0) a m b d (bs (fun c => !ltF cf d[mid + m - 1 - c]! d[c]!) (b - a) s0 r0)) q' := by
 have HH := Aside0.mk hH
 have HC := Aside0.mk hC
 have IH := Aside0.mk ih
 clear hH hC ih
 have z0 : ((m : Int) - a == 1) = false := by simp; omega
 have z1 : ((b : Int) - m == 1) = false := by simp; omega
 have z2 : (a : Int) < m := by omega
 have z3 : (b : Int) ≤ 289 := by omega
 have z4 : (m : Int) < b := by omega
 have hmi : ((a : Int) + (b : Int)) / 2 = (mid : Int) := by omega
 have s1 : a ≤ s0 ∧ s0 ≤ r0 ∧ r0 ≤ mid ∧ r0 ≤ m ∧ mid + m ≤ s0 + b ∧ mid < b ∧ a < mid := by subst hs0 hr0; split <;> omega
 obtain ⟨s1, s2, s3, s4, s5, s6, s7⟩ := s1
 have y6 : (mid : Int) ≤ 289 := by omega
 have HMI := Aside0.mk hmi
 have HMD := Aside0.mk hmid
 clear hmi hmid
 go_enter Try.func95, Try.ntmps95
 go_upto_if 140 with (fail)
 rw [HMI.out]
 go_cut [18, 19, 20, 21] (fun v18 v19 v20 v21 wc => v18 = .int .i64 mid ∧ v19 = .int .i64 ((mid : Int) + m) ∧ v20 = .int .i64 s0 ∧ v21 = .int .i64 r0 ∧ wc = PW w blk off d q0)
 case first =>
  by_cases hc : mid < m
  ·have hc1 : decide ((mid : Int) < (m : Int)) = true := decide_eq_true (by omega)
   have hc2 : (mid : Int) < (m : Int) := by omega
   go_wp2
   go_meet
   case rel => exact ⟨rfl, rfl, by subst hs0; rw [if_pos hc]; have := HMD.out; congr 1; omega, by subst hr0; rw [if_pos hc], rfl⟩
  ·have hc1 : decide ((mid : Int) < (m : Int)) = false := decide_eq_false (by omega)
   go_wp2
   go_meet
   case rel => exact ⟨rfl, rfl, by subst hs0; rw [if_neg hc], by subst hr0; rw [if_neg hc], rfl⟩
 case rest =>
  clear hs0 hr0
  obtain ⟨rfl, rfl, rfl, rfl, rfl⟩ := hcut
  have w1 : (mid : Int) + m ≤ 578 := by omega
  have w2 : 1 ≤ (mid : Int) + m := by omega
  go_wp2
  go_loopw [20, 21] (fun vi vj wr => ∃ (i j f q : Nat), vi = .int .i64 i ∧ vj = .int .i64 j ∧ s0 ≤ i ∧ i ≤ j ∧ j ≤ r0 ∧ j - i ≤ f ∧ wr = PW w blk off d q ∧ Aside0 (bs (fun c => !ltF cf d[mid + m - 1 - c]! d[c]!) f i j = bs (fun c => !ltF cf d[mid + m - 1 - c]! d[c]!) (b - a) s0 r0)) (fun vi vj _ => (intOf vj - intOf vi).toNat)
  case atStart => exact ⟨s0, r0, b - a, q0, rfl, rfl, by omega, by omega, by omega, by omega, rfl, ⟨rfl⟩⟩
  case round =>
   obtain ⟨i, j, f, q, rfl, rfl, hi1, hij, hjb, hf, hw, HI⟩ := hrel
   by_cases hlt : i < j
   ·obtain ⟨f, rfl⟩ : ∃ g, f = g + 1 := ⟨f - 1, by omega⟩
    rw [bs, if_pos hlt] at HI
    obtain ⟨h, hh⟩ : ∃ h, h = (i + j) / 2 := ⟨_, rfl⟩
    rw [← hh] at HI
    have hh1 : i ≤ h := by omega
    have hh2 : h < j := by omega
    obtain ⟨pc, hpc⟩ : ∃ pc, pc = mid + m - 1 - h := ⟨_, rfl⟩
    rw [← hpc] at HI
    obtain ⟨c1, f1⟩ := PW.get HH.out hd q pc (by omega)
    obtain ⟨c2, f2⟩ := PW.get HH.out hd q h (by omega)
    obtain ⟨x, hx⟩ : ∃ x, d[pc]! = x := ⟨_, rfl⟩
    obtain ⟨y, hy⟩ : ∃ y, d[h]! = y := ⟨_, rfl⟩
    have hc := fun n => by have := HC.out d (q + n) hd x y; rw [← PW.drewN] at this; exact this
    rw [hx] at c1
    rw [hy] at c2
    unfold encE at c1 c2
    rw [← hw] at c1 c2 f1 f2 hc
    have y1 : (i : Int) + j ≤ 578 := by omega
    have y2 : (0 : Int) ≤ (i : Int) + j := by omega
    have HHe := Aside0.mk hh
    have hij1 : (i : Int) < j := by omega
    have eh : ((i : Int) + (j : Int)) / 2 = (h : Int) := by omega
    have EH := Aside0.mk eh
    have ep : (mid : Int) + m - 1 - h = (pc : Int) := by omega
    have EP := Aside0.mk ep
    have ep2 : IntKind.i64.wrap ((mid : Int) + m - 1 - h) = (pc : Int) := by rw [ep, IntKind.wrap_i64]; omega
    have h0 : (0 : Int) ≤ (h : Int) := by omega
    have h1 : (h : Int) < (d0.size : Int) := by omega
    have g0 : (0 : Int) ≤ (pc : Int) := by omega
    have g1 : (pc : Int) < (d0.size : Int) := by omega
    have hz : (d0.size : Int) ≤ 289 := by omega
    have X := Aside0.mk hx
    have Y := Aside0.mk hy
    have HW := Aside0.mk hw
    have HH1 := Aside0.mk hh1
    have HH2 := Aside0.mk hh2
    clear hx hy hw hh hpc eh ep hh1 hh2
    by_cases hlv : cf x y < 0
    ·have hp : Aside0 ((!ltF cf d[pc]! d[h]!) = false) := ⟨by rw [X.out, Y.out]; unfold ltF; rw [decide_eq_true hlv]; rfl⟩
     go_wp2
     rw [EH.out]
     go_quiet ((go_at_call 56; exact Calls.quiet_of (hc _)))
     go_wp2
     go_roundw
     case rel => exact ⟨i, h, f, q + nq, rfl, rfl, hi1, by have := HH1.out; omega, by have := HH2.out; omega, by have := HH2.out; omega, by rw [HW.out, PW.drewN], ⟨by have h3 := HI.out; rw [if_neg (by rw [hp.out]; decide)] at h3; exact h3⟩⟩
     case measure => simp [intOf]; have := HH2.out; omega
    ·have hp : Aside0 ((!ltF cf d[pc]! d[h]!) = true) := ⟨by rw [X.out, Y.out]; unfold ltF; rw [decide_eq_false hlv]; rfl⟩
     have hlv2 : decide (cf x y < 0) = false := decide_eq_false hlv
     go_wp2
     rw [EH.out]
     go_quiet ((go_at_call 56; exact Calls.quiet_of (hc _)))
     go_wp2
     go_roundw
     case rel => exact ⟨h + 1, j, f, q + nq, by go_num, rfl, by have := HH1.out; omega, by have := HH2.out; omega, by omega, by have := HH1.out; omega, by rw [HW.out, PW.drewN], ⟨by have h3 := HI.out; rw [if_pos hp.out] at h3; exact h3⟩⟩
     case measure => simp [intOf]; have := HH1.out; omega
   ·obtain rfl : i = j := by omega
    rw [bs_stop _ _ _ _ (by omega)] at HI
    have HJ := Aside0.mk HI.out
    have HW := Aside0.mk hw
    clear HI
    obtain ⟨fin, hfin⟩ : ∃ fin, fin = mid + m - i := ⟨_, rfl⟩
    have EF : Aside0 ((mid : Int) + m - i = (fin : Int)) := ⟨by omega⟩
    have fb : fin ≤ b := by omega
    have fm : m ≤ fin := by omega
    have fmi : mid ≤ fin := by omega
    have HFI := Aside0.mk hfin
    clear hfin HMI
    have v1 : 0 ≤ (mid : Int) + m - i := by omega
    go_upto_region 39 with (fail)
    rw [EF.out]
    have hsr : (rotateF m (fin - i) (m - i) (fin - m) d).size = d0.size := by rw [size_rotateF]; exact hd
    have hs1 : ∀ d' : Array E289, d'.size = d0.size → (symMerge (ltF cf) f0 a i mid d').size = d0.size := fun d' h => by rw [size_symMerge]; exact h
    have R1 : Aside0 (∀ (d' : Array E289) (q' : Nat), d'.size = d0.size → (i : Int) < m → (m : Int) < fin → Calls Try.prog 99 #[.slice (some ⟨blk, off, none⟩) d0.size cap, .int .i64 i, .int .i64 m, .int .i64 fin, .func (.func 56) #[] #[.pointer (some ⟨Z, 0, none⟩)]] (PW w blk off d' q') fun e w' => e = .returned (.tuple #[]) ∧ ∃ q2, w' = PW w blk off (rotateF m (fin - i) (m - i) (fin - m) d') q2) :=
     ⟨fun d' q' h k1 k2 => rotate_at w blk off cap d0 HH.out hsz i m fin _ d' h q' (by omega) (by omega) (by omega)⟩
    have S1 : Aside0 (∀ (d' : Array E289) (q' : Nat), d'.size = d0.size → (a : Int) < i → (i : Int) < mid → Calls Try.prog 95 #[.slice (some ⟨blk, off, none⟩) d0.size cap, .int .i64 a, .int .i64 i, .int .i64 mid, .func (.func 56) #[] #[.pointer (some ⟨Z, 0, none⟩)]] (PW w blk off d' q') fun e w' => e = .returned (.tuple #[]) ∧ ∃ q2, w' = PW w blk off (symMerge (ltF cf) f0 a i mid d') q2) :=
     ⟨fun d' q' h k1 k2 => IH.out a i mid d' q' _ _ _ rfl rfl rfl (by omega) (by omega) (by omega) (by omega) h⟩
    have S2 : Aside0 (∀ (d' : Array E289) (q' : Nat), d'.size = d0.size → (mid : Int) < fin → (fin : Int) < b → Calls Try.prog 95 #[.slice (some ⟨blk, off, none⟩) d0.size cap, .int .i64 mid, .int .i64 fin, .int .i64 b, .func (.func 56) #[] #[.pointer (some ⟨Z, 0, none⟩)]] (PW w blk off d' q') fun e w' => e = .returned (.tuple #[]) ∧ ∃ q2, w' = PW w blk off (symMerge (ltF cf) f0 mid fin b d') q2) :=
     ⟨fun d' q' h k1 k2 => IH.out mid fin b d' q' _ _ _ rfl rfl rfl (by omega) (by omega) (by omega) (by omega) h⟩
    by_cases c1 : (i : Int) < m <;> by_cases c2 : (i : Int) < mid <;> by_cases c3 : (a : Int) < i <;> by_cases c4 : (fin : Int) < b <;> by_cases c5 : (m : Int) < fin <;> by_cases c6 : (mid : Int) < fin <;> (try (exfalso; have := HFI.out; omega))
    all_goals
     go_wp2_with (first
      | (go_at_call 99; (with_reducible refine (R1.out _ _ hd c1 c5).mono ?_); rintro e w1 ⟨rfl, q1, rfl⟩)
      | (go_at_call 95; (with_reducible refine (S1.out _ _ (by first | exact hsr | exact hd) c3 c2).mono ?_); rintro e w2 ⟨rfl, q2, rfl⟩)
      | (go_at_call 95; (with_reducible refine (S2.out _ _ (by first | exact hsr | exact hd | exact hs1 _ hsr | exact hs1 _ hd) c6 c4).mono ?_); rintro e w3 ⟨rfl, q3, rfl⟩))
     go_end0
     refine ⟨rfl, ?_⟩
     rw [← HJ.out, symTail_eq _ a m b d i mid fin HMD.out HFI.out]
     (first | rw [if_pos (show i < m ∧ m < fin by omega)] | rw [if_neg (show ¬ (i < m ∧ m < fin) by omega)])
     (first | rw [if_pos (show a < i ∧ i < mid by omega)] | rw [if_neg (show ¬ (a < i ∧ i < mid) by omega)])
     (first | rw [if_pos (show mid < fin ∧ fin < b by omega)] | rw [if_neg (show ¬ (mid < fin ∧ fin < b) by omega)])
     first | exact ⟨_, rfl⟩ | exact ⟨_, hw⟩

theorem sym_at (w : World) (blk off cap Z : Nat) (cf : E289 → E289 → Int) (d0 : Array E289) (hH : Holds encE w blk off d0) (hC : CmpOk w blk off d0.size Z cf) (hsz : d0.size ≤ 289) : ∀ f, SymIH w blk off cap Z cf d0.size f
 | 0 => by intro a m b d q0 A M B _ _ _ h1 h2 h3; omega
 | f + 1 => by
  intro a m b d q0 A M B hA hM hB h1 h2 h3 h4 h5
  subst hA hM hB
  rw [symMerge]
  by_cases e1 : m - a = 1
  ·rw [if_pos e1]
   exact sym1_at w blk off cap Z cf d0 hH hC hsz a m b d h5 q0 (by omega) h3 h4
  ·rw [if_neg e1]
   by_cases e2 : b - m = 1
   ·rw [if_pos e2]
    exact sym2_at w blk off cap Z cf d0 hH hC hsz a m b d h5 q0 (by omega) (by omega) h4
   ·rw [if_neg e2]
    exact sym3_at w blk off cap Z cf d0 hH hC hsz f (sym_at w blk off cap Z cf d0 hH hC hsz f) a m b d h5 q0 (by omega) (by omega) h4 h1 _ _ _ rfl rfl rfl
end Go.Proofs.Ytchflniekbhohaa.P
