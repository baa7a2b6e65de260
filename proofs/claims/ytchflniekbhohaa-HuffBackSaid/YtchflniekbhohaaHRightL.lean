/- book.right answers whether a book is the one of its number, as the plain function rightV says, for every book that is read. -/
import Derived.Test.YtchflniekbhohaaL0a0
import Derived.Test.YtchflniekbhohaaEngL
import Derived.Test.YtchflniekbhohaaHOfL
import Derived.Test.YtchflniekbhohaaHSizesL
import Derived.Deep.RegionHeld3
import Derived.Outline

/- book.right answers whether a book is the one of its number, as the plain function rightV says, for every book that is read. -/
namespace Go.Proofs.Ytchflniekbhohaa.P
open Go.RowKit Go.Proofs.Ytchflniekbhohaa.Eng Go.Proofs.YtchflniekbhohaaW.PrintWords Go.Proofs.YtchflniekbhohaaW.PrintLast
set_option linter.unusedVariables false
set_option linter.unusedSimpArgs false

/-- How many entries a kind has. -/
def manyV (id : Int) : Int :=
 if id < 1 then 0 else if id > 12 then 0 else if id ≤ 6 then 81 else if id ≤ 8 then 64 else if id ≤ 10 then 169 else if id = 11 then 289 else 121
/-- The sizes of a book's entries. -/
def szV (id : Int) : List Int := szAt (kindV id).1.toNat (kindV id).2.1 (kindV id).2.2.1 (manyV id).toNat
def okAt (id : Int) (E R : List Int) (j : Nat) : Bool :=
 decide (0 ≤ rd E j) && decide (rd E j < R.length) && decide (rd R (rd E j) = j) &&
  (decide (j = 0) || (!decide (rd (szV id) (rd E (j - 1 : Int)) > rd (szV id) (rd E j)) && !(decide (rd (szV id) (rd E (j - 1 : Int)) = rd (szV id) (rd E j)) && decide (rd E (j - 1 : Int) > rd E j))))
/-- Is a book the one of its number? -/
def rightV (id plain : Int) (E R : List Int) : Bool :=
 decide (1 ≤ id) && decide (id ≤ 12) && decide (plain = (kindV id).2.2.2.1) && decide ((E.length : Int) = manyV id) && decide ((R.length : Int) = manyV id) && (List.range E.length).all (okAt id E R)
def book_right.f (a0_0 : Int) (a0_1 : Int) (l0_2 : List Int) (l0_3 : List Int) : Option (Bool) := some (rightV a0_0 a0_1 l0_2 l0_3)

theorem kind_cases {id : Int} (h1 : 1 ≤ id) (h2 : id ≤ 12) : id = 1 ∨ id = 2 ∨ id = 3 ∨ id = 4 ∨ id = 5 ∨ id = 6 ∨ id = 7 ∨ id = 8 ∨ id = 9 ∨ id = 10 ∨ id = 11 ∨ id = 12 := by omega
theorem many_f {id : Int} (h1 : 1 ≤ id) (h2 : id ≤ 12) : book_kind_many.f 6 (kindV id).1 (kindV id).2.1 (kindV id).2.2.1 (kindV id).2.2.2.1 = some (manyV id) := by
 rcases kind_cases h1 h2 with rfl | rfl | rfl | rfl | rfl | rfl | rfl | rfl | rfl | rfl | rfl | rfl <;> kernel_rfl
theorem kind_ok {id : Int} (h1 : 1 ≤ id) (h2 : id ≤ 12) : KindOk (kindV id).1.toNat (kindV id).2.1 (kindV id).2.2.1 (manyV id).toNat ∧ ((kindV id).1.toNat : Int) = (kindV id).1 ∧ ((manyV id).toNat : Int) = manyV id ∧ (kindV id).2.2.2.2 = 0 ∧ 0 ≤ manyV id := by
 rcases kind_cases h1 h2 with rfl | rfl | rfl | rfl | rfl | rfl | rfl | rfl | rfl | rfl | rfl | rfl <;> exact ⟨⟨by decide, by decide, by decide, by decide, by decide, by decide, by decide⟩, rfl, rfl, rfl, by decide⟩

theorem kind_odd {id : Int} (g : ¬ (1 ≤ id ∧ id ≤ 12)) : kindV id = (0, 0, 0, 0, 2) := by
 unfold kindV
 by_cases h : id < 1
 ·rw [if_pos h]
 ·rw [if_neg h, if_pos (by omega)]
theorem right_bad {id plain : Int} {E R : List Int} (j : Nat) (hj : j < E.length) (h : okAt id E R j = false) : rightV id plain E R = false := by
 have : (List.range E.length).all (okAt id E R) = false := List.all_eq_false.2 ⟨j, List.mem_range.2 hj, by simp [h]⟩
 unfold rightV; rw [this, Bool.and_false]
theorem right_good {id plain : Int} {E R : List Int} (h1 : 1 ≤ id) (h2 : id ≤ 12) (h3 : plain = (kindV id).2.2.2.1) (h4 : (E.length : Int) = manyV id) (h5 : (R.length : Int) = manyV id) (h : ∀ j : Nat, j < E.length → okAt id E R j = true) : rightV id plain E R = true := by
 have : (List.range E.length).all (okAt id E R) = true := List.all_eq_true.2 fun j hj => h j (List.mem_range.1 hj)
 unfold rightV; rw [this]; simp [h1, h2, ← h3, h4, h5]
/-- What right's walk keeps: its book's block, its kind's, the caller's. -/
def RI (w : World) (CB : Array Value) (K : Nat) (ks : List Int) (W : World) : Prop := ORow W w.heap.size 25 CB ∧ IRow W K 88 .i64 ks ∧ Below w.heap.size w W
theorem RI.drew {w : World} {CB : Array Value} {K : Nat} {ks : List Int} {W : World} (h : RI w CB K ks W) : RI w CB K ks W.drew := ⟨h.1.drewN 1, h.2.1.drew, below_drewN' h.2.2 1⟩
theorem RI.drewN {w : World} {CB : Array Value} {K : Nat} {ks : List Int} {W : World} (h : RI w CB K ks W) (n : Nat) : RI w CB K ks (W.drewN n) := ⟨h.1.drewN n, h.2.1.drewN n, below_drewN' h.2.2 n⟩
theorem RI.below {w : World} {CB : Array Value} {K : Nat} {ks : List Int} {W W' : World} (h : RI w CB K ks W) (hd : Below W.heap.size W W') : RI w CB K ks W' := ⟨h.1.below hd h.1.lt, h.2.1.below hd h.2.1.lt, below_then h.2.2 h.2.2.size hd⟩
def RS (w : World) (a0 a1 : Int) (A0_2 : Option Addr) (n2 c2 : Nat) (A0_3 : Option Addr) (n3 c3 : Nat) (K : Nat) (k1 k2 k3 k4 : Int) (W : World) : Prop :=
 W.cell? ⟨w.heap.size, 0, none⟩ = some (.int .i64 a0) ∧ W.cell? ⟨w.heap.size, 1, none⟩ = some (.int .i64 a1) ∧ W.cell? ⟨w.heap.size, 2, none⟩ = some (.slice A0_2 n2 c2) ∧ W.cell? ⟨w.heap.size, 3, none⟩ = some (.slice A0_3 n3 c3) ∧
 W.cell? ⟨K, 0, none⟩ = some (.int .i64 k1) ∧ W.cell? ⟨K, 1, none⟩ = some (.int .i64 k2) ∧ W.cell? ⟨K, 2, none⟩ = some (.int .i64 k3) ∧ W.cell? ⟨K, 3, none⟩ = some (.int .i64 k4)
theorem RI.cells {w : World} {a0 a1 : Int} {A0_2 : Option Addr} {n2 c2 : Nat} {A0_3 : Option Addr} {n3 c3 : Nat} {K : Nat} {k1 k2 k3 k4 : Int} {W : World}
  (h : RI w #[.int .i64 a0, .int .i64 a1, .slice A0_2 n2 c2, .slice A0_3 n3 c3] K [k1, k2, k3, k4] W) : RS w a0 a1 A0_2 n2 c2 A0_3 n3 c3 K k1 k2 k3 k4 W := by
 obtain ⟨q0, q1, q2, q3, _⟩ := h.2.1.four
 exact ⟨h.1.cell 0 _ (by simp), h.1.cell 1 _ (by simp), h.1.cell 2 _ (by simp), h.1.cell 3 _ (by simp), q0, q1, q2, q3⟩

theorem RI.made {w : World} {CB : Array Value} {K : Nat} {ks : List Int} {W : World} (h : RI w CB K ks W) (o : Obj) (cs : Array Value) : RI w CB K ks ((W.alloc o).setRow W.heap.size cs) := by
 have hK : K < W.heap.size := h.2.1.lt
 have hw : w.heap.size < W.heap.size := h.1.lt
 refine ⟨(h.1.alloc o).setRow_other (by omega) cs, ?_, below_setRow (h.2.2.alloc (by omega) _) (by omega) _⟩
 exact (Go.setRow_other _ _ _ cs (by omega)).trans (h.2.1.alloc o)
theorem sz_size (l : List Int) (h : l.length = 289) : (nums .u8 l).toArray.size = 289 := by simp [nums, h]
theorem sz_info (l : List Int) (h : l.length = 289) : (Try.prog.info? 91).map (·.size) = some (nums .u8 l).toArray.size := by rw [sz_size l h]; kernel_rfl
theorem sz_old (l : List Int) (h : l.length = 289) : Z289.size = (nums .u8 l).toArray.size := by rw [sz_size l h]; kernel_rfl
theorem sz_one (l : List Int) : (nums .u8 l).toArray.all (·.oneCell') = true := by
 rw [List.all_toArray]
 refine List.all_eq_true.2 fun v hv => ?_
 obtain ⟨x, _, rfl⟩ := List.mem_map.1 hv
 rfl
theorem RI_S {w : World} {a0 a1 : Int} {A0_2 : Option Addr} {n2 c2 : Nat} {A0_3 : Option Addr} {n3 c3 : Nat} {K : Nat} {k1 k2 k3 k4 : Int} {W : World}
  (h : RI w #[.int .i64 a0, .int .i64 a1, .slice A0_2 n2 c2, .slice A0_3 n3 c3] K [k1, k2, k3, k4] W) : 
 W.cell? ⟨w.heap.size, 0, none⟩ = some (.int .i64 a0) ∧ W.cell? ⟨w.heap.size, 1, none⟩ = some (.int .i64 a1) ∧ W.cell? ⟨w.heap.size, 2, none⟩ = some (.slice A0_2 n2 c2) ∧ W.cell? ⟨w.heap.size, 3, none⟩ = some (.slice A0_3 n3 c3) ∧
 W.cell? ⟨K, 0, none⟩ = some (.int .i64 k1) ∧ W.cell? ⟨K, 1, none⟩ = some (.int .i64 k2) ∧ W.cell? ⟨K, 2, none⟩ = some (.int .i64 k3) ∧ W.cell? ⟨K, 3, none⟩ = some (.int .i64 k4) ∧ RI w #[.int .i64 a0, .int .i64 a1, .slice A0_2 n2 c2, .slice A0_3 n3 c3] K [k1, k2, k3, k4] W := by
 obtain ⟨h1, h2, h3, h4, h5, h6, h7, h8⟩ := h.cells
 exact ⟨h1, h2, h3, h4, h5, h6, h7, h8, h⟩

theorem sizes_list (dim many : Nat) (low high plain : Int) (w : World) (ok : KindOk dim low high many) (hm : ∃ k, book_kind_many.f k dim low high plain = some (many : Int)) :
  Calls Try.prog 54 #[.agg #[.int .i64 dim, .int .i64 low, .int .i64 high, .int .i64 plain]] w fun e w' => ∃ S : List Int, Aside0 (S = szAt dim low high many) ∧ S.length = 289 ∧ e = .returned (.agg (nums .u8 S).toArray) ∧ Below w.heap.size w w' :=
 (sizes_walk dim many low high plain w ok hm).mono fun e w' h => ⟨_, ⟨rfl⟩, szAt_length .., h.1, h.2⟩

set_option maxRecDepth 100000 in
set_option maxHeartbeats 2000000 in
theorem book_right.calls (a0_0 : Int) (a0_1 : Int) (A0_2 : Option Addr) (c0_2 : Nat) (l0_2 : List Int) (A0_3 : Option Addr) (c0_3 : Nat) (l0_3 : List Int) (r : Bool) (w : World) (hr0_2 : Kd.C (Kd.int .i64) w A0_2 l0_2.length l0_2) (hc0_2 : l0_2.length ≤ c0_2) (hr0_3 : Kd.C (Kd.int .i64) w A0_3 l0_3.length l0_3) (hc0_3 : l0_3.length ≤ c0_3) (h : book_right.f a0_0 a0_1 l0_2 l0_3 = some r) :
  Calls Try.prog 59 #[.agg #[.int .i64 a0_0, .int .i64 a0_1, .slice A0_2 l0_2.length c0_2, .slice A0_3 l0_3.length c0_3]] w fun e w' => e = .returned (.bool r) ∧ Below w.heap.size w w' := by
 have hr : r = rightV a0_0 a0_1 l0_2 l0_3 := by injection h with h; exact h.symm
 obtain ⟨k1, k2, k3, k4, k5, hk⟩ : ∃ k1 k2 k3 k4 k5, kindV a0_0 = (k1, k2, k3, k4, k5) := ⟨_, _, _, _, _, rfl⟩
 have hk5 : (k5 = 0 ∧ 1 ≤ a0_0 ∧ a0_0 ≤ 12) ∨ (k5 = 2 ∧ ¬ (1 ≤ a0_0 ∧ a0_0 ≤ 12)) := by
  by_cases g : 1 ≤ a0_0 ∧ a0_0 ≤ 12
  ·left
   have := (kind_ok g.1 g.2).2.2.2.1
   rw [hk] at this
   exact ⟨this, g⟩
  ·right
   refine ⟨?_, g⟩
   rw [kind_odd g] at hk
   cases hk; rfl
 have HK := Aside0.mk hk
 have HR := Aside0.mk hr
 have HE := Aside0.mk hr0_2
 have HQ := Aside0.mk hr0_3
 clear h hr hk hr0_2 hr0_3
 go_enter Try.func59, Try.ntmps59
 go_wp2_with (go_at_call 52; refine (book_of.calls a0_0 k1 k2 k3 k4 k5 _ (by show some (kindV a0_0) = _; rw [HK.out])).mono ?_; rintro e w1 ⟨rfl, hd1⟩)
 have ri : RI w #[.int .i64 a0_0, .int .i64 a0_1, .slice A0_2 l0_2.length c0_2, .slice A0_3 l0_3.length c0_3] w1.heap.size [k1, k2, k3, k4] (w1.alloc (.cells #[.int .i64 k1, .int .i64 k2, .int .i64 k3, .int .i64 k4] 88)) :=
  ⟨((ORow.new w 25 _).below hd1 (by simp)).alloc _, IRow.new w1 88 .i64 [k1, k2, k3, k4], ((below_then ((Below.refl _ w).alloc (Nat.le_refl _) _) (by simp) hd1).alloc (by have := hd1.size; simp at this; omega) _)⟩
 have hKs : w.heap.size < w1.heap.size := by have := hd1.size; simp at this; omega
 clear hd1
 generalize w1.alloc (.cells #[.int .i64 k1, .int .i64 k2, .int .i64 k3, .int .i64 k4] 88) = w2 at ri ⊢
 generalize w1.heap.size = K at ri hKs ⊢
 obtain ⟨c0, c1, c2, c3, q0, q1, q2, q3⟩ := ri.cells
 have hB := Aside0.mk ri.2.2
 rcases hk5 with ⟨rfl, g1, g2⟩ | ⟨rfl, g⟩
 ·obtain ⟨ok, hd, hm, _, hm0⟩ := kind_ok g1 g2
  have hmf := many_f g1 g2
  rw [HK.out] at ok hd hmf
  dsimp only at ok hd hmf
  by_cases e1 : a0_1 = k4
  ·subst e1
   generalize hdim : k1.toNat = dim at ok hd
   obtain rfl : k1 = dim := hd.symm
   generalize hM : manyV a0_0 = M at *
   generalize M.toNat = many at ok hm
   obtain rfl : M = many := hm.symm
   have HM := Aside0.mk hmf
   have OK := Aside0.mk ok
   clear hmf ok hd hm hm0
   by_cases e2 : (l0_2.length : Int) = many
   ·by_cases e3 : (l0_3.length : Int) = many
    ·go_region_held3 (fun W => W.cell? ⟨w.heap.size, 0, none⟩ = some (.int .i64 a0_0) ∧ W.cell? ⟨w.heap.size, 1, none⟩ = some (.int .i64 a0_1) ∧ W.cell? ⟨w.heap.size, 2, none⟩ = some (.slice A0_2 l0_2.length c0_2) ∧ W.cell? ⟨w.heap.size, 3, none⟩ = some (.slice A0_3 l0_3.length c0_3) ∧
  W.cell? ⟨K, 0, none⟩ = some (.int .i64 (dim : Int)) ∧ W.cell? ⟨K, 1, none⟩ = some (.int .i64 k2) ∧ W.cell? ⟨K, 2, none⟩ = some (.int .i64 k3) ∧ W.cell? ⟨K, 3, none⟩ = some (.int .i64 a0_1) ∧ RI w #[.int .i64 a0_0, .int .i64 a0_1, .slice A0_2 l0_2.length c0_2, .slice A0_3 l0_3.length c0_3] K [(dim : Int), k2, k3, a0_1] W)
    (first | assumption | exact RI_S (RI.drew (by assumption)) | exact RI_S (RI.below (by go_split_ands; assumption) (by assumption)))
    (first | (go_at_call 53; refine (book_kind_many.calls 6 _ _ _ _ _ _ HM.out).mono ?_; rintro e w4 ⟨rfl, hd4⟩))
     all_goals (
      rename_i hHeld
      obtain ⟨c0, c1, c2, c3, q0, q1, q2, q3, ri⟩ := hHeld
      clear hd4
      have H3 : w.heap.size < w4.heap.size := ri.1.lt
      go_wp2_with (first | (go_at_call 54; refine (sizes_list dim many k2 k3 a0_1 _ OK.out ⟨6, HM.out⟩).mono ?_; rintro e w5 ⟨S, HS, hSl, rfl, hd5⟩; have HL := Aside0.mk hSl; have RI5 := Aside0.mk (ri.below hd5); obtain ⟨c06, c16, c26, c36, _⟩ := (RI5.out.made (.cells Z289 91) (nums .u8 S).toArray).cells; clear hd5 ri hSl) | refine wpList_alloc_at rfl 91 rfl _ zeros_run ?_ | refine wpList_store_row rfl 91 _ _ rfl w5.heap.size (nums .u8 S).toArray (by rfl) (by rfl) 91 Z289 (World.alloc_heap_new w5 _) (sz_info _ HL.out) (sz_old _ HL.out) (sz_one _) ?_)
      have sz : IRow ((w5.alloc (.cells Z289 91)).setRow w5.heap.size (nums .u8 S).toArray) w5.heap.size 91 .u8 S := Go.setRow_heap _ _ _ _ _ (0, 0) (World.alloc_heap_new w5 _)
      have ri6 := RI5.out.made (.cells Z289 91) (nums .u8 S).toArray
      have HSZ : Aside0 (szV a0_0 = S) := ⟨by unfold szV; rw [HK.out, hM, HS.out]; simp only [Int.toNat_natCast]⟩
      clear c06 c16 c26 c36 c0 c1 c2 c3 q0 q1 q2 q3 hB H3 RI5
      generalize (w5.alloc (.cells Z289 91)).setRow w5.heap.size (nums .u8 S).toArray = w6 at sz ri6 ⊢
      generalize w5.heap.size = Z at sz ⊢
      have RI6 := Aside0.mk ri6
      clear ri6
      have SZ6 := Aside0.mk sz
      clear sz
      go_loopw [45] (fun i W => ∃ j : Nat, j ≤ l0_2.length ∧ i = .int .i64 j ∧ RI w #[.int .i64 a0_0, .int .i64 a0_1, .slice A0_2 l0_2.length c0_2, .slice A0_3 l0_3.length c0_3] K [(dim : Int), k2, k3, a0_1] W ∧ IRow W Z 91 .u8 S ∧ (∀ q : Nat, q < j → okAt a0_0 l0_2 l0_3 q = true)) (fun i _ => l0_2.length - (intOf i).toNat)
      case atStart => exact ⟨0, by omega, rfl, RI6.out, SZ6.out, fun q hq => by omega⟩
      case round =>
       clear RI6 SZ6
       obtain ⟨j, hj, rfl, ri, sz, hok⟩ := hrel
       have RIo := Aside0.mk ri
       have SZ := Aside0.mk sz
       have HOK := Aside0.mk hok
       obtain ⟨c0, c1, c2, c3, _⟩ := ri.cells
       clear ri sz hok
       by_cases hlt : j < l0_2.length
       ·have hlti : (j : Int) < (l0_2.length : Int) := by omega
        have hj0 : (0 : Int) ≤ (j : Int) := by omega
        obtain ⟨ad, eA, hx⟩ := Kd.at_int (Kd.C_below HE.out RIo.out.2.2) (j : Int) hj0 hlti
        cases eA
        rw [Int.toNat_natCast] at hx
        generalize hn : rd l0_2 (j : Int) = n at hx
        by_cases n0 : n < 0
        ·have n0b : decide (n < 0) = true := decide_eq_true n0
         have hr2 : r = false := by
          rw [HR.out]
          refine right_bad _ hlt ?_
          unfold okAt; simp only [hn]; simp [show ¬ 0 ≤ n by omega]
         subst hr2
         go_wp2
         exact bodyPost_ret (v := .bool false) (by simp [results, Try.results59, go_sem]) rfl ⟨rfl, RIo.out.2.2⟩
        ·have n0b : decide (n < 0) = false := decide_eq_false n0
         by_cases n1 : n ≥ (l0_3.length : Int)
         ·have n1b : decide ((l0_3.length : Int) ≤ n) = true := decide_eq_true n1
          have hr2 : r = false := by
           rw [HR.out]
           refine right_bad _ hlt ?_
           unfold okAt; simp only [hn]; simp [show ¬ n < (l0_3.length : Int) by omega]
          subst hr2
          go_wp2
          exact bodyPost_ret (v := .bool false) (by simp [results, Try.results59, go_sem]) rfl ⟨rfl, RIo.out.2.2⟩
         ·have n1b : decide ((l0_3.length : Int) ≤ n) = false := decide_eq_false n1
          have p0 : 0 ≤ n := by omega
          have q0 : n < (l0_3.length : Int) := by omega
          obtain ⟨ad3, eA3, hx3⟩ := Kd.at_int (Kd.C_below HQ.out RIo.out.2.2) n p0 q0
          cases eA3
          generalize hr3 : rd l0_3 n = m at hx3
          by_cases n2 : m = (j : Int)
          ·subst n2
           have hm289 := OK.out.m
           have hjb : (j : Int) ≤ 289 := by omega
           by_cases j0 : j = 0
           ·have j0b : ((j : Int) == 0) = true := by simp [j0]
            have J0 := Aside0.mk j0
            clear j0
            go_wp2
            go_roundw
            case rel =>
             refine ⟨j + 1, ?_, by rw [Int.natCast_add, Int.natCast_one], RIo.out, SZ.out, ?_⟩
             ·omega
             ·intro z hz
              rcases Nat.lt_or_ge z _ with hz2 | hz2
              ·exact HOK.out z hz2
              ·obtain rfl := Nat.le_antisymm (Nat.lt_succ_iff.1 hz) hz2
               unfold okAt; rw [hn, hr3]; simp [p0, q0, J0.out]
            case measure => show l0_2.length - ((j : Int) + 1).toNat < l0_2.length - ((j : Int)).toNat; omega
           ·have j0b : ((j : Int) == 0) = false := by simp [j0]
            obtain ⟨q, hq⟩ : ∃ q, j = q + 1 := ⟨j - 1, by omega⟩
            have HQ1 := Aside0.mk hq
            have dj1 : 1 ≤ (j : Int) := by omega
            have dj2 : (j : Int) - 1 < (many : Int) := by omega
            have qn0 : (0 : Int) ≤ (q : Int) := by omega
            have qn1 : (q : Int) < (l0_2.length : Int) := by omega
            have OKq := HOK.out q (by omega)
            unfold okAt at OKq
            simp only [Bool.and_eq_true, decide_eq_true_eq] at OKq
            obtain ⟨⟨⟨v0, v1⟩, -⟩, -⟩ := OKq
            obtain ⟨ad2, eA2, hx2⟩ := Kd.at_int (Kd.C_below HE.out RIo.out.2.2) (q : Int) qn0 qn1
            cases eA2
            rw [show (q : Int).toNat = j - 1 by omega] at hx2
            generalize hv : rd l0_2 (q : Int) = v at *
            obtain ⟨u, rfl⟩ : ∃ u : Nat, n = (u : Int) := ⟨n.toNat, by omega⟩
            rw [Int.toNat_natCast] at hx3
            obtain ⟨v, rfl⟩ : ∃ v' : Nat, v = (v' : Int) := ⟨v.toNat, by omega⟩
            have u289 : (u : Int) < 289 := by omega
            have v289 : (v : Int) < 289 := by omega
            have cu := SZ.out.cell u (by rw [HL.out]; omega)
            have cv := SZ.out.cell v (by rw [HL.out]; omega)
            generalize hsu : rd S (u : Int) = su at cu
            generalize hsv : rd S (v : Int) = sv at cv
            have OKE : Aside0 (okAt a0_0 l0_2 l0_3 j = (!decide (sv > su) && !(decide (sv = su) && decide ((v : Int) > (u : Int))))) := ⟨by
             have ej : (j : Int) - 1 = (q : Int) := by omega
             unfold okAt; simp only [hn, hr3, ej, hv, HSZ.out, hsu, hsv]; simp [j0, q0]⟩
            have HLT := Aside0.mk hlt
            have unn : u < many := by omega
            clear hq j0 hn hr3 hv hsu hsv p0 q0 v0 v1 n0 n1
            by_cases s1 : su < sv
            ·have s1b : decide (su < sv) = true := decide_eq_true s1
             have hr2 : r = false := by
              rw [HR.out]
              refine right_bad _ HLT.out ?_
              rw [OKE.out]; simp [s1]
             subst hr2
             go_wp2
             go_quiet (fail)
             go_wp2
             exact bodyPost_ret (v := .bool false) (by simp [results, Try.results59, go_sem]) rfl ⟨rfl, below_drewN' RIo.out.2.2 _⟩
            ·have s1b : decide (su < sv) = false := decide_eq_false s1
             by_cases s2 : sv = su
             ·have s2b : (sv == su) = true := beq_iff_eq.mpr s2
              have S2 := Aside0.mk s2
              clear s2
              by_cases s3 : (u : Int) < (v : Int)
              ·have s3b : decide ((u : Int) < (v : Int)) = true := decide_eq_true s3
               have s3c : decide (u < v) = true := decide_eq_true (by omega)
               have hr2 : r = false := by
                rw [HR.out]
                refine right_bad _ HLT.out ?_
                rw [OKE.out]; simp [S2.out]; omega
               subst hr2
               go_wp2
               go_quiet (fail)
               go_wp2
               exact bodyPost_ret (v := .bool false) (by simp [results, Try.results59, go_sem]) rfl ⟨rfl, below_drewN' RIo.out.2.2 _⟩
              ·have s3b : decide ((u : Int) < (v : Int)) = false := decide_eq_false s3
               have s3c : decide (u < v) = false := decide_eq_false (by omega)
               have OKJ : Aside0 (okAt a0_0 l0_2 l0_3 j = true) := ⟨by rw [OKE.out]; simp [S2.out]; omega⟩
               go_wp2
               go_quiet (fail)
               go_wp2
               go_roundw
               case rel =>
                refine ⟨j + 1, by omega, by rw [Int.natCast_add, Int.natCast_one], RIo.out.drewN _, SZ.out.drewN _, ?_⟩
                intro z hz
                rcases Nat.lt_or_ge z _ with hz2 | hz2
                ·exact HOK.out z hz2
                ·obtain rfl := Nat.le_antisymm (Nat.lt_succ_iff.1 hz) hz2
                 exact OKJ.out
               case measure => show l0_2.length - ((j : Int) + 1).toNat < l0_2.length - ((j : Int)).toNat; omega
             ·have s2b : (sv == su) = false := beq_eq_false_iff_ne.mpr s2
              have OKJ : Aside0 (okAt a0_0 l0_2 l0_3 j = true) := ⟨by rw [OKE.out]; simp [s2]; omega⟩
              go_wp2
              go_quiet (fail)
              go_wp2
              go_roundw
              case rel =>
               refine ⟨j + 1, by omega, by rw [Int.natCast_add, Int.natCast_one], RIo.out.drewN _, SZ.out.drewN _, ?_⟩
               intro z hz
               rcases Nat.lt_or_ge z _ with hz2 | hz2
               ·exact HOK.out z hz2
               ·obtain rfl := Nat.le_antisymm (Nat.lt_succ_iff.1 hz) hz2
                exact OKJ.out
              case measure => show l0_2.length - ((j : Int) + 1).toNat < l0_2.length - ((j : Int)).toNat; omega
          ·have n2b : (m != (j : Int)) = true := bne_iff_ne.mpr n2
           have hr2 : r = false := by
            rw [HR.out]
            refine right_bad _ hlt ?_
            unfold okAt; simp only [hn]; simp only [hr3]; simp [n2]
           subst hr2
           go_wp2
           exact bodyPost_ret (v := .bool false) (by simp [results, Try.results59, go_sem]) rfl ⟨rfl, RIo.out.2.2⟩
       ·have hr2 : r = true := by
         rw [HR.out]
         exact right_good g1 g2 (by rw [HK.out]) (by rw [hM]; exact e2) (by rw [hM]; exact e3) (fun q hq => HOK.out q (by omega))
        subst hr2
        have hltb : decide ((j : Int) < (l0_2.length : Int)) = false := decide_eq_false (by omega)
        go_wp2
        exact bodyPost_ret (v := .bool true) (by simp [results, Try.results59, go_sem]) rfl ⟨rfl, RIo.out.2.2⟩)
    ·have e3b : ((l0_3.length : Int) != (many : Int)) = true := bne_iff_ne.mpr e3
     have E3 := Aside0.mk e3
     clear e3
     go_region_held3 (fun W => W.cell? ⟨w.heap.size, 0, none⟩ = some (.int .i64 a0_0) ∧ W.cell? ⟨w.heap.size, 1, none⟩ = some (.int .i64 a0_1) ∧ W.cell? ⟨w.heap.size, 2, none⟩ = some (.slice A0_2 l0_2.length c0_2) ∧ W.cell? ⟨w.heap.size, 3, none⟩ = some (.slice A0_3 l0_3.length c0_3) ∧
  W.cell? ⟨K, 0, none⟩ = some (.int .i64 (dim : Int)) ∧ W.cell? ⟨K, 1, none⟩ = some (.int .i64 k2) ∧ W.cell? ⟨K, 2, none⟩ = some (.int .i64 k3) ∧ W.cell? ⟨K, 3, none⟩ = some (.int .i64 a0_1) ∧ RI w #[.int .i64 a0_0, .int .i64 a0_1, .slice A0_2 l0_2.length c0_2, .slice A0_3 l0_3.length c0_3] K [(dim : Int), k2, k3, a0_1] W)
    (first | assumption | exact RI_S (RI.drew (by assumption)) | exact RI_S (RI.below (by go_split_ands; assumption) (by assumption)))
    (first | (go_at_call 53; refine (book_kind_many.calls 6 _ _ _ _ _ _ HM.out).mono ?_; rintro e w4 ⟨rfl, hd4⟩))
     all_goals (
      rename_i hHeld
      obtain ⟨_, _, _, _, _, _, _, _, ri⟩ := hHeld
      go_wp2
      have e3 := E3.out
      have hr2 : r = false := by
       rw [HR.out]; unfold rightV; rw [show decide ((l0_3.length : Int) = manyV a0_0) = false from decide_eq_false (by rw [hM]; omega)]; simp
      subst hr2
      exact bodyPost_ret (v := .bool false) (by simp [results, Try.results59, go_sem]) rfl ⟨rfl, ri.2.2⟩)
   ·have e2b : ((l0_2.length : Int) != (many : Int)) = true := bne_iff_ne.mpr e2
    have e2x : ∀ t : TypeId, Go.binOp .neq t (.int .i64 (l0_2.length : Int)) (.int .i64 (many : Int)) = pure (.bool true) := fun t => by rw [binOp_neq, e2b]
    have E2 := Aside0.mk e2
    clear e2
    -- the region step by step: what is behind the true guard is skipped (the kit's own tactic branches there, with a warning)
    refine wp_region_held_drew (S := (fun W => W.cell? ⟨w.heap.size, 0, none⟩ = some (.int .i64 a0_0) ∧ W.cell? ⟨w.heap.size, 1, none⟩ = some (.int .i64 a0_1) ∧ W.cell? ⟨w.heap.size, 2, none⟩ = some (.slice A0_2 l0_2.length c0_2) ∧ W.cell? ⟨w.heap.size, 3, none⟩ = some (.slice A0_3 l0_3.length c0_3) ∧
  W.cell? ⟨K, 0, none⟩ = some (.int .i64 (dim : Int)) ∧ W.cell? ⟨K, 1, none⟩ = some (.int .i64 k2) ∧ W.cell? ⟨K, 2, none⟩ = some (.int .i64 k3) ∧ W.cell? ⟨K, 3, none⟩ = some (.int .i64 a0_1) ∧ RI w #[.int .i64 a0_0, .int .i64 a0_1, .slice A0_2 l0_2.length c0_2, .slice A0_3 l0_3.length c0_3] K [(dim : Int), k2, k3, a0_1] W)) (by kernel_rfl) ?_ (fun hHeld => ?_)
    ·(try dsimp only); first | assumption | exact RI_S (RI.drew (by assumption)) | exact RI_S (RI.below (by go_split_ands; assumption) (by assumption))
    refine wpAnyH_take (i := 0) (v := ?_) rfl (by kernel_rfl) (by kernel_rfl) (by kernel_rfl) (fun _ _ _ h => h) (Or.inl ⟨by rfl, ?_⟩) (by assumption) ?_; rotate_left
    ·(intro w hSw; (try dsimp only at hSw); (try simp only [List.getElem_toArray, List.getElem_cons_succ, List.getElem_cons_zero]); go_simp; (try with_reducible rfl))
    try simp only [List.getElem_toArray, List.getElem_cons_succ, List.getElem_cons_zero, Act.put, List.setIfInBounds_toArray, List.set_cons_zero, List.set_cons_succ]
    refine wpAnyH_take (i := 1) (v := ?_) rfl (by kernel_rfl) (by kernel_rfl) (by kernel_rfl) (fun _ _ _ h => h) (Or.inl ⟨by rfl, ?_⟩) (by assumption) ?_; rotate_left
    ·(intro w hSw; (try dsimp only at hSw); (try simp only [List.getElem_toArray, List.getElem_cons_succ, List.getElem_cons_zero]); go_simp; (try with_reducible rfl))
    try simp only [List.getElem_toArray, List.getElem_cons_succ, List.getElem_cons_zero, Act.put, List.setIfInBounds_toArray, List.set_cons_zero, List.set_cons_succ]
    refine wpAnyH_take (i := 2) (v := ?_) rfl (by kernel_rfl) (by kernel_rfl) (by kernel_rfl) (fun _ _ _ h => h) (Or.inl ⟨by rfl, ?_⟩) (by assumption) ?_; rotate_left
    ·(intro w hSw; (try dsimp only at hSw); (try simp only [List.getElem_toArray, List.getElem_cons_succ, List.getElem_cons_zero]); go_simp; (try with_reducible rfl))
    try simp only [List.getElem_toArray, List.getElem_cons_succ, List.getElem_cons_zero, Act.put, List.setIfInBounds_toArray, List.set_cons_zero, List.set_cons_succ]
    refine wpAnyH_take (i := 3) (v := ?_) rfl (by kernel_rfl) (by kernel_rfl) (by kernel_rfl) (fun _ _ _ h => h) (Or.inl ⟨by rfl, ?_⟩) (by assumption) ?_; rotate_left
    ·(intro w hSw; (try dsimp only at hSw); (try simp only [List.getElem_toArray, List.getElem_cons_succ, List.getElem_cons_zero]); go_simp; (try with_reducible rfl))
    try simp only [List.getElem_toArray, List.getElem_cons_succ, List.getElem_cons_zero, Act.put, List.setIfInBounds_toArray, List.set_cons_zero, List.set_cons_succ]
    refine wpAnyH_take (i := 4) (v := ?_) rfl (by kernel_rfl) (by kernel_rfl) (by kernel_rfl) (fun _ _ _ h => h) (Or.inl ⟨by rfl, ?_⟩) (by assumption) ?_; rotate_left
    ·(intro w hSw; (try dsimp only at hSw); (try simp only [List.getElem_toArray, List.getElem_cons_succ, List.getElem_cons_zero]); go_simp; (try with_reducible rfl))
    try simp only [List.getElem_toArray, List.getElem_cons_succ, List.getElem_cons_zero, Act.put, List.setIfInBounds_toArray, List.set_cons_zero, List.set_cons_succ]
    refine wpAnyH_take (i := 5) (v := ?_) rfl (by kernel_rfl) (by kernel_rfl) (by kernel_rfl) (fun _ _ _ h => h) (Or.inl ⟨by rfl, ?_⟩) (by assumption) ?_; rotate_left
    ·(intro w hSw; (try dsimp only at hSw); (try simp only [List.getElem_toArray, List.getElem_cons_succ, List.getElem_cons_zero]); go_simp; (try with_reducible rfl))
    try simp only [List.getElem_toArray, List.getElem_cons_succ, List.getElem_cons_zero, Act.put, List.setIfInBounds_toArray, List.set_cons_zero, List.set_cons_succ]
    refine wpAnyH_take (i := 6) (v := ?_) rfl (by kernel_rfl) (by kernel_rfl) (by kernel_rfl) (fun _ _ _ h => h) (Or.inl ⟨by rfl, ?_⟩) (by assumption) ?_; rotate_left
    ·(intro w hSw; (try dsimp only at hSw); (try simp only [List.getElem_toArray, List.getElem_cons_succ, List.getElem_cons_zero]); go_simp; (try with_reducible rfl))
    try simp only [List.getElem_toArray, List.getElem_cons_succ, List.getElem_cons_zero, Act.put, List.setIfInBounds_toArray, List.set_cons_zero, List.set_cons_succ]
    refine wpAnyH_take (i := 7) (v := ?_) rfl (by kernel_rfl) (by kernel_rfl) (by kernel_rfl) (fun _ _ _ h => h) (Or.inl ⟨by rfl, ?_⟩) (by assumption) ?_; rotate_left
    ·(intro w hSw; (try dsimp only at hSw); (try simp only [List.getElem_toArray, List.getElem_cons_succ, List.getElem_cons_zero]); go_simp; (try with_reducible rfl))
    try simp only [List.getElem_toArray, List.getElem_cons_succ, List.getElem_cons_zero, Act.put, List.setIfInBounds_toArray, List.set_cons_zero, List.set_cons_succ]
    refine wpAnyH_take (i := 8) (v := ?_) rfl (by kernel_rfl) (by kernel_rfl) (by kernel_rfl) (fun _ _ _ h => h) (Or.inl ⟨by rfl, ?_⟩) (by assumption) ?_; rotate_left
    ·(intro w hSw; (try dsimp only at hSw); (try simp only [List.getElem_toArray, List.getElem_cons_succ, List.getElem_cons_zero]); go_simp; (try with_reducible rfl))
    try simp only [List.getElem_toArray, List.getElem_cons_succ, List.getElem_cons_zero, Act.put, List.setIfInBounds_toArray, List.set_cons_zero, List.set_cons_succ]
    refine wpAnyH_take (i := 9) (v := ?_) rfl (by kernel_rfl) (by kernel_rfl) (by kernel_rfl) (fun _ _ _ h => h) (Or.inl ⟨by rfl, ?_⟩) (by assumption) ?_; rotate_left
    ·(intro w hSw; (try dsimp only at hSw); (try simp only [List.getElem_toArray, List.getElem_cons_succ, List.getElem_cons_zero]); go_simp; (try with_reducible rfl))
    try simp only [List.getElem_toArray, List.getElem_cons_succ, List.getElem_cons_zero, Act.put, List.setIfInBounds_toArray, List.set_cons_zero, List.set_cons_succ]
    refine wpAnyH_take (i := 10) (v := ?_) rfl (by kernel_rfl) (by kernel_rfl) (by kernel_rfl) (fun _ _ _ h => h) (Or.inl ⟨by rfl, ?_⟩) (by assumption) ?_; rotate_left
    ·(intro w hSw; (try dsimp only at hSw); (try simp only [List.getElem_toArray, List.getElem_cons_succ, List.getElem_cons_zero]); go_simp; (try with_reducible rfl))
    try simp only [List.getElem_toArray, List.getElem_cons_succ, List.getElem_cons_zero, Act.put, List.setIfInBounds_toArray, List.set_cons_zero, List.set_cons_succ]
    refine wpAnyH_take (i := 11) (v := ?_) rfl (by kernel_rfl) (by kernel_rfl) (by kernel_rfl) (fun _ _ _ h => h) (Or.inl ⟨by rfl, ?_⟩) (by assumption) ?_; rotate_left
    ·(intro w hSw; (try dsimp only at hSw); (try simp only [List.getElem_toArray, List.getElem_cons_succ, List.getElem_cons_zero]); go_simp; (try with_reducible rfl))
    try simp only [List.getElem_toArray, List.getElem_cons_succ, List.getElem_cons_zero, Act.put, List.setIfInBounds_toArray, List.set_cons_zero, List.set_cons_succ]
    refine wpAnyH_take (i := 12) (v := ?_) rfl (by kernel_rfl) (by kernel_rfl) (by kernel_rfl) (fun _ _ _ h => h) (Or.inl ⟨by rfl, ?_⟩) (by assumption) ?_; rotate_left
    ·(intro w hSw; (try dsimp only at hSw); (try simp only [List.getElem_toArray, List.getElem_cons_succ, List.getElem_cons_zero]); go_simp; (try with_reducible rfl))
    try simp only [List.getElem_toArray, List.getElem_cons_succ, List.getElem_cons_zero, Act.put, List.setIfInBounds_toArray, List.set_cons_zero, List.set_cons_succ]
    refine wpAnyH_take (i := 13) (v := ?_) rfl (by kernel_rfl) (by kernel_rfl) (by kernel_rfl) (fun _ _ _ h => h) (Or.inl ⟨by rfl, ?_⟩) (by assumption) ?_; rotate_left
    ·(intro w hSw; (try dsimp only at hSw); (try simp only [List.getElem_toArray, List.getElem_cons_succ, List.getElem_cons_zero]); go_simp; (try with_reducible rfl))
    try simp only [List.getElem_toArray, List.getElem_cons_succ, List.getElem_cons_zero, Act.put, List.setIfInBounds_toArray, List.set_cons_zero, List.set_cons_succ]
    refine wpAnyH_ready (rs := [14]) (by kernel_rfl) (by simp) ?_
    refine AllReadyH.cons rfl (fun K hK => ?_) AllReadyH.nil
    try simp only [List.getElem_toArray, List.getElem_cons_succ, List.getElem_cons_zero]
    go_simp
    refine (book_kind_many.calls 6 _ _ _ _ _ _ HM.out).mono ?_; rintro e w4 ⟨rfl, hd4⟩
    go_wp2_with fail
    refine hK.out _ _ ?_ (fun hHeld => ?_)
    ·(try dsimp only); first | assumption | exact RI_S (RI.drew (by assumption)) | exact RI_S (RI.below (by go_split_ands; assumption) (by assumption))
    clear hK K
    try simp only [List.getElem_toArray, List.getElem_cons_succ, List.getElem_cons_zero, Act.put, List.setIfInBounds_toArray, List.set_cons_zero, List.set_cons_succ]
    refine wpAnyH_take (i := 15) (v := ?_) rfl (by kernel_rfl) (by kernel_rfl) (by kernel_rfl) (fun _ _ _ h => h) (Or.inl ⟨by rfl, ?_⟩) (by assumption) ?_; rotate_left
    ·(intro w hSw; (try dsimp only at hSw); (try simp only [List.getElem_toArray, List.getElem_cons_succ, List.getElem_cons_zero]); go_simp; (try with_reducible rfl))
    try simp only [List.getElem_toArray, List.getElem_cons_succ, List.getElem_cons_zero, Act.put, List.setIfInBounds_toArray, List.set_cons_zero, List.set_cons_succ]
    refine wpAnyH_take (i := 16) (v := ?_) rfl (by kernel_rfl) (by kernel_rfl) (by kernel_rfl) (fun _ _ _ h => h) (Or.inl ⟨by rfl, ?_⟩) (by assumption) ?_; rotate_left
    ·(intro w hSw; (try dsimp only at hSw); (try simp only [List.getElem_toArray, List.getElem_cons_succ, List.getElem_cons_zero]); go_simp; (try with_reducible rfl))
    try simp only [List.getElem_toArray, List.getElem_cons_succ, List.getElem_cons_zero, Act.put, List.setIfInBounds_toArray, List.set_cons_zero, List.set_cons_succ]
    refine wpAnyH_take (i := 17) (v := ?_) rfl (by kernel_rfl) (by kernel_rfl) (by kernel_rfl) (fun _ _ _ h => h) (Or.inl ⟨by rfl, ?_⟩) (by assumption) ?_; rotate_left
    ·(intro w hSw; (try dsimp only at hSw); (try simp only [List.getElem_toArray, List.getElem_cons_succ, List.getElem_cons_zero]); go_simp; (try with_reducible rfl))
    try simp only [List.getElem_toArray, List.getElem_cons_succ, List.getElem_cons_zero, Act.put, List.setIfInBounds_toArray, List.set_cons_zero, List.set_cons_succ]
    refine wpAnyH_take (i := 18) rfl (by kernel_rfl) (by kernel_rfl) (by kernel_rfl) (fun _ _ _ h => h) (Or.inr ⟨by rfl, rfl⟩) (by assumption) ?_
    try simp only [List.getElem_toArray, List.getElem_cons_succ, List.getElem_cons_zero, Act.put, List.setIfInBounds_toArray, List.set_cons_zero, List.set_cons_succ]
    refine wpAnyH_take (i := 19) rfl (by kernel_rfl) (by kernel_rfl) (by kernel_rfl) (fun _ _ _ h => h) (Or.inr ⟨by rfl, rfl⟩) (by assumption) ?_
    try simp only [List.getElem_toArray, List.getElem_cons_succ, List.getElem_cons_zero, Act.put, List.setIfInBounds_toArray, List.set_cons_zero, List.set_cons_succ]
    refine wpAnyH_take (i := 20) rfl (by kernel_rfl) (by kernel_rfl) (by kernel_rfl) (fun _ _ _ h => h) (Or.inr ⟨by rfl, rfl⟩) (by assumption) ?_
    try simp only [List.getElem_toArray, List.getElem_cons_succ, List.getElem_cons_zero, Act.put, List.setIfInBounds_toArray, List.set_cons_zero, List.set_cons_succ]
    refine wpAnyH_take (i := 21) rfl (by kernel_rfl) (by kernel_rfl) (by kernel_rfl) (fun _ _ _ h => h) (Or.inr ⟨by rfl, rfl⟩) (by assumption) ?_
    try simp only [List.getElem_toArray, List.getElem_cons_succ, List.getElem_cons_zero, Act.put, List.setIfInBounds_toArray, List.set_cons_zero, List.set_cons_succ]
    refine wpAnyH_take (i := 22) rfl (by kernel_rfl) (by kernel_rfl) (by kernel_rfl) (fun _ _ _ h => h) (Or.inr ⟨by rfl, rfl⟩) (by assumption) ?_
    try simp only [List.getElem_toArray, List.getElem_cons_succ, List.getElem_cons_zero, Act.put, List.setIfInBounds_toArray, List.set_cons_zero, List.set_cons_succ]
    refine wpAnyH_take (i := 23) rfl (by kernel_rfl) (by kernel_rfl) (by kernel_rfl) (fun _ _ _ h => h) (Or.inr ⟨by rfl, rfl⟩) (by assumption) ?_
    try simp only [List.getElem_toArray, List.getElem_cons_succ, List.getElem_cons_zero, Act.put, List.setIfInBounds_toArray, List.set_cons_zero, List.set_cons_succ]
    refine wpAnyH_take (i := 24) (v := ?_) rfl (by kernel_rfl) (by kernel_rfl) (by kernel_rfl) (fun _ _ _ h => h) (Or.inl ⟨by rfl, ?_⟩) (by assumption) ?_; rotate_left
    ·(intro w hSw; (try dsimp only at hSw); (try simp only [List.getElem_toArray, List.getElem_cons_succ, List.getElem_cons_zero]); go_simp; (try with_reducible rfl))
    try simp only [List.getElem_toArray, List.getElem_cons_succ, List.getElem_cons_zero, Act.put, List.setIfInBounds_toArray, List.set_cons_zero, List.set_cons_succ]
    refine wpAnyH_done (by kernel_rfl) ?_ _
    all_goals (
     rename_i hHeld
     obtain ⟨_, _, _, _, _, _, _, _, ri⟩ := hHeld
     go_wp2
     have e2 := E2.out
     have hr2 : r = false := by
      rw [HR.out]; unfold rightV; rw [show decide ((l0_2.length : Int) = manyV a0_0) = false from decide_eq_false (by rw [hM]; omega)]; simp
     subst hr2
     exact bodyPost_ret (v := .bool false) (by simp [results, Try.results59, go_sem]) rfl ⟨rfl, ri.2.2⟩)
  ·have hr2 : r = false := by
    rw [HR.out]; unfold rightV; rw [HK.out]; simp [e1]
   clear ri HR hmf ok
   subst hr2
   go_quiet (fail)
   go_wp2
   exact bodyPost_ret (v := .bool false) (by simp [results, Try.results59, go_sem]) rfl ⟨rfl, below_drewN' hB.out _⟩
 ·have hr2 : r = false := by
   rw [HR.out]; unfold rightV
   by_cases h1 : 1 ≤ a0_0
   ·simp [h1, show ¬ a0_0 ≤ 12 by omega]
   ·simp [h1]
  clear ri HR
  subst hr2
  go_quiet (fail)
  go_wp2
  exact bodyPost_ret (v := .bool false) (by simp [results, Try.results59, go_sem]) rfl ⟨rfl, below_drewN' hB.out _⟩
end Go.Proofs.Ytchflniekbhohaa.P
