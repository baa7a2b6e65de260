/- The books' entries and ranks as lists of numbers: what the sort of book.Get makes of each kind's sizes, reckoned by the kernel on numbers that stand for rows. -/
import Derived.Test.YtchflniekbhohaaHGetWL
import Derived.Test.YtchflniekbhohaaHLitL

/- The books' entries and ranks as lists of numbers: what the sort of book.Get makes of each kind's sizes, reckoned by the kernel on numbers that stand for rows. -/
namespace Go.Proofs.Ytchflniekbhohaa.P
open Go.RowKit Go.Sort Go.Proofs.Ytchflniekbhohaa.Eng Go.Proofs.YtchflniekbhohaaW.PrintWords Go.Proofs.YtchflniekbhohaaW.PrintLast
set_option linter.unusedVariables false
set_option linter.unusedSimpArgs false

/-! ### A row as one number, to the base 512 -/
def encN : List Nat → Nat
 | [] => 0
 | x :: xs => x + 512 * encN xs
def gN (d i : Nat) : Nat := d / 512 ^ i % 512
def swN (d i j : Nat) : Nat := d + gN d j * 512 ^ i + gN d i * 512 ^ j - (gN d i * 512 ^ i + gN d j * 512 ^ j)
/-- f at a number that is reckoned first. -/
def fN {β : Type} (n : Nat) (f : Nat → β) : β := Nat.rec (f 0) (fun k _ => f (k + 1)) n
theorem fN_eq {β : Type} (n : Nat) (f : Nat → β) : fN n f = f n := by cases n <;> rfl
theorem gN_enc : ∀ (l : List Nat) (i : Nat), (∀ x ∈ l, x < 512) → gN (encN l) i = l.getD i 0
 | [], i, _ => by simp [gN, encN]
 | x :: xs, 0, h => by
  have := h x (by simp)
  simp only [gN, encN, Nat.pow_zero, Nat.div_one, List.getD_cons_zero]
  omega
 | x :: xs, i + 1, h => by
  have hx := h x (by simp)
  have ih := gN_enc xs i (fun y hy => h y (by simp [hy]))
  simp only [gN, encN, List.getD_cons_succ] at ih ⊢
  rw [← ih, Nat.pow_succ, Nat.mul_comm (512 ^ i) 512, ← Nat.div_div_eq_div_mul]
  congr 2
  omega
theorem enc_set : ∀ (l : List Nat) (i v : Nat), i < l.length → encN (l.set i v) + l.getD i 0 * 512 ^ i = encN l + v * 512 ^ i
 | x :: xs, 0, v, _ => by simp [encN]; omega
 | x :: xs, i + 1, v, h => by
  have ih := enc_set xs i v (by simpa using h)
  simp only [List.set_cons_succ, encN, List.getD_cons_succ, Nat.pow_succ]
  have e1 : xs.getD i 0 * (512 ^ i * 512) = 512 * (xs.getD i 0 * 512 ^ i) := by rw [← Nat.mul_assoc, Nat.mul_comm]
  have e2 : v * (512 ^ i * 512) = 512 * (v * 512 ^ i) := by rw [← Nat.mul_assoc, Nat.mul_comm]
  rw [e1, e2]
  omega
def valsE (d : Array E289) : List Nat := d.toList.map (·.val)
def codeE (d : Array E289) : Nat := encN (valsE d)
theorem vals_lt (d : Array E289) : ∀ x ∈ valsE d, x < 512 := by
 intro x hx
 obtain ⟨y, _, rfl⟩ := List.mem_map.1 hx
 have := y.isLt; omega
theorem gN_code (d : Array E289) (i : Nat) (h : i < d.size) : gN (codeE d) i = (d[i]!).val := by
 unfold codeE
 rw [gN_enc _ _ (vals_lt d)]
 simp [valsE, List.getD_eq_getElem?_getD, h]
theorem vals_set (d : Array E289) (i : Nat) (x : E289) : valsE (d.setIfInBounds i x) = (valsE d).set i x.val := by
 simp [valsE, Array.toList_setIfInBounds, List.map_set]
theorem getD_vals (d : Array E289) (i : Nat) (h : i < d.size) : (valsE d).getD i 0 = (d[i]!).val := by
 simp [valsE, List.getD_eq_getElem?_getD, h]
theorem swN_code (d : Array E289) (i j : Nat) (hi : i < d.size) (hj : j < d.size) : swN (codeE d) i j = codeE (swp d i j) := by
 unfold swN
 rw [gN_code d i hi, gN_code d j hj]
 have e1 := enc_set (valsE d) i (d[j]!).val (by simpa [valsE] using hi)
 have e2 := enc_set ((valsE d).set i (d[j]!).val) j (d[i]!).val (by simpa [valsE] using hj)
 rw [getD_vals d i hi] at e1
 have e3 : ((valsE d).set i (d[j]!).val).getD j 0 = (d[j]!).val := by
  rw [List.getD_eq_getElem?_getD, List.getElem?_set]
  by_cases h : i = j
  ·subst h; simp [valsE, hi]
  ·rw [if_neg h, ← List.getD_eq_getElem?_getD, getD_vals d j hj]
 rw [e3] at e2
 have e4 : codeE (swp d i j) = encN (((valsE d).set i (d[j]!).val).set j (d[i]!).val) := by
  unfold codeE swp; rw [vals_set, vals_set]
 rw [e4]
 unfold codeE
 omega

/-! ### The sort on such numbers -/
section
variable (S : Nat)
def ltN (a b : Nat) : Bool := decide (gN S a < gN S b)
def insInnerN (a : Nat) : Nat → Nat → Nat
 | 0, d => d
 | j + 1, d => if j + 1 > a && ltN S (gN d (j + 1)) (gN d j) then fN (swN d (j + 1) j) fun d => insInnerN a j d else d
def insSN (a : Nat) : Nat → Nat → Nat → Nat
 | 0, _, d => d
 | n + 1, i, d => fN (insInnerN S a i d) fun d => fN (i + 1) fun i => insSN a n i d
def insAN (d a b : Nat) : Nat := insSN S a (b - (a + 1)) (a + 1) d
def swapRangeN (a b : Nat) : Nat → Nat → Nat → Nat
 | 0, _, d => d
 | n + 1, i, d => fN (swN d (a + i) (b + i)) fun d => fN (i + 1) fun i => swapRangeN a b n i d
def rotateFN (m : Nat) : Nat → Nat → Nat → Nat → Nat
 | 0, _, _, d => d
 | f + 1, i, j, d => if i = j then swapRangeN (m - i) m i 0 d else if j < i then fN (swapRangeN (m - i) m j 0 d) fun d => fN (i - j) fun i => rotateFN m f i j d else fN (swapRangeN (m - i) (m + j - i) i 0 d) fun d => fN (j - i) fun j => rotateFN m f i j d
def upSN : Nat → Nat → Nat → Nat
 | 0, _, d => d
 | n + 1, k, d => fN (swN d k (k + 1)) fun d => fN (k + 1) fun k => upSN n k d
def downSN : Nat → Nat → Nat → Nat
 | 0, _, d => d
 | n + 1, k, d => fN (swN d k (k - 1)) fun d => fN (k - 1) fun k => downSN n k d
def symTailN (self : Nat → Nat → Nat → Nat → Nat) (a m b d start : Nat) : Nat :=
 fN ((a + b) / 2) fun mid => fN (mid + m - start) fun fin =>
 fN (if start < m ∧ m < fin then rotateFN m (fin - start) (m - start) (fin - m) d else d) fun d1 =>
 fN (if a < start ∧ start < mid then self a start mid d1 else d1) fun d2 =>
 if mid < fin ∧ fin < b then self mid fin b d2 else d2
def symMergeN : Nat → Nat → Nat → Nat → Nat → Nat
 | 0, _, _, _, d => d
 | f + 1, a, m, b, d =>
  if m - a = 1 then fN (bs (fun h => ltN S (gN d h) (gN d a)) (b - m) m b - 1 - a) fun n => upSN n a d
  else if b - m = 1 then fN (m - bs (fun h => !ltN S (gN d m) (gN d h)) (m - a) a m) fun n => downSN n m d
  else fN (bs (fun c => !ltN S (gN d ((a + b) / 2 + m - 1 - c)) (gN d c)) (b - a) (if (a + b) / 2 < m then (a + b) / 2 + m - b else a) (if (a + b) / 2 < m then (a + b) / 2 else m)) fun st => symTailN (symMergeN f) a m b d st
def blocksN (n : Nat) : Nat → Nat → Nat → Nat → Nat
 | 0, _, _, d => d
 | f + 1, a, b, d => if b ≤ n then fN (insAN S d a b) fun d => fN (b + 20) fun b2 => blocksN n f b b2 d else insAN S d a n
def mergesN (bz n : Nat) : Nat → Nat → Nat → Nat → Nat
 | 0, _, _, d => d
 | f + 1, a, b, d => if b ≤ n then fN (symMergeN S 289 a (a + bz) b d) fun d => fN (b + 2 * bz) fun b2 => mergesN bz n f b b2 d else if a + bz < n then symMergeN S 289 a (a + bz) n d else d
def levelsN (n : Nat) : Nat → Nat → Nat → Nat
 | 0, _, d => d
 | f + 1, bz, d => if bz < n then fN (mergesN S bz n 10 0 (2 * bz) d) fun d => fN (bz * 2) fun bz => levelsN n f bz d else d
def stabN (n d : Nat) : Nat := fN (blocksN S n 20 0 20 d) fun d => levelsN S n 10 20 d
end

/-! ### It is the same sort -/
section
variable (S : Nat) (lt : E289 → E289 → Bool) (hS : ∀ x y : E289, ltN S x.val y.val = lt x y)
include hS
theorem lt_code (d : Array E289) (i j : Nat) (hi : i < d.size) (hj : j < d.size) : ltN S (gN (codeE d) i) (gN (codeE d) j) = lt d[i]! d[j]! := by
 rw [gN_code d i hi, gN_code d j hj, hS]
theorem insInnerN_code (a : Nat) : ∀ (j : Nat) (d : Array E289), j < d.size → insInnerN S a j (codeE d) = codeE (insInner lt a j d)
 | 0, d, _ => rfl
 | j + 1, d, h => by
  rw [insInnerN, insInner, lt_code S lt hS d _ _ h (by omega)]
  split
  ·rw [fN_eq, swN_code d _ _ h (by omega), insInnerN_code a j _ (by rw [size_swp]; omega)]
  ·rfl
theorem insSN_code (a : Nat) : ∀ (n i : Nat) (d : Array E289), i + n ≤ d.size → insSN S a n i (codeE d) = codeE (insS lt a n i d)
 | 0, i, d, _ => rfl
 | n + 1, i, d, h => by
  rw [insSN, insS, fN_eq, fN_eq, insInnerN_code S lt hS a i d (by omega), insSN_code a n (i + 1) _ (by rw [size_insInner]; omega)]
theorem insAN_code (d : Array E289) (a b : Nat) (ha : a ≤ d.size) (hb : b ≤ d.size) : insAN S (codeE d) a b = codeE (insA lt d a b) := by
 unfold insAN insA
 by_cases h : a + 1 ≤ b
 ·exact insSN_code S lt hS a _ _ d (by omega)
 ·rw [show b - (a + 1) = 0 by omega]; rfl
omit hS in
theorem swapRangeN_code (a b : Nat) : ∀ (n i : Nat) (d : Array E289), a + i + n ≤ d.size → b + i + n ≤ d.size → swapRangeN a b n i (codeE d) = codeE (swapRange a b n i d)
 | 0, i, d, _, _ => rfl
 | n + 1, i, d, h, k => by
  rw [swapRangeN, swapRange, fN_eq, fN_eq, swN_code d _ _ (by omega) (by omega), swapRangeN_code a b n (i + 1) _ (by rw [size_swp]; omega) (by rw [size_swp]; omega)]
omit hS in
theorem rotateFN_code (m : Nat) : ∀ (f i j : Nat) (d : Array E289), i ≤ m → m + j ≤ d.size → rotateFN m f i j (codeE d) = codeE (rotateF m f i j d)
 | 0, _, _, _, _, _ => rfl
 | f + 1, i, j, d, h, k => by
  rw [rotateFN, rotateF]
  split
  ·rw [swapRangeN_code _ _ _ _ _ (by omega) (by omega)]
  ·split
   ·rw [fN_eq, fN_eq, swapRangeN_code _ _ _ _ _ (by omega) (by omega), rotateFN_code m f _ _ _ (by omega) (by rw [size_swapRange]; omega)]
   ·rw [fN_eq, fN_eq, swapRangeN_code _ _ _ _ _ (by omega) (by omega), rotateFN_code m f _ _ _ (by omega) (by rw [size_swapRange]; omega)]
omit hS in
theorem upSN_code : ∀ (n k : Nat) (d : Array E289), k + n + 1 ≤ d.size → upSN n k (codeE d) = codeE (upS n k d)
 | 0, _, _, _ => rfl
 | n + 1, k, d, h => by rw [upSN, upS, fN_eq, fN_eq, swN_code d _ _ (by omega) (by omega), upSN_code n (k + 1) _ (by rw [size_swp]; omega)]
omit hS in
theorem downSN_code : ∀ (n k : Nat) (d : Array E289), k < d.size → downSN n k (codeE d) = codeE (downS n k d)
 | 0, _, _, _ => rfl
 | n + 1, k, d, h => by rw [downSN, downS, fN_eq, fN_eq, swN_code d _ _ (by omega) (by omega), downSN_code n (k - 1) _ (by rw [size_swp]; omega)]
omit hS in
theorem bs_congr (p q : Nat → Bool) : ∀ (f i j : Nat), (∀ h, i ≤ h → h < j → p h = q h) → bs p f i j = bs q f i j
 | 0, _, _, _ => rfl
 | f + 1, i, j, h => by
  rw [bs, bs]
  by_cases hij : i < j
  ·rw [if_pos hij, if_pos hij, h _ (by omega) (by omega), bs_congr p q f _ j (fun x a b => h x (by omega) b), bs_congr p q f i _ (fun x a b => h x a (by omega))]
  ·rw [if_neg hij, if_neg hij]
theorem symMergeN_code : ∀ (f a m b : Nat) (d : Array E289), a < m → m < b → b ≤ d.size → symMergeN S f a m b (codeE d) = codeE (symMerge lt f a m b d)
 | 0, _, _, _, _, _, _, _ => rfl
 | f + 1, a, m, b, d, h1, h2, h3 => by
  rw [symMergeN, symMerge]
  by_cases e1 : m - a = 1
  ·rw [if_pos e1, if_pos e1, fN_eq, bs_congr (fun h => ltN S (gN (codeE d) h) (gN (codeE d) a)) (fun h => lt d[h]! d[a]!) _ _ _ (fun h _ _ => lt_code S lt hS d h a (by omega) (by omega))]
   have := bs_bd (fun h => lt d[h]! d[a]!) (b - m) m b (by omega)
   exact upSN_code _ _ _ (by omega)
  ·rw [if_neg e1, if_neg e1]
   by_cases e2 : b - m = 1
   ·rw [if_pos e2, if_pos e2, fN_eq, bs_congr (fun h => !ltN S (gN (codeE d) m) (gN (codeE d) h)) (fun h => !lt d[m]! d[h]!) _ _ _ (fun h _ _ => by rw [lt_code S lt hS d m h (by omega) (by omega)])]
    exact downSN_code _ _ _ (by omega)
   ·rw [if_neg e2, if_neg e2, fN_eq]
    obtain ⟨mid, hmid⟩ : ∃ mid, mid = (a + b) / 2 := ⟨_, rfl⟩
    rw [← hmid]
    obtain ⟨s0, hs0⟩ : ∃ s0, s0 = if mid < m then mid + m - b else a := ⟨_, rfl⟩
    obtain ⟨r0, hr0⟩ : ∃ r0, r0 = if mid < m then mid else m := ⟨_, rfl⟩
    rw [← hs0, ← hr0]
    have s1 : a ≤ s0 ∧ s0 ≤ r0 ∧ r0 ≤ mid ∧ r0 ≤ m ∧ mid + m ≤ s0 + b ∧ mid < b ∧ a < mid := by subst hs0 hr0; split <;> omega
    obtain ⟨s1, s2, s3, s4, s5, s6, s7⟩ := s1
    rw [bs_congr (fun c => !ltN S (gN (codeE d) (mid + m - 1 - c)) (gN (codeE d) c)) (fun c => !lt d[mid + m - 1 - c]! d[c]!) _ _ _ (fun c _ _ => by rw [lt_code S lt hS d _ c (by omega) (by omega)])]
    have hb := bs_bd (fun c => !lt d[mid + m - 1 - c]! d[c]!) (b - a) s0 r0 s2
    generalize bs (fun c => !lt d[mid + m - 1 - c]! d[c]!) (b - a) s0 r0 = st at hb ⊢
    rw [symTail_eq _ a m b d st mid (mid + m - st) hmid rfl]
    unfold symTailN
    simp only [fN_eq]
    rw [← hmid]
    have r1 : (if st < m ∧ m < mid + m - st then rotateFN m (mid + m - st - st) (m - st) (mid + m - st - m) (codeE d) else codeE d) = codeE (if st < m ∧ m < mid + m - st then rotateF m (mid + m - st - st) (m - st) (mid + m - st - m) d else d) := by
     by_cases c : st < m ∧ m < mid + m - st
     ·rw [if_pos c, if_pos c, rotateFN_code _ _ _ _ _ (by omega) (by omega)]
     ·rw [if_neg c, if_neg c]
    rw [r1]
    have z1 : (if st < m ∧ m < mid + m - st then rotateF m (mid + m - st - st) (m - st) (mid + m - st - m) d else d).size = d.size := by split <;> simp [size_rotateF]
    generalize (if st < m ∧ m < mid + m - st then rotateF m (mid + m - st - st) (m - st) (mid + m - st - m) d else d) = d1 at z1 ⊢
    have r2 : (if a < st ∧ st < mid then symMergeN S f a st mid (codeE d1) else codeE d1) = codeE (if a < st ∧ st < mid then symMerge lt f a st mid d1 else d1) := by
     by_cases c : a < st ∧ st < mid
     ·rw [if_pos c, if_pos c, symMergeN_code f a st mid d1 (by omega) (by omega) (by omega)]
     ·rw [if_neg c, if_neg c]
    rw [r2]
    have z2 : (if a < st ∧ st < mid then symMerge lt f a st mid d1 else d1).size = d.size := by split <;> simp [size_symMerge, z1]
    generalize (if a < st ∧ st < mid then symMerge lt f a st mid d1 else d1) = d2 at z2 ⊢
    by_cases c : mid < mid + m - st ∧ mid + m - st < b
    ·rw [if_pos c, if_pos c, symMergeN_code f mid _ b d2 (by omega) (by omega) (by omega)]
    ·rw [if_neg c, if_neg c]
theorem blocksN_code (n : Nat) : ∀ (f a b : Nat) (d : Array E289), a ≤ b → a ≤ n → n ≤ d.size → blocksN S n f a b (codeE d) = codeE (blocksS lt n f a b d)
 | 0, _, _, _, _, _, _ => rfl
 | f + 1, a, b, d, h0, h1, h2 => by
  rw [blocksN, blocksS]
  split
  ·rw [fN_eq, fN_eq, insAN_code S lt hS d a b (by omega) (by omega), blocksN_code n f b (b + 20) _ (by omega) (by omega) (by rw [size_insA]; omega)]
  ·rw [insAN_code S lt hS d a n (by omega) (by omega)]
theorem mergesN_code (bz n : Nat) (hz : 1 ≤ bz) : ∀ (f a b : Nat) (d : Array E289), b = a + 2 * bz → n ≤ d.size → mergesN S bz n f a b (codeE d) = codeE (mergesS lt bz n f a b d)
 | 0, _, _, _, _, _ => rfl
 | f + 1, a, b, d, h0, h2 => by
  rw [mergesN, mergesS]
  split
  ·rw [fN_eq, fN_eq, symMergeN_code S lt hS 289 a _ b d (by omega) (by omega) (by omega), mergesN_code bz n hz f b _ _ rfl (by rw [size_symMerge]; omega)]
  ·split
   ·rw [symMergeN_code S lt hS 289 a _ n d (by omega) (by omega) (by omega)]
   ·rfl
theorem levelsN_code (n : Nat) : ∀ (f bz : Nat) (d : Array E289), 1 ≤ bz → n ≤ d.size → levelsN S n f bz (codeE d) = codeE (levelsS lt n f bz d)
 | 0, _, _, _, _ => rfl
 | f + 1, bz, d, h0, h2 => by
  rw [levelsN, levelsS]
  split
  ·rw [fN_eq, fN_eq, mergesN_code S lt hS bz n h0 10 0 _ d (by omega) h2, levelsN_code n f _ _ (by omega) (by rw [size_mergesS]; omega)]
  ·rfl
theorem stabN_code (n : Nat) (d : Array E289) (h : n ≤ d.size) : stabN S n (codeE d) = codeE (stab lt n d) := by
 unfold stabN stab
 rw [fN_eq, blocksN_code S lt hS n 20 0 20 d (by omega) (by omega) h, levelsN_code S lt hS n 10 20 _ (by omega) (by rw [size_blocksS]; omega)]
end

theorem list_of_code (d : Array E289) : d.toList.map (fun x => (x.val : Int)) = (List.range d.size).map fun i => ((gN (codeE d) i : Nat) : Int) := by
 apply List.ext_getElem
 ·simp
 ·intro i h1 h2
  have hi : i < d.size := by simpa using h1
  simp only [List.getElem_map, List.getElem_range]
  rw [gN_code d i hi]
  simp [hi]
/-- What the sort makes of a list of sizes, by a number that stands for them, and the number that comes out. -/
theorem entV_of (S : List Int) (n SN C0 C1 : Nat) (L : List Int) (hn : n ≤ 289) (h1 : S = (List.range 289).map fun i => ((gN SN i : Nat) : Int)) (h0 : encN (List.range n) = C0) (h2 : stabN SN n C0 = C1) (h3 : (List.range n).map (fun i => ((gN C1 i : Nat) : Int)) = L) : entV S n = L := by
 have hS : ∀ x y : E289, ltN SN x.val y.val = ltF (cfS S) x y := by
  intro x y
  have hr : ∀ z : E289, rd S (z.val : Int) = ((gN SN z.val : Nat) : Int) := fun z => by
   rw [h1]; unfold rd
   simp [List.getD_eq_getElem?_getD, z.isLt]
  unfold ltF cfS ltN cmpV
  rw [hr, hr]
  by_cases a : gN SN x.val < gN SN y.val
  ·rw [if_pos (by omega)]; simp [a]
  ·rw [if_neg (by omega)]
   split <;> simp [a]
 have hc : codeE (rangeE n).toArray = C0 := by
  rw [← h0]
  unfold codeE valsE rangeE
  congr 1
  apply List.ext_getElem
  ·simp
  ·intro i h1 h2
   have hi : i < n := by simpa using h1
   simp only [List.getElem_map, List.getElem_range]
   show i % 289 = i
   omega
 unfold entV
 rw [list_of_code, ← stabN_code SN _ hS n _ (by simp [rangeE]), hc, h2, size_stab]
 simp only [rangeE, List.size_toArray, List.length_map, List.length_range]
 exact h3

def szN1 : Nat := 22095011613006920495900495411235818575933442772447106924079081726307418567887850960097777856100252861467794465831172821364384624095291236286438895746963120987495202552369966619262615868613087968250423720928386361591300
def enN1 : Nat := 442094016161654978107760331684240612091849495523537769848331764615519557932870937312603325979104223607607954897515131693227688528568655240683034481630727464480887106761249280435187357575288938103021100826305479596317224
set_option maxRecDepth 100000 in
theorem sz_tab1 : szAt 4 (-1) 1 81 = (List.range 289).map fun i => ((gN szN1 i : Nat) : Int) := by decide +kernel
set_option maxRecDepth 100000 in
theorem st_tab1 : stabN szN1 81 (encN (List.range 81)) = enN1 := by decide +kernel
set_option maxRecDepth 100000 in
theorem en_tab1 : (List.range 81).map (fun i => ((gN enN1 i : Nat) : Int)) = entL1 := by decide +kernel
set_option maxRecDepth 100000 in
theorem rk_tab1 : rkAt entL1 81 81 = rnkL1 := by decide +kernel
theorem ent_tab1 : entV (szAt 4 (-1) 1 81) 81 = entL1 := entV_of _ _ szN1 _ enN1 _ (by decide) sz_tab1 rfl st_tab1 en_tab1
def szN3 : Nat := 44200753944508180635697017531298302356939409868637019792163357119484059264830541559560175941929790132095003802964556752121464533815341960920242411014169940486237708799164071675915568525709567548685930059031875215163904
def enN3 : Nat := 442104851999797814181285024187516211319314480897847601395420714254215357795490329511368500299751275341808205309035018047614795497120461064814072478675315506019138137592404173680075387021508614837151203161048935876526592
set_option maxRecDepth 100000 in
theorem sz_tab3 : szAt 4 (0) 2 81 = (List.range 289).map fun i => ((gN szN3 i : Nat) : Int) := by decide +kernel
set_option maxRecDepth 100000 in
theorem st_tab3 : stabN szN3 81 (encN (List.range 81)) = enN3 := by decide +kernel
set_option maxRecDepth 100000 in
theorem en_tab3 : (List.range 81).map (fun i => ((gN enN3 i : Nat) : Int)) = entL3 := by decide +kernel
set_option maxRecDepth 100000 in
theorem rk_tab3 : rkAt entL3 81 81 = rnkL3 := by decide +kernel
theorem ent_tab3 : entV (szAt 4 (0) 2 81) 81 = entL3 := entV_of _ _ szN3 _ enN3 _ (by decide) sz_tab3 rfl st_tab3 en_tab3
def szN5 : Nat := 44200753862158030566880750056142292087059841513383778387247678972304920462194885607619700290466819310699640183075794559172984010450993982137181363424361723824710961242718733201078413985548073484479974180893990273420808
def enN5 : Nat := 442027987978358817006819978236305206863364491177501878261990143947454208396528885913029045697221506636389684574651009664518793719798140708123316592103963223856405679576633288099819428348014787532081906657943291900476968
set_option maxRecDepth 100000 in
theorem sz_tab5 : szAt 2 (-4) 4 81 = (List.range 289).map fun i => ((gN szN5 i : Nat) : Int) := by decide +kernel
set_option maxRecDepth 100000 in
theorem st_tab5 : stabN szN5 81 (encN (List.range 81)) = enN5 := by decide +kernel
set_option maxRecDepth 100000 in
theorem en_tab5 : (List.range 81).map (fun i => ((gN enN5 i : Nat) : Int)) = entL5 := by decide +kernel
set_option maxRecDepth 100000 in
theorem rk_tab5 : rkAt entL5 81 81 = rnkL5 := by decide +kernel
theorem ent_tab5 : entV (szAt 2 (-4) 4 81) 81 = entL5 := entV_of _ _ szN5 _ enN5 _ (by decide) sz_tab5 rfl st_tab5 en_tab5
def szN7 : Nat := 6775228195882815752601138458970390977029037016038752576547239455832445002159450154623933809297693356863985926504064635085220507153429448595078373522328602185800823838605824
def enN7 : Nat := 30491830982802842752383870288726753089694671833441376614752419303368042997440319638268165147840328487198718717945072999396579945611249440588552218357241632714370791338148352
set_option maxRecDepth 100000 in
theorem sz_tab7 : szAt 2 (0) 7 64 = (List.range 289).map fun i => ((gN szN7 i : Nat) : Int) := by decide +kernel
set_option maxRecDepth 100000 in
theorem st_tab7 : stabN szN7 64 (encN (List.range 64)) = enN7 := by decide +kernel
set_option maxRecDepth 100000 in
theorem en_tab7 : (List.range 64).map (fun i => ((gN enN7 i : Nat) : Int)) = entL7 := by decide +kernel
set_option maxRecDepth 100000 in
theorem rk_tab7 : rkAt entL7 64 64 = rnkL7 := by decide +kernel
theorem ent_tab7 : entV (szAt 2 (0) 7 64) 64 = entL7 := entV_of _ _ szN7 _ enN7 _ (by decide) sz_tab7 rfl st_tab7 en_tab7
def szN9 : Nat := 3454445401367686614967207195043546179775383589419661197736849454041069119089551801856554494885732981801046493180799378886103704074208266913451623724855659141412186067687326212384740710591451626190163979685303712122193632361704194129138469189221758512291990220698157422748904404043320290961960967694366010049853805536559105851656838691983209878141390649595713865294233967504667765406500883279204465924589341525663233835709851200550706709190090080410023756288
def enN9 : Nat := 24182801961763489335732250605289970646751866551208877077334630664333546779557316498839300999808589798266175447607748193493329371144399608000417806196257507449459329016756269631408994718757889749319841171035199943797373807701328416686214386518109407789291584870152816920135386909711106837870839670395438575968984678424526902746766621597189380047833463068942770377293533153622906020882182274109880563823726175868160036376576635335577118682228554771326488019456
set_option maxRecDepth 100000 in
theorem sz_tab9 : szAt 2 (0) 12 169 = (List.range 289).map fun i => ((gN szN9 i : Nat) : Int) := by decide +kernel
set_option maxRecDepth 100000 in
theorem st_tab9 : stabN szN9 169 (encN (List.range 169)) = enN9 := by decide +kernel
set_option maxRecDepth 100000 in
theorem en_tab9 : (List.range 169).map (fun i => ((gN enN9 i : Nat) : Int)) = entL9 := by decide +kernel
set_option maxRecDepth 100000 in
theorem rk_tab9 : rkAt entL9 169 169 = rnkL9 := by decide +kernel
theorem ent_tab9 : entV (szAt 2 (0) 12 169) 169 = entL9 := entV_of _ _ szN9 _ enN9 _ (by decide) sz_tab9 rfl st_tab9 en_tab9
def szN11 : Nat := 59665219171884865510618261961203178313521823866250958876860577747034396861045052626354381671583983724337294119014342160152301867192138951922239053479893685587232641055293409621087566707008636681020504751541503751993093239660575871174377729419510955349773905806545237537761074923722634585604724428012028587406978093447170314269579830528564302868507487931541868442842757787211492557858934257386812036822183305799556104533645996931067708880357365715469658126320599252000086380988212812597662412557519234472660656270421208772611353457456465533111054164812118255467324534641248386851928956392371947717354124021790168184895559048308697001934688496956157291900620283295828389095737520344737853958451976942184294220442881057185869584505900636686623404075320261550424030905188695457864876544
def enN11 : Nat := 537016058278165164261860708355964208358866265430717931289258265823768520042845083575860216034791912380605325640427926101027869037432722510390098470764863240184799856869766765271586745272852435143023963272347273212806711372978679251534353267495932467191915084577644552335417633293329138606177740458623327417335041601656933195871062985408778500988805111928281462846254129077670721211609925860031674891079122753846399913317641800622097529429063051406114945905871456383945578986793288378564651243208230007273052634413991343818914715439209237141883757518100706335816469561688560603074495290593159687970226234361632109033693628752507389651032353517754879892510182957707185482882341466079094713173756699514116957273315708588356576624893827272638254722204505525367679268813939156629489713664
set_option maxRecDepth 100000 in
theorem sz_tab11 : szAt 2 (0) 16 289 = (List.range 289).map fun i => ((gN szN11 i : Nat) : Int) := by decide +kernel
set_option maxRecDepth 100000 in
theorem st_tab11 : stabN szN11 289 (encN (List.range 289)) = enN11 := by decide +kernel
set_option maxRecDepth 100000 in
theorem en_tab11 : (List.range 289).map (fun i => ((gN enN11 i : Nat) : Int)) = entL11 := by decide +kernel
set_option maxRecDepth 100000 in
theorem rk_tab11 : rkAt entL11 289 289 = rnkL11 := by decide +kernel
theorem ent_tab11 : entV (szAt 2 (0) 16 289) 289 = entL11 := entV_of _ _ szN11 _ enN11 _ (by decide) sz_tab11 rfl st_tab11 en_tab11
def szN12 : Nat := 778720240877558933125754212166358134233411655246012103650355562721809241055876275538683522271562067742754195350403747003382045820647967153341495127322447009391074816787240394449133186107827928683260478167343199656366594838729400673376324531205442908828174718009163413328825822170105946559905078901546344912589767906042529216060
def enN12 : Nat := 1554455185857804734404110616335728042409804954847555354088862387068388206193341935501190611748874445384465462901035569137026844942718182242364817034987552154912505250323072914941628699969062193058126569674933291423087892022843586088894188614608094980200482663698180853045545109504592203048736489205727673794920121579810023831100
set_option maxRecDepth 100000 in
theorem sz_tab12 : szAt 1 (-60) 60 121 = (List.range 289).map fun i => ((gN szN12 i : Nat) : Int) := by decide +kernel
set_option maxRecDepth 100000 in
theorem st_tab12 : stabN szN12 121 (encN (List.range 121)) = enN12 := by decide +kernel
set_option maxRecDepth 100000 in
theorem en_tab12 : (List.range 121).map (fun i => ((gN enN12 i : Nat) : Int)) = entL12 := by decide +kernel
set_option maxRecDepth 100000 in
theorem rk_tab12 : rkAt entL12 121 121 = rnkL12 := by decide +kernel
theorem ent_tab12 : entV (szAt 1 (-60) 60 121) 121 = entL12 := entV_of _ _ szN12 _ enN12 _ (by decide) sz_tab12 rfl st_tab12 en_tab12
/-- The entries of a book, by rank; the ranks, by entry. -/
theorem ent_tab {id : Int} (h1 : 1 ≤ id) (h2 : id ≤ 12) : entV (szV id) (manyV id).toNat = entL id := by
 rcases kind_cases h1 h2 with rfl | rfl | rfl | rfl | rfl | rfl | rfl | rfl | rfl | rfl | rfl | rfl
 ·exact ent_tab1
 ·exact ent_tab1
 ·exact ent_tab3
 ·exact ent_tab3
 ·exact ent_tab5
 ·exact ent_tab5
 ·exact ent_tab7
 ·exact ent_tab7
 ·exact ent_tab9
 ·exact ent_tab9
 ·exact ent_tab11
 ·exact ent_tab12
theorem rnk_tab {id : Int} (h1 : 1 ≤ id) (h2 : id ≤ 12) : rkAt (entL id) (manyV id).toNat (manyV id).toNat = rnkL id := by
 rcases kind_cases h1 h2 with rfl | rfl | rfl | rfl | rfl | rfl | rfl | rfl | rfl | rfl | rfl | rfl
 ·exact rk_tab1
 ·exact rk_tab1
 ·exact rk_tab3
 ·exact rk_tab3
 ·exact rk_tab5
 ·exact rk_tab5
 ·exact rk_tab7
 ·exact rk_tab7
 ·exact rk_tab9
 ·exact rk_tab9
 ·exact rk_tab11
 ·exact rk_tab12
end Go.Proofs.Ytchflniekbhohaa.P
