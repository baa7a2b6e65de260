/- Values are got as they were put, and put as they were got. -/
import Derived.Test.YtchflniekbhohaaPAtL

/- Values are got as they were put, and put as they were got. -/
namespace Go.Proofs.Ytchflniekbhohaa.Pure
open Go.RowKit Go.Proofs.Ytchflniekbhohaa.P Go.Proofs.YtchflniekbhohaaW.PrintWords Go.Proofs.YtchflniekbhohaaW.PrintLast Go.Proofs.YtchflniekbhohaaW.PrintMore
set_option linter.unusedVariables false
set_option linter.unusedSimpArgs false

/-- The flag of a value's sign. -/
def flV (v : Int) : Int := if v < 0 then 1 else 0
theorem told_zero (id v : Int) : toldV id v = 0 ↔ v = 0 := by
 unfold toldV; split <;> omega
/-! ### Forward -/
theorem sg_fwd (l : List Int) (id : Int) (vs : List Int) : ∀ p : Nat, At l p (vs.flatMap sgB) → sgV l (vs.map (toldV id)) (p : Int) 0 = (vs.map flV, ((p + (vs.flatMap sgB).length : Nat) : Int), 0) := by
 induction vs with
 | nil => intro p _; rfl
 | cons v r ih =>
  intro p h
  rw [List.flatMap_cons] at h
  simp only [List.map_cons, sgV]
  by_cases hz : v = 0
  ·have e : sgB v = [] := by unfold sgB; rw [if_pos hz]
   rw [e, List.nil_append] at h
   rw [if_neg (fun hn => hn ((told_zero id v).2 hz)), ih p h, List.flatMap_cons, e, show flV v = 0 by unfold flV; rw [if_neg (by omega)]]
   rfl
  ·have e : sgB v = [flV v] := by unfold sgB flV; rw [if_neg hz]
   have hb : ∃ b : Nat, flV v = (b : Int) ∧ b < 2 := by
    unfold flV
    by_cases g : v < 0
    ·rw [if_pos g]; exact ⟨1, rfl, by decide⟩
    ·rw [if_neg g]; exact ⟨0, rfl, by decide⟩
   obtain ⟨b, hb1, hb2⟩ := hb
   rw [e] at h
   have h1 := h.left
   have h2 := h.right
   rw [hb1] at h1
   rw [if_pos (fun hn => hz ((told_zero id v).1 hn)), rget_bit hb2 h1]
   dsimp only
   rw [ih (p + 1) h2, List.flatMap_cons, e, hb1]
   simp only [Prod.mk.injEq, List.length_append, List.length_cons, List.length_nil, true_and, and_true]
   omega
theorem one_fwd {l : List Int} {id v : Int} (hv : -8191 ≤ v ∧ v ≤ 8191) {p : Nat} (h : At l p (escV id v)) :
  escOne l id (toldV id v) (p : Int) 0 = ((v.natAbs : Int), ((p + (escV id v).length : Nat) : Int), 0) := by
 unfold escOne
 by_cases g : id = 11 ∧ 16 ≤ v.natAbs
 ·have e1 : toldV id v = 16 := by unfold toldV; rw [if_pos g]
  have e2 : escV id v = escB v.natAbs := by unfold escV; rw [if_pos g]
  rw [e2] at h ⊢
  rw [if_pos ⟨g.1, e1⟩]
  exact resc_of g.2 (by omega) h
 ·have e1 : toldV id v = (v.natAbs : Int) := by unfold toldV; rw [if_neg g]
  have e2 : escV id v = [] := by unfold escV; rw [if_neg g]
  rw [e1, e2, if_neg (fun hn => g ⟨hn.1, by omega⟩)]
  rfl
theorem vl_fwd (l : List Int) (id : Int) (vs : List Int) : ∀ p : Nat, (∀ v ∈ vs, -8191 ≤ v ∧ v ≤ 8191) → At l p (vs.flatMap (escV id)) → vlV l id (vs.map (toldV id)) (vs.map flV) (p : Int) 0 = (vs, ((p + (vs.flatMap (escV id)).length : Nat) : Int), 0) := by
 induction vs with
 | nil => intro p _ _; rfl
 | cons v r ih =>
  intro p hr h
  rw [List.flatMap_cons] at h
  have h2 := h.right
  simp only [List.map_cons, vlV]
  rw [one_fwd (hr v List.mem_cons_self) h.left]
  dsimp only
  rw [ih (p + (escV id v).length) (fun x hx => hr x (List.mem_cons_of_mem _ hx)) h2, List.flatMap_cons]
  have e : (if flV v = 1 then -(v.natAbs : Int) else (v.natAbs : Int)) = v := by
   unfold flV
   by_cases g : v < 0
   ·rw [if_pos g, if_pos rfl]; omega
   ·rw [if_neg g, if_neg (by decide)]; omega
  rw [e]
  simp only [Prod.mk.injEq, List.length_append, true_and, and_true]
  omega
theorem code_byt {id : Int} (h1 : 1 ≤ id) (h2 : id ≤ 12) (e : Nat) (he : (e : Int) < manyV id) : Byt (codeL id e) := by
 have ca := code_at h1 h2 e he
 exact ⟨by omega, fun x hx => by have := ca.2.2.2 x hx; omega⟩
theorem get_put {id pl : Int} {E R vs rest : List Int} (hb : isB id pl E R) (hf : fitB id vs = true) : hgetV (bitsP id vs ++ rest) 0 id pl E R = (vs, ((bitsP id vs).length : Int), 0) := by
 obtain ⟨h1, h2, h3, h4⟩ := fit_of hf
 have hm := most_le id
 unfold hgetV bitsP
 rw [if_neg (by omega)]
 have hr : ∀ l, readV id pl E R l 0 = readL id l 10 0 0 := fun l => by unfold readV; rw [if_pos hb]
 by_cases hs : signB id = true
 ·have ro := range_signed hf hs
  obtain ⟨e1, e2⟩ := ent_ok h1 h2 vs ro
  have ca := code_at h1 (by omega) (entE id vs) e1
  rw [if_pos hs, hr, readL_app id (code_byt h1 (by omega) _ e1) 10 0 0 ca.2.2.1, if_neg (by simp), if_pos hs]
  simp only [Int.toNat_natCast, e2]
 ·have hsf : signB id = false := by simpa using hs
  have ro := range_told hf hsf
  obtain ⟨e1, e2⟩ := ent_ok h1 h2 _ ro
  have ca := code_at h1 (by omega) (entE id (vs.map (toldV id))) e1
  rw [if_neg hs, hr, List.append_assoc, readL_app id (code_byt h1 (by omega) _ e1) 10 0 0 ca.2.2.1, if_neg (by simp), if_neg hs]
  simp only [Int.toNat_natCast, e2]
  have hA : At (codeL id (entE id (vs.map (toldV id))) ++ (vs.flatMap sgB ++ vs.flatMap (escV id) ++ rest)) 0 (codeL id (entE id (vs.map (toldV id))) ++ (vs.flatMap sgB ++ vs.flatMap (escV id))) := by
   rw [← List.append_assoc]; exact At.whole _ _
  have hA2 := hA.right
  rw [Nat.zero_add] at hA2
  unfold readerV
  rw [sg_fwd _ id vs _ hA2.left]
  dsimp only
  rw [vl_fwd _ id vs _ (fun v hv => by have := h4 v hv; omega) hA2.right, if_neg (by simp)]
  simp only [Prod.mk.injEq, List.length_append, true_and, and_true]
  omega
/-! ### Backward -/
theorem valL_range (id : Int) (h1 : 1 ≤ id) (h2 : id ≤ 12) (e : Nat) : rangeOk id (valL id e) := by
 have hw : 0 < ((kindV id).2.2.1 - (kindV id).2.1 + 1).toNat ∧ (((kindV id).2.2.1 - (kindV id).2.1 + 1).toNat : Int) = (kindV id).2.2.1 - (kindV id).2.1 + 1 ∧ 0 ≤ (kindV id).1 := by
  rcases kind_cases h1 h2 with rfl | rfl | rfl | rfl | rfl | rfl | rfl | rfl | rfl | rfl | rfl | rfl <;> decide
 refine ⟨by simp [valL]; omega, fun v hv => ?_⟩
 unfold valL at hv
 obtain ⟨i, _, rfl⟩ := List.mem_map.1 hv
 have := Nat.mod_lt (e / ((kindV id).2.2.1 - (kindV id).2.1 + 1).toNat ^ ((kindV id).1.toNat - 1 - i)) hw.1
 omega
theorem ent_val {id : Int} (h1 : 1 ≤ id) (h2 : id ≤ 11) (e : Nat) (he : (e : Int) < manyV id) : entE id (valL id e) = e := by
 have a := (val_two h1 (by omega) e he).2
 have b := entry_of h1 h2 (valL id e) (valL_range id h1 (by omega) e)
 rw [a] at b
 have := Option.some.inj b
 simp only [Prod.mk.injEq, and_true] at this
 omega
theorem sg_back {l : List Int} (B : Byt l) (ts : List Int) : ∀ (p : Nat) (e : Int) (S : List Int) (q : Int), sgV l ts (p : Int) e = (S, q, 0) →
  e = 0 ∨ ts.all (fun t => decide (t = 0)) = true ∧ e = 0 := by
 induction ts with
 | nil => intro p e S q h; simp only [sgV, Prod.mk.injEq] at h; exact .inl h.2.2
 | cons t r ih =>
  intro p e S q h
  simp only [sgV] at h
  by_cases hz : t ≠ 0
  ·rw [if_pos hz] at h
   generalize hr : rgetV l (p : Int) e 1 = x at h
   obtain ⟨n, r2, r3⟩ := x
   dsimp only at h
   generalize ht : sgV l r r2 r3 = y at h
   obtain ⟨S2, q2, e2⟩ := y
   simp only [Prod.mk.injEq] at h
   obtain ⟨-, -, rfl⟩ := h
   by_cases he : e = 0
   ·exact .inl he
   ·have : rgetV l (p : Int) e 1 = (0, (p : Int), e) := by unfold rgetV; rw [if_pos he]
    rw [this] at hr
    simp only [Prod.mk.injEq] at hr
    obtain ⟨-, rfl, rfl⟩ := hr
    rcases ih p e S2 q2 ht with h | h
    ·exact .inl h
    ·exact .inl h.2
  ·rw [if_neg hz] at h
   generalize ht : sgV l r (p : Int) e = y at h
   obtain ⟨S2, q2, e2⟩ := y
   simp only [Prod.mk.injEq] at h
   obtain ⟨-, -, rfl⟩ := h
   rcases ih p e S2 q2 ht with h | h
   ·exact .inl h
   ·exact .inl h.2
/-- The signs' bits, of what the entry says and its flags. -/
def flatS : List Int → List Int → List Int
 | t :: r, s :: q => (if t = 0 then [] else [s]) ++ flatS r q
 | _, _ => []
theorem sg_back2 {l : List Int} (B : Byt l) (ts : List Int) : ∀ (p : Nat) (S : List Int) (q : Int), p ≤ l.length → sgV l ts (p : Int) 0 = (S, q, 0) →
  S.length = ts.length ∧ At l p (flatS ts S) ∧ q = ((p + (flatS ts S).length : Nat) : Int) ∧ ∀ i : Nat, i < ts.length → (rd S (i : Int) = 0 ∨ rd S (i : Int) = 1) ∧ (rd ts (i : Int) = 0 → rd S (i : Int) = 0) := by
 induction ts with
 | nil =>
  intro p S q hp h
  simp only [sgV, Prod.mk.injEq] at h
  obtain ⟨rfl, rfl, -⟩ := h
  exact ⟨rfl, At.nil hp, by simp [flatS], fun i hi => by simp at hi⟩
 | cons t r ih =>
  intro p S q hp h
  simp only [sgV] at h
  by_cases hz : t ≠ 0
  ·rw [if_pos hz] at h
   generalize hr : rgetV l (p : Int) 0 1 = x at h
   obtain ⟨n, r2, r3⟩ := x
   dsimp only at h
   generalize ht : sgV l r r2 r3 = y at h
   obtain ⟨S2, q2, e2⟩ := y
   simp only [Prod.mk.injEq] at h
   obtain ⟨rfl, rfl, rfl⟩ := h
   have h3 : r3 = 0 := by
    by_cases g : 0 ≤ r2
    ·obtain ⟨p2, rfl⟩ : ∃ p2 : Nat, r2 = (p2 : Int) := ⟨r2.toNat, by omega⟩
     rcases sg_back B r p2 r3 S2 q2 ht with h | h
     ·exact h
     ·exact h.2
    ·exfalso
     unfold rgetV at hr
     rw [if_neg (by decide)] at hr
     by_cases g2 : (getV l (p : Int) 1).2.2 = 0
     ·rw [if_pos g2] at hr
      have := getV_ok B (getV_eta g2)
      simp only [Prod.mk.injEq] at hr
      omega
     ·rw [if_neg g2] at hr
      simp only [Prod.mk.injEq] at hr
      omega
   subst h3
   obtain ⟨-, b, hb1, hb2, hb3, hb4⟩ := rget_bit_back B hr
   rw [hb4] at ht
   have hle := hb3.le
   obtain ⟨i1, i2, i3, i4⟩ := ih (p + 1) S2 q2 (by simpa using hle) ht
   refine ⟨by simp [i1], ?_, ?_, ?_⟩
   ·simp only [flatS]
    rw [if_neg hz, hb1]
    exact At.app hb3 i2
   ·simp only [flatS]
    rw [if_neg hz, i3, List.length_append]
    simp only [List.length_cons, List.length_nil]
    omega
   ·intro i hi
    cases i with
    | zero =>
     have e1 : rd (n :: S2) ((0 : Nat) : Int) = n := rfl
     have e2 : rd (t :: r) ((0 : Nat) : Int) = t := rfl
     rw [e1, e2, hb1]
     exact ⟨by omega, fun h => absurd h hz⟩
    | succ i =>
     have := i4 i (by simpa using hi)
     have e1 : rd (n :: S2) ((i + 1 : Nat) : Int) = rd S2 (i : Int) := by unfold rd; simp
     have e2 : rd (t :: r) ((i + 1 : Nat) : Int) = rd r (i : Int) := by unfold rd; simp
     rw [e1, e2]; exact this
  ·have hz0 : t = 0 := Classical.not_not.1 hz
   rw [if_neg hz] at h
   generalize ht : sgV l r (p : Int) 0 = y at h
   obtain ⟨S2, q2, e2⟩ := y
   simp only [Prod.mk.injEq] at h
   obtain ⟨rfl, rfl, rfl⟩ := h
   obtain ⟨i1, i2, i3, i4⟩ := ih p S2 q2 hp ht
   refine ⟨by simp [i1], ?_, ?_, ?_⟩
   ·simp only [flatS]
    rw [if_pos hz0, List.nil_append]
    exact i2
   ·simp only [flatS]
    rw [if_pos hz0, List.nil_append]
    exact i3
   ·intro i hi
    cases i with
    | zero => exact ⟨.inl rfl, fun _ => rfl⟩
    | succ i =>
     have := i4 i (by simpa using hi)
     have e1 : rd ((0 : Int) :: S2) ((i + 1 : Nat) : Int) = rd S2 (i : Int) := by unfold rd; simp
     have e2 : rd (t :: r) ((i + 1 : Nat) : Int) = rd r (i : Int) := by unfold rd; simp
     rw [e1, e2]; exact this
theorem one_back {l : List Int} (B : Byt l) {id t : Int} (ht0 : 0 ≤ t) (ht : t ≤ 16) {p : Nat} (hp : p ≤ l.length) {e n q : Int} (h : escOne l id t (p : Int) e = (n, q, 0)) :
  e = 0 ∧ ∃ x : Nat, n = (x : Int) ∧ x ≤ 8191 ∧ (t = 0 ↔ x = 0) ∧ (id ≠ 11 → (x : Int) = t) ∧ (if id = 11 ∧ 16 ≤ x then (16 : Int) else (x : Int)) = t ∧ At l p (if id = 11 ∧ 16 ≤ x then escB x else []) ∧ q = ((p + (if id = 11 ∧ 16 ≤ x then escB x else []).length : Nat) : Int) := by
 unfold escOne at h
 by_cases g : id = 11 ∧ t = 16
 ·rw [if_pos g] at h
  obtain ⟨he, x, x1, x2, x3, x4, x5⟩ := resc_back B h
  refine ⟨he, x, x1, x3, by omega, fun hn => absurd g.1 hn, ?_, ?_, ?_⟩
  ·rw [if_pos ⟨g.1, x2⟩]; exact g.2.symm
  ·rw [if_pos ⟨g.1, x2⟩]; exact x4
  ·rw [if_pos ⟨g.1, x2⟩]; exact x5
 ·rw [if_neg g] at h
  simp only [Prod.mk.injEq] at h
  obtain ⟨rfl, rfl, rfl⟩ := h
  obtain ⟨x, rfl⟩ : ∃ x : Nat, t = (x : Int) := ⟨t.toNat, by omega⟩
  have gn : ¬ (id = 11 ∧ 16 ≤ x) := fun hn => g ⟨hn.1, by omega⟩
  exact ⟨rfl, x, rfl, by omega, by omega, fun _ => rfl, by rw [if_neg gn], by rw [if_neg gn]; exact At.nil hp, by rw [if_neg gn]; rfl⟩
theorem vl_keep (l : List Int) (id : Int) : ∀ (ts S : List Int) (p e : Int), e ≠ 0 → (vlV l id ts S p e).2.2 = e := by
 intro ts
 induction ts with
 | nil => intro S p e _; rfl
 | cons t r ih2 =>
  intro S p e he
  cases S with
  | nil => rfl
  | cons s S =>
   have hk : (escOne l id t p e).2.2 = e := by
    unfold escOne
    split
    ·unfold rescV
     have k1 : ∀ (d m : Nat) (p : Int), escL l d m p e = (m, p, e) := by
      intro d
      induction d with
      | zero => intro m p; rfl
      | succ d ih3 =>
       intro m p
       simp only [escL]
       have : rgetV l p e 1 = (0, p, e) := by unfold rgetV; rw [if_pos he]
       rw [this, if_neg (by simp)]
     rw [k1]
     unfold escT
     have : ∀ m, rgetV l p e m = (0, p, e) := fun m => by unfold rgetV; rw [if_pos he]
     simp only [this]
    ·rfl
   simp only [vlV]
   rw [ih2 S _ _ (by rw [hk]; exact he), hk]
theorem vl_back {l : List Int} (B : Byt l) (id : Int) (ts : List Int) : ∀ (S : List Int) (p : Nat) (e : Int) (vs : List Int) (q : Int), p ≤ l.length → S.length = ts.length → (∀ t ∈ ts, 0 ≤ t ∧ t ≤ 16) →
  (∀ i : Nat, i < ts.length → (rd S (i : Int) = 0 ∨ rd S (i : Int) = 1) ∧ (rd ts (i : Int) = 0 → rd S (i : Int) = 0)) → vlV l id ts S (p : Int) e = (vs, q, 0) →
  e = 0 ∧ vs.map (toldV id) = ts ∧ vs.flatMap sgB = flatS ts S ∧ At l p (vs.flatMap (escV id)) ∧ q = ((p + (vs.flatMap (escV id)).length : Nat) : Int) ∧ (∀ v ∈ vs, -8191 ≤ v ∧ v ≤ 8191) := by
 induction ts with
 | nil =>
  intro S p e vs q hp hS _ _ h
  simp only [vlV, Prod.mk.injEq] at h
  obtain ⟨rfl, rfl, rfl⟩ := h
  exact ⟨rfl, rfl, rfl, At.nil hp, rfl, fun v hv => by cases hv⟩
 | cons t r ih =>
  intro S p e vs q hp hS hts hfl h
  cases S with
  | nil => simp at hS
  | cons s S =>
   simp only [vlV] at h
   generalize hx : escOne l id t (p : Int) e = x at h
   obtain ⟨n, q1, e1⟩ := x
   dsimp only at h
   generalize ht : vlV l id r S q1 e1 = y at h
   obtain ⟨vs2, q2, e2⟩ := y
   simp only [Prod.mk.injEq] at h
   obtain ⟨rfl, rfl, rfl⟩ := h
   have ht01 := hts t List.mem_cons_self
   have hfl0 := hfl 0 (by simp)
   have es : rd (s :: S) ((0 : Nat) : Int) = s := rfl
   have et : rd (t :: r) ((0 : Nat) : Int) = t := rfl
   rw [es, et] at hfl0
   have hfl' : ∀ i : Nat, i < r.length → (rd S (i : Int) = 0 ∨ rd S (i : Int) = 1) ∧ (rd r (i : Int) = 0 → rd S (i : Int) = 0) := fun i hi => by
    have := hfl (i + 1) (by simpa using hi)
    have e1 : rd (s :: S) ((i + 1 : Nat) : Int) = rd S (i : Int) := by unfold rd; simp
    have e2 : rd (t :: r) ((i + 1 : Nat) : Int) = rd r (i : Int) := by unfold rd; simp
    rwa [e1, e2] at this
   -- the first value's end
   have hone : e1 = 0 := by
    by_cases hq : 0 ≤ q1 ∧ q1 ≤ (l.length : Int)
    ·obtain ⟨p1, rfl⟩ : ∃ p1 : Nat, q1 = (p1 : Int) := ⟨q1.toNat, by omega⟩
     exact (ih S p1 e1 vs2 q2 (by omega) (by simpa using hS) (fun x hx => hts x (List.mem_cons_of_mem _ hx)) hfl' ht).1
    ·refine Classical.byContradiction fun hne => ?_
     have := vl_keep l id r S q1 e1 hne
     rw [ht] at this
     exact hne this.symm
   subst hone
   obtain ⟨he, x, x1, x2, x3, x4, x5, x6, x7⟩ := one_back B ht01.1 ht01.2 hp hx
   rw [x7] at ht
   have hle := x6.le
   obtain ⟨-, i2, i3, i4, i5, i6⟩ := ih S _ 0 vs2 q2 hle (by simpa using hS) (fun x hx => hts x (List.mem_cons_of_mem _ hx)) hfl' ht
   have hab : (if s = 1 then -n else n).natAbs = x := by rw [x1]; split <;> omega
   have e1 : toldV id (if s = 1 then -n else n) = t := by unfold toldV; rw [hab]; exact x5
   have e2 : escV id (if s = 1 then -n else n) = if id = 11 ∧ 16 ≤ x then escB x else [] := by unfold escV; rw [hab]
   have e3 : sgB (if s = 1 then -n else n) = if t = 0 then [] else [s] := by
    unfold sgB
    by_cases hz : t = 0
    ·have hx0 : x = 0 := x3.1 hz
     have hs0 := hfl0.2 hz
     rw [if_pos hz, x1, hx0, hs0]; rfl
    ·have hx0 : x ≠ 0 := fun h => hz (x3.2 h)
     rw [if_neg hz, x1]
     rcases hfl0.1 with h | h
     ·rw [h, show (if (0 : Int) = 1 then -(x : Int) else (x : Int)) = (x : Int) from if_neg (by decide), if_neg (by omega), if_neg (by omega)]
     ·rw [h, show (if (1 : Int) = 1 then -(x : Int) else (x : Int)) = -(x : Int) from if_pos rfl, if_neg (by omega), if_pos (by omega)]
   refine ⟨he, by rw [List.map_cons, e1, i2], by rw [List.flatMap_cons, e3, i3]; rfl, ?_, ?_, ?_⟩
   ·rw [List.flatMap_cons, e2]; exact At.app x6 i4
   ·rw [List.flatMap_cons, e2, i5, List.length_append]; omega
   ·intro v hv
    rcases List.mem_cons.1 hv with rfl | hv
    ·omega
    ·exact i6 v hv
theorem fit_back {id : Int} (h1 : 1 ≤ id) (h2 : id ≤ 11) (hs : signB id = false) {vs ts : List Int} (hm : vs.map (toldV id) = ts) (ht : rangeOk id ts) (hv : ∀ v ∈ vs, -8191 ≤ v ∧ v ≤ 8191) : fitB id vs = true := by
 have hl : vs.length = ts.length := by rw [← hm, List.length_map]
 refine fit_mk h1 h2 (by rw [hl, ht.1, dim_kind h1 h2]) fun v hx => ?_
 have hr := ht.2 (toldV id v) (by rw [← hm]; exact List.mem_map_of_mem hx)
 have hv' := hv v hx
 have hc : id = 3 ∨ id = 4 ∨ id = 7 ∨ id = 8 ∨ id = 9 ∨ id = 10 ∨ id = 11 := by
  unfold signB at hs
  simp only [Bool.or_eq_false_iff, decide_eq_false_iff_not] at hs
  omega
 unfold toldV at hr
 rcases hc with rfl | rfl | rfl | rfl | rfl | rfl | rfl
 ·rw [show (kindV 3).2.2.1 = 2 by decide, if_neg (by omega)] at hr; rw [show mostV 3 = 2 by decide]; omega
 ·rw [show (kindV 4).2.2.1 = 2 by decide, if_neg (by omega)] at hr; rw [show mostV 4 = 2 by decide]; omega
 ·rw [show (kindV 7).2.2.1 = 7 by decide, if_neg (by omega)] at hr; rw [show mostV 7 = 7 by decide]; omega
 ·rw [show (kindV 8).2.2.1 = 7 by decide, if_neg (by omega)] at hr; rw [show mostV 8 = 7 by decide]; omega
 ·rw [show (kindV 9).2.2.1 = 12 by decide, if_neg (by omega)] at hr; rw [show mostV 9 = 12 by decide]; omega
 ·rw [show (kindV 10).2.2.1 = 12 by decide, if_neg (by omega)] at hr; rw [show mostV 10 = 12 by decide]; omega
 ·rw [show mostV 11 = 8191 by decide]; omega
theorem fit_signed {id : Int} (h1 : 1 ≤ id) (h2 : id ≤ 11) (hs : signB id = true) {vs : List Int} (ht : rangeOk id vs) : fitB id vs = true := by
 refine fit_mk h1 h2 (by rw [ht.1, dim_kind h1 h2]) fun v hx => ?_
 have hr := ht.2 v hx
 have hc : id = 1 ∨ id = 2 ∨ id = 5 ∨ id = 6 := by
  unfold signB at hs
  simp only [Bool.or_eq_true, decide_eq_true_eq] at hs
  omega
 rcases hc with rfl | rfl | rfl | rfl
 ·rw [show (kindV 1).2.1 = -1 by decide, show (kindV 1).2.2.1 = 1 by decide] at hr; rw [show mostV 1 = 1 by decide]; omega
 ·rw [show (kindV 2).2.1 = -1 by decide, show (kindV 2).2.2.1 = 1 by decide] at hr; rw [show mostV 2 = 1 by decide]; omega
 ·rw [show (kindV 5).2.1 = -4 by decide, show (kindV 5).2.2.1 = 4 by decide] at hr; rw [show mostV 5 = 4 by decide]; omega
 ·rw [show (kindV 6).2.1 = -4 by decide, show (kindV 6).2.2.1 = 4 by decide] at hr; rw [show mostV 6 = 4 by decide]; omega
theorem kind_hi {id : Int} (h1 : 1 ≤ id) (h2 : id ≤ 11) (hs : signB id = false) : (kindV id).2.1 = 0 ∧ (kindV id).2.2.1 ≤ 16 := by
 have hc : id = 3 ∨ id = 4 ∨ id = 7 ∨ id = 8 ∨ id = 9 ∨ id = 10 ∨ id = 11 := by
  unfold signB at hs
  simp only [Bool.or_eq_false_iff, decide_eq_false_iff_not] at hs
  omega
 rcases hc with rfl | rfl | rfl | rfl | rfl | rfl | rfl <;> decide
/-- What is got of bits by a book fits it, and has just these bits. -/
theorem put_get {l : List Int} (B : Byt l) {id pl p q : Int} {E R vs : List Int} (h : hgetV l p id pl E R = (vs, q, 0)) :
  isB id pl E R ∧ fitB id vs = true ∧ 0 ≤ p ∧ p ≤ q ∧ q ≤ (l.length : Int) ∧ bitsP id vs = (l.take q.toNat).drop p.toNat := by
 unfold hgetV at h
 by_cases h11 : 11 < id
 ·rw [if_pos h11] at h
  simp only [Prod.mk.injEq] at h
  exfalso
  have := h.2.2
  split at this <;> omega
 rw [if_neg h11] at h
 generalize hr : readV id pl E R l p = r at h
 obtain ⟨x, q1, f⟩ := r
 dsimp only at h
 by_cases hf : f ≠ 0
 ·rw [if_pos hf] at h; simp only [Prod.mk.injEq] at h; exact absurd h.2.2 hf
 obtain rfl : f = 0 := Classical.not_not.1 hf
 rw [if_neg hf] at h
 unfold readV at hr
 by_cases hb : isB id pl E R
 rotate_left
 ·rw [if_neg hb] at hr; simp at hr
 rw [if_pos hb] at hr
 have h1 := hb.1.1
 obtain ⟨a1, a2, a3, a4, a5, a6⟩ := read_code h1 hb.1.2 B hr
 obtain ⟨n, rfl⟩ : ∃ n : Nat, x = (n : Int) := ⟨x.toNat, by omega⟩
 rw [Int.toNat_natCast] at h a6
 have hro := valL_range id h1 hb.1.2 n
 by_cases hs : signB id = true
 ·rw [if_pos hs] at h
  simp only [Prod.mk.injEq, and_true] at h
  obtain ⟨rfl, rfl⟩ := h
  refine ⟨hb, fit_signed h1 (by omega) hs hro, a1, a2, a3, ?_⟩
  unfold bitsP
  rw [if_pos hs, ent_val h1 (by omega) n a5, a6]
 ·have hsf : signB id = false := by simpa using hs
  rw [if_neg hs] at h
  obtain ⟨p0, rfl⟩ : ∃ p0 : Nat, p = (p0 : Int) := ⟨p.toNat, by omega⟩
  obtain ⟨p1, rfl⟩ : ∃ p1 : Nat, q1 = (p1 : Int) := ⟨q1.toNat, by omega⟩
  simp only [Int.toNat_natCast] at a6 ⊢
  obtain ⟨c1, c2⟩ := At.of_bits (l := l) (p := p0) (e := p1) (by omega) (by omega) a6.symm
  have hk := kind_hi h1 (by omega) hsf
  have hts : ∀ t ∈ valL id n, 0 ≤ t ∧ t ≤ 16 := fun t ht => by have := hro.2 t ht; omega
  unfold readerV at h
  generalize hsg : sgV l (valL id n) (p1 : Int) 0 = sg at h
  obtain ⟨S, q2, e2⟩ := sg
  dsimp only at h
  generalize hvl : vlV l id (valL id n) S q2 e2 = vl at h
  obtain ⟨vs', q3, e3⟩ := vl
  dsimp only at h
  by_cases he3 : e3 ≠ 0
  ·rw [if_pos he3] at h; simp only [Prod.mk.injEq] at h; exact absurd h.2.2 he3
  obtain rfl : e3 = 0 := Classical.not_not.1 he3
  rw [if_neg he3] at h
  simp only [Prod.mk.injEq, and_true] at h
  obtain ⟨rfl, rfl⟩ := h
  have hne : e2 = 0 := by
   refine Classical.byContradiction fun hne => ?_
   have := vl_keep l id (valL id n) S q2 e2 hne
   rw [hvl] at this
   exact hne this.symm
  subst hne
  obtain ⟨i1, i2, i3, i4⟩ := sg_back2 B (valL id n) p1 S q2 (by omega) hsg
  rw [i3] at hvl
  obtain ⟨-, j2, j3, j4, j5, j6⟩ := vl_back B id (valL id n) S _ 0 vs' q3 i2.le i1 hts i4 hvl
  have hfit := fit_back h1 (by omega) hsf j2 hro j6
  have hA : At l p0 (bitsP id vs') := by
   unfold bitsP
   rw [if_neg hs, j2, ent_val h1 (by omega) n a5, j3]
   refine At.app c1 (At.app ?_ ?_)
   ·rw [← c2]; exact i2
   ·rw [← c2]; exact j4
  have hlen : q3 = ((p0 + (bitsP id vs').length : Nat) : Int) := by
   rw [j5]
   unfold bitsP
   rw [if_neg hs, j2, ent_val h1 (by omega) n a5, j3, List.length_append, List.length_append]
   omega
  have hle := hA.le
  refine ⟨hb, hfit, by omega, by omega, by omega, ?_⟩
  rw [hlen, Int.toNat_natCast]
  exact hA.bits.symm
end Go.Proofs.Ytchflniekbhohaa.Pure
