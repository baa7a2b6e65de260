/- More small laws of ours: the cells of a list of whole numbers that is read. -/
import Derived.Test.YtchflniekbhohaaL0a0
import Derived.Test.YtchflniekbhohaaEngL

/- More small laws of ours: the cells of a list of whole numbers that is read. -/
namespace Go.Proofs.Ytchflniekbhohaa.Eng
open Go.RowKit Go.Proofs.YtchflniekbhohaaW.PrintWords Go.Proofs.YtchflniekbhohaaW.PrintLast Go.Proofs.Ytchflniekbhohaa.P

theorem getBang (l : List Int) (j : Nat) : l[j]! = rd l (j : Int) := by
 unfold rd; rw [Int.toNat_natCast, List.getD_eq_getElem?_getD]
 by_cases h : j < l.length
 ·rw [getElem!_pos l j h, List.getElem?_eq_getElem h]; rfl
 ·rw [getElem!_neg l j h, List.getElem?_eq_none (by omega)]; rfl
theorem ints_cells {k : IntKind} {w : World} {A : Option Addr} {l : List Int} (hr : Kd.C (Kd.int k) w A l.length l) (h0 : 0 < l.length) :
  ∃ b off, A = some ⟨b, off, none⟩ ∧ b < w.heap.size ∧ ∀ i : Nat, i < l.length → w.cell? ⟨b, off + i, none⟩ = some (.int k (rd l (i : Int))) := by
 obtain ⟨ad, rfl, hcell⟩ : ∃ ad, A = some ad ∧ ∀ i : Nat, i < l.length → w.cell? (ad.add i) = some (.int k (rd l i)) := by
  obtain ⟨ad, e, _⟩ := Kd.at_int hr 0 (by omega) (by omega)
  refine ⟨ad, e, fun i hi => ?_⟩
  obtain ⟨ad', e', h'⟩ := Kd.at_int hr (i : Int) (by omega) (by omega)
  rw [e] at e'
  cases e'
  simpa using h'
 have hspot : ad = ⟨ad.block, ad.off, none⟩ := by
  have h0 := hcell 0 (by omega)
  obtain ⟨b, o, s⟩ := ad
  cases s with
  | none => rfl
  | some q => simp [Addr.add, World.cell?] at h0; split at h0 <;> simp at h0
 rw [hspot] at hcell ⊢
 have hc : ∀ i : Nat, i < l.length → w.cell? ⟨ad.block, ad.off + i, none⟩ = some (.int k (rd l (i : Int))) := fun i hi => by
  rw [← Addr.add_mid]; exact hcell i hi
 exact ⟨ad.block, ad.off, rfl, World.block_lt_of_cell? w ⟨ad.block, ad.off + 0, none⟩ (hc 0 (by omega)), hc⟩
end Go.Proofs.Ytchflniekbhohaa.Eng
