/- What the proofs of the statements of chapter 03 share. -/
import Derived.Test.YthhlpcmgcblopaaRows
import Derived.Test.YthhlpcmgcblopaaRow
import Derived.ProofKit
import Derived.OpenShut
import Derived.ShutString
import Derived.ChangeOld
import Derived.SizedLaws
import Derived.ChangeSlices
namespace Go.Proofs.Ythhlpcmgcblopaa
open Go Go.ChangeShapes Go.WideShapes Go.ChangeAt Go.RowKit Cg
theorem own : ownKnob Try.prog.godebug = none := by kernel_rfl
theorem laidOut : laidOutB Try.prog = true := by kernel_rfl
theorem row_of {H : Type} {enc : TypeId × Value → H} {W : World} {v : Value} {d : DataW H} {ps : List MemPlace} (h : DataW.Trod enc Try.prog W 0 (fun _ => true) true 22 v d ps) (hv : ∃ a l c, v = .slice a l c) : ∃ zs : List Int, RowAt (Value.int .i64) W v zs := by
  obtain ⟨a, l, c, rfl⟩ := hv
  obtain ⟨fuel, h⟩ := h
  rcases ChangeShapes.open_ints Try.underlying22 Try.underlying3 (by kernel_rfl) h with ⟨h0, _⟩ | ⟨ad, len, cap, zs, h0, _, hlc, _, hz, _, hc, _⟩
  · have h0 : Value.slice a l c = .slice none 0 0 := List.singleton_inj.1 h0
    rw [h0]
    exact ⟨[], rowAt_nil _ _⟩
  · have h0 : Value.slice a l c = .slice (some ad) len cap := List.singleton_inj.1 h0
    rw [h0]
    have hlz : len ≤ zs.length := by rw [hz]; split <;> omega
    have hl : (zs.take len).length = len := by rw [List.length_take]; omega
    refine ⟨zs.take len, some ad, cap, by rw [hl], ⟨by rw [hl]; exact hlc, fun h => by cases h⟩, ?_⟩
    by_cases h00 : len = 0
    · left; rw [h00]; rfl
    · right
      have hcell0 := hc 0 (by omega)
      have hadd0 : ad.add 0 = ad := by simp [Addr.add]
      rw [hadd0] at hcell0
      obtain ⟨b, o, sp⟩ := ad
      have hsp : sp = none := by
        cases sp with
        | none => rfl
        | some x => simp [World.cell?] at hcell0; split at hcell0 <;> simp at hcell0
      subst hsp
      refine ⟨b, o, rfl, block_lt_of_cell hcell0, fun j x hj => ?_⟩
      have hjl : j < len := by
        have := (List.getElem?_eq_some_iff.1 hj).1
        omega
      have hj2 : zs[j]? = some x := by rw [List.getElem?_take_of_lt hjl] at hj; exact hj
      have hadd : (⟨b, o, none⟩ : Addr).add j = ⟨b, o + j, none⟩ := by unfold Addr.add; split <;> simp_all
      have := hc j (by omega)
      rw [hadd, List.getD_eq_getElem?_getD, hj2] at this
      exact this
end Go.Proofs.Ythhlpcmgcblopaa
