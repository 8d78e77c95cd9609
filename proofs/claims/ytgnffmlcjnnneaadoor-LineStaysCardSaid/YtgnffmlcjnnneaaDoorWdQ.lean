/- How an argument that is a slice of strings is read, for the statements of chapter 02. -/
import Derived.Test.YtgnffmlcjnnneaaDoorWdP
import Derived.Test.YtgnffmlcjnnneaaDoorRow
import Derived.SliceStrings
import Derived.Lib.IndexMore
namespace Go.Proofs.YtgnffmlcjnnneaaDoor
open Go Go.ChangeShapes Go.WideShapes Go.ChangeAt Go.RowKit Cg
theorem weights_mem {H : Type} (P : Program) (e : TypeId) (y : List UInt8) : ∀ (ds : List (DataW H)), (DataW.lit (.string y)) ∈ ds → y.length ∈ DataW.weightsAll P e ds
  | [], h => by simp at h
  | d :: r, h => by
    rw [DataW.weightsAll]
    rcases List.mem_cons.1 h with e1 | h
    · rw [← e1, DataW.weights]; simp
    · exact List.mem_append.2 (.inr (weights_mem P e y r h))
theorem first_weights {H : Type} {P : Program} {t : TypeId} {ts : List TypeId} {d : DataW H} {r : List (DataW H)} (h : (DataW.weightsEach P (t :: ts) (d :: r)).all (· ≤ reachBytes) = true) : (d.weights P t).all (· ≤ reachBytes) = true := by
  rw [DataW.weightsEach, List.all_append, Bool.and_eq_true] at h
  exact h.1
theorem strs_of {H : Type} {enc : TypeId × Value → H} {W : World} {v : Value} {d : DataW H} {ps : List MemPlace} (h : DataW.Trod enc Tryd.prog W 0 (fun _ => true) true 22 v d ps) (hv : ∃ a l c, v = .slice a l c)
    (hw : (DataW.weights Tryd.prog 22 d).all (· ≤ reachBytes) = true) : ∃ zs : List ByteArray, RowAt Value.string W v zs ∧ (∀ z ∈ zs, z.size ≤ 140737488355328) ∧ zs.length ≤ 9223372036854775807 := by
  obtain ⟨a, l, c, rfl⟩ := hv
  obtain ⟨fuel, h⟩ := h
  rcases open_strings Tryd.underlying22 Tryd.underlying9 (by kernel_rfl) h with ⟨h0, _⟩ | ⟨ad, len, cap, zs, h0, _, hlc, hcm, hz, hx, hc, _⟩
  · have h0 : Value.slice a l c = .slice none 0 0 := List.singleton_inj.1 h0
    rw [h0]
    exact ⟨[], rowAt_nil _ _, fun z hz => by simp at hz, by simp⟩
  · have h0 : Value.slice a l c = .slice (some ad) len cap := List.singleton_inj.1 h0
    rw [h0]
    have hlz : len ≤ zs.length := by rw [hz]; split <;> omega
    have hl : (zs.take len).length = len := by rw [List.length_take]; omega
    unfold maxLen at hcm
    refine ⟨zs.take len, ⟨some ad, cap, by rw [hl], ⟨by rw [hl]; exact hlc, fun h => by cases h⟩, ?_⟩, fun z hzm => ?_, by rw [hl]; omega⟩
    · by_cases h00 : len = 0
      · left; rw [h00]; rfl
      · right
        have hcell0 := hc 0 (by omega)
        have hadd0 : ad.add 0 = ad := by simp [Addr.add]
        rw [hadd0] at hcell0
        obtain ⟨b, o, sp⟩ := ad
        have hsp : sp = none := by
          cases sp with
          | none => rfl
          | some x => simp [World.cell?] at hcell0; split at hcell0 <;> simp at hcell0
        subst hsp
        refine ⟨b, o, rfl, block_lt_of_cell hcell0, fun j x hj => ?_⟩
        have hjl : j < len := by
          have := (List.getElem?_eq_some_iff.1 hj).1
          omega
        have hj2 : zs[j]? = some x := by rw [List.getElem?_take_of_lt hjl] at hj; exact hj
        have hadd : (⟨b, o, none⟩ : Addr).add j = ⟨b, o + j, none⟩ := by unfold Addr.add; split <;> simp_all
        have := hc j (by omega)
        rw [hadd, List.getD_eq_getElem?_getD, hj2] at this
        exact this
    · have hd : d = .slice (strs (zs.take len)) (strs (zs.drop len)) := (Prod.mk.inj hx).1
      have hin : z.data.toList.length ∈ DataW.weights Tryd.prog 22 d := by
        rw [hd, DataW.weights, show Tryd.prog.underlying 22 = some (.slice 9) from Tryd.underlying22]
        refine List.mem_cons_of_mem _ (List.mem_append.2 (.inl (weights_mem _ _ _ _ ?_)))
        unfold strs
        exact List.mem_map.2 ⟨z, hzm, rfl⟩
      have := List.all_eq_true.1 hw _ hin
      have hle : z.data.toList.length ≤ reachBytes := by simpa using this
      rw [show z.size = z.data.toList.length from Lib.size_eq z]
      exact Nat.le_trans hle (by decide)
end Go.Proofs.YtgnffmlcjnnneaaDoor
