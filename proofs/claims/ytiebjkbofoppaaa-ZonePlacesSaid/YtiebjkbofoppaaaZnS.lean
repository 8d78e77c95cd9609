/- Chapter 25: slices.Delete at one object. -/
import Derived.Test.YtiebjkbofoppaaaZnR
import Derived.Lib.SliceRun
namespace Go.Proofs.Ytiebjkbofoppaaa
open Go Go.RowKit Go.Sort Go.Shelf Cg
theorem run_clear_K {P : Program} (w : World) (t e ty : TypeId) (z : Value) (ht : P.underlying t = some (.slice e)) (hv : ∀ w, (zeroValue e).run P w = .ok z w) (n : Nat) (hn0 : n ≠ 0) (vs : List Value) (hz : (Builtin.zeroCells z.cells n).toList = vs) (h1 : ∀ u ∈ vs, u.oneCell' = true) (b o c : Nat)
    (hc : ∀ j, j < vs.length → (w.cell? ⟨b, o + j, none⟩).isSome = true) (hf : ∀ j, j < vs.length → w.frozen? ⟨b, o + j, none⟩ = false) :
    (Builtin.clear_ #[t] ty #[.slice (some ⟨b, o, none⟩) n c]).run P w = .ok (.tuple #[]) (w.setCells b o vs) := by
  have hst := run_storeCells_cells (P := P) b o vs 0 w (by simpa using hc) (by simpa using hf) h1
  simp only [Nat.add_zero] at hst
  simp [Builtin.clear_, run_underlying ht, hn0, hv, hz, hst]
def zObj : Value := .agg #[.int .i64 0, .int .i64 0, .int .i64 0, .int .i64 0, .int .i64 0, .bool false, .bool false, .bool false, .bool false, .int .i64 0, .int .i64 0, .int .i64 0, .int .i64 0, .int .i64 0, .int .i64 0, .int .i64 0, .bool false, .int .i64 0, .int .i64 0]
def zObjC : Cl 19 := ⟨[.int .i64 0, .int .i64 0, .int .i64 0, .int .i64 0, .int .i64 0, .bool false, .bool false, .bool false, .bool false, .int .i64 0, .int .i64 0, .int .i64 0, .int .i64 0, .int .i64 0, .int .i64 0, .int .i64 0, .bool false, .int .i64 0, .int .i64 0], by decide, by decide⟩
theorem zObj_cells : (Builtin.zeroCells zObj.cells 1).toList = zObjC.1 := by kernel_rfl
set_option maxRecDepth 100000 in
set_option maxHeartbeats 4000000 in
theorem delete_obj (base g m c i : Nat) (es : List (Cl 19)) (w : World) (hb : BlkC 19 47 w g es) (hh : HdC base 47 19 w g c) (hm : es.length = m) (hi : i < m) (hc : m ≤ c) :
    Calls Try.prog 62 #[.slice (some ⟨g, 0, none⟩) m c, .int .i64 i, .int .i64 ((i + 1 : Nat) : Int)] w fun e w' => e = .returned (.slice (some ⟨g, 0, none⟩) (m - 1) c) ∧ w'.ownsRow base 47 19 (.slice (some ⟨g, 0, none⟩) (m - 1) c) (m - 1) ((es.take i ++ es.drop (i + 1)).flatMap Subtype.val) ∧ w.grownBy w' (some g) := by
  obtain ⟨z, e1, e2, e3, ii, hi0, hz0, hs0, hby0⟩ := elemObject
  have hd : (es.drop (i + 1)).length = m - (i + 1) := by rw [List.length_drop, hm]
  obtain ⟨W1, hW1⟩ : ∃ W1, W1 = w.drew.setCells g (i * 19) ((es.drop (i + 1)).flatMap Subtype.val) := ⟨_, rfl⟩
  obtain ⟨b1, d1⟩ := BlkC.write (w := w.drew) hb hh i (es.drop (i + 1)) (by omega) (by rw [hd]; omega)
  rw [← hW1] at b1 d1
  obtain ⟨es1, hes1⟩ : ∃ es1, es1 = es.take i ++ es.drop (i + 1) ++ es.drop (i + (es.drop (i + 1)).length) := ⟨_, rfl⟩
  rw [← hes1] at b1
  have hl1 : es1.length = m := by
    rw [hes1]
    simp only [List.length_append, List.length_take, List.length_drop, hm]
    omega
  have htk : es1.take (m - 1) = es.take i ++ es.drop (i + 1) := by
    have hlen : (es.take i ++ es.drop (i + 1)).length = m - 1 := by rw [List.length_append, List.length_take, hd]; omega
    rw [hes1, ← hlen]
    exact List.take_left
  have s1 := Lib.hid (show ((es.drop (i + 1)).flatMap Subtype.val).length = (m - (i + 1)) * 19 by rw [flat_len Cl.len, hd])
  have s2 := Lib.hid (show ∀ u ∈ (es.drop (i + 1)).flatMap Subtype.val, u.oneCell' = true from fun u hu => by
    obtain ⟨y, _, hy⟩ := List.mem_flatMap.1 hu
    exact Cl.one y u hy)
  have cell : ∀ (j : Nat), j < m * 19 → ∃ u, w.cell? ⟨g, j, none⟩ = some u := fun j hj => by
    have hq : j / 19 < es.length := by omega
    have h8 : j % 19 < es[j / 19].1.length := by rw [Cl.len]; omega
    have := hb.cell _ _ (List.getElem?_eq_getElem hq) (j % 19) _ (List.getElem?_eq_getElem h8)
    rw [show j / 19 * 19 + j % 19 = j by omega] at this
    exact ⟨_, this⟩
  have s3 := Lib.hid (show ∀ t, t < ((es.drop (i + 1)).flatMap Subtype.val).length → (w.drew.cell? ⟨g, 0 + i * 19 + t, none⟩).isSome = true ∧ w.drew.frozen? ⟨g, 0 + i * 19 + t, none⟩ = false from fun t ht => by
    rw [s1.out] at ht
    obtain ⟨u, hu⟩ := cell (0 + i * 19 + t) (by omega)
    refine ⟨?_, hb.frozen _⟩
    show (w.cell? _).isSome = true
    rw [hu]
    rfl)
  obtain ⟨A, hA, hsrc⟩ : ∃ A : Addr, (if c = i + 1 then some (⟨g, 0, none⟩ : Addr) else some ⟨g, (i + 1) * 19, none⟩) = some A ∧ Hid (∀ t u, ((es.drop (i + 1)).flatMap Subtype.val)[t]? = some u → w.drew.cell? (A.add t) = some u) := by
    by_cases h : c = i + 1
    · refine ⟨⟨g, 0, none⟩, by simp [h], Lib.hid fun t u hu => ?_⟩
      have h0 : ((es.drop (i + 1)).flatMap Subtype.val) = [] := List.eq_nil_of_length_eq_zero (by rw [s1.out]; omega)
      rw [h0] at hu
      simp at hu
    · refine ⟨⟨g, (i + 1) * 19, none⟩, by simp [h], Lib.hid fun t u hu => ?_⟩
      rw [Addr.add_lit]
      have ht := (List.getElem?_eq_some_iff.1 hu).1
      rw [s1.out] at ht
      have hq : t / 19 < (es.drop (i + 1)).length := by rw [hd]; omega
      have hgg := flat_get (enc := Subtype.val) Cl.len (es.drop (i + 1)) (t / 19) _ (List.getElem?_eq_getElem hq) (t % 19) (Nat.mod_lt _ (by omega))
      rw [show t / 19 * 19 + t % 19 = t by omega, hu] at hgg
      rw [List.getElem_drop] at hgg
      have := hb.cell (i + 1 + t / 19) _ (List.getElem?_eq_getElem (by omega)) (t % 19) u hgg.symm
      rw [show (i + 1 + t / 19) * 19 + t % 19 = (i + 1) * 19 + t by omega] at this
      exact this
  have hcl := Lib.hid (show ∀ ty cc, (Builtin.clear_ #[23] ty #[.slice (some ⟨g, (m - 1) * 19, none⟩) 1 cc]).run Try.prog W1 = .ok (.tuple #[]) (W1.setCells g ((m - 1) * 19) zObjC.1) from fun ty cc =>
    run_clear_K W1 _ _ ty zObj Try.underlying23 (fun w => by kernel_rfl) 1 (by decide) _ zObj_cells zObjC.one g ((m - 1) * 19) cc (fun t ht => by
        rw [Cl.len] at ht
        have hlt : m - 1 < es1.length := by rw [hl1]; omega
        have h8 : t < es1[m - 1].1.length := by rw [Cl.len]; omega
        have := b1.cell _ _ (List.getElem?_eq_getElem hlt) t _ (List.getElem?_eq_getElem h8)
        rw [this]
        rfl) (fun t _ => b1.frozen _))
  have HF := Lib.hid (show (W1.setCells g ((m - 1) * 19) zObjC.1).ownsRow base 47 19 (.slice (some ⟨g, 0, none⟩) (m - 1) c) (m - 1) ((es.take i ++ es.drop (i + 1)).flatMap Subtype.val) by
    have b2 := BlkK.setCells (enc := Subtype.val) Cl.len b1 (m - 1) (by rw [hl1]; omega) zObjC
    have b3 := BlkC.take b2 (m - 1)
    rw [List.take_set_of_le (Nat.le_refl _), htk] at b3
    have hlen : (es.take i ++ es.drop (i + 1)).length = m - 1 := by rw [List.length_append, List.length_take, hd]; omega
    have := own_of b3 (d1.sets zObjC.1 _ _) (by rw [hlen]; omega)
    rw [hlen] at this
    exact this)
  have HG := Lib.hid (show w.grownBy (W1.setCells g ((m - 1) * 19) zObjC.1) (some g) by
    have key : ∀ (vs : List Value) (oo : Nat) (w' : World), w.grownBy w' (some g) → w.grownBy (w'.setCells g oo vs) (some g) := by
      intro vs
      induction vs with
      | nil => intro oo w' h; exact h
      | cons v r ih => intro oo w' h; exact ih (oo + 1) _ ⟨h.os, h.tape, h.output, by have := h.size; simpa [World.setCell] using this, fun k hk hr => (Below.heap_setCell _ _ _ _ (fun e => hr (by rw [e]))).trans (h.block k hk hr)⟩
    rw [hW1]
    exact key _ _ _ (key _ _ _ ⟨rfl, rfl, rfl, Nat.le_refl _, fun _ _ _ => rfl⟩))
  have EI := Lib.hid (show _ ∧ _ ∧ _ from ⟨e1, hi0, hs0⟩)
  have HW1 := Lib.hid (show w.drew.setCells g (0 + i * 19) ((es.drop (i + 1)).flatMap Subtype.val) = W1 by rw [hW1, Nat.zero_add])
  clear b1 d1 hl1 htk cell hb hh hd hW1 e1 e2 e3 hi0 hz0 hs0 hby0 hes1
  generalize hj : i + 1 = j at *
  have HJ := Lib.hid hj
  have hne : ((i : Int) == (j : Int)) = false := beq_eq_false_iff_ne.2 (by omega)
  have hij : i ≤ j := by omega
  have hjm : j ≤ m := by omega
  have him : i ≤ m := by omega
  have hic : i ≤ c := by omega
  have hjc : j ≤ c := by omega
  have hij2 := Lib.hid (show i + (m - j) = m - 1 by omega)
  have hcl2 : ∀ ty, (Builtin.clear_ #[23] ty #[.slice (some ⟨g, (i + (m - j)) * 19, none⟩) (m - (i + (m - j))) (c - (i + (m - j)))]).run Try.prog W1 = .ok (.tuple #[]) (W1.setCells g ((m - 1) * 19) zObjC.1) := fun ty => by
    rw [hij2.out, show m - (m - 1) = 1 by omega]
    exact hcl.out ty _
  have hcq : ¬ c = i + (m - j) := by omega
  clear hj hcl
  go_enter Try.func62, Try.ntmps62
  go_wp2_with fail
  go_region_law (refine step_append_room rfl (.tmp 22) (.tmp 25) 23 rfl 47 ii 19 EI.out.1 EI.out.2.1 EI.out.2.2 g 0 i c (by simp [Act.eval, Act.put]) A (m - j) (c - j) _ (by simp [Act.eval, Act.put]) s1.out hsrc.out s2.out (by have := HJ.out; omega) s3.out ?_; rw [HW1.out])
  simp only [List.getElem_toArray, List.getElem_cons_succ, List.getElem_cons_zero, Act.put, List.setIfInBounds_toArray, List.set_cons_zero]
  go_wp2
  go_ret
  exact ⟨by rw [hij2.out] <;> rfl, HF.out, HG.out⟩
end Go.Proofs.Ytiebjkbofoppaaa
