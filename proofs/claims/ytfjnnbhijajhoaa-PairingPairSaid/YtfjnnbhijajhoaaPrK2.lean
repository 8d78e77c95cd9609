/- Chapter 56: slices.Delete at one record (the walk); rests. -/
import Derived.Test.YtfjnnbhijajhoaaPrK
namespace Go.Proofs.Ytfjnnbhijajhoaa
open Go Go.RowKit Go.Sort Go.Shelf Cg
set_option maxRecDepth 100000 in
set_option maxHeartbeats 4000000 in
theorem delete_std (g m c i : Nat) (pre xs post : List (St × Sl)) (w : World) (hb : BlkK 8 encT 35 w g (pre ++ xs ++ post)) (hm : xs.length = m) (hi : i < m) (hc : m ≤ c) (hcm : c ≤ 1000000) :
    Calls Try.prog 30 #[.slice (some ⟨g, pre.length * 8, none⟩) m c, .int .i64 i, .int .i64 ((i + 1 : Nat) : Int)] w fun e w' => e = .returned (.slice (some ⟨g, pre.length * 8, none⟩) (m - 1) c) ∧ BlkK 8 encT 35 w' g (pre ++ (xs.take i ++ xs.drop (i + 1)) ++ ((st0 0, (none, 0, 0)) :: post)) ∧ w.grownBy w' (some g) := by
  obtain ⟨_, _, _, ii, e1, e2, e3, e4⟩ := stdElem
  obtain ⟨o, ho⟩ : ∃ o, o = pre.length := ⟨_, rfl⟩
  have hd : (xs.drop (i + 1)).length = m - (i + 1) := by rw [List.length_drop, hm]
  have hal : (pre ++ xs ++ post).length = o + m + post.length := by rw [List.length_append, List.length_append, hm, ho]
  obtain ⟨W1, hW1⟩ : ∃ W1, W1 = w.drew.setCells g (o * 8 + i * 8) ((xs.drop (i + 1)).flatMap encT) := ⟨_, rfl⟩
  have b1 := BlkK.setMany (xs.drop (i + 1)) (o + i) (pre ++ xs ++ post) w.drew hb (by rw [hd, hal]; omega)
  rw [Nat.add_mul, ← hW1] at b1
  have hl1 : ((pre ++ xs ++ post).take (o + i) ++ xs.drop (i + 1) ++ (pre ++ xs ++ post).drop (o + i + (xs.drop (i + 1)).length)).length = o + m + post.length := by
    simp only [List.length_append, List.length_take, List.length_drop, hm, ← ho]
    omega
  have b2 := BlkK.setMany [((st0 0, (none, 0, 0)) : St × Sl)] (o + (m - 1)) _ W1 b1 (by rw [hl1, List.length_singleton]; omega)
  have b3 := list_move pre xs post i (by omega) ((st0 0, (none, 0, 0)) : St × Sl)
  rw [hm, ← ho] at b3
  rw [List.length_singleton, b3] at b2
  have hnx : ∀ (j : Nat), j < m → (pre ++ xs ++ post)[o + j]? = xs[j]? := fun j hj => by
    rw [List.append_assoc, List.getElem?_append_right (by omega), List.getElem?_append_left (by omega), ← ho, Nat.add_sub_cancel_left]
  have s1 := Lib.hid (show ((xs.drop (i + 1)).flatMap encT).length = (m - (i + 1)) * 8 by rw [flat_len encT_len, hd])
  have s2 := Lib.hid (show ∀ u ∈ (xs.drop (i + 1)).flatMap encT, u.oneCell' = true from fun u hu => by
    obtain ⟨y, _, hy⟩ := List.mem_flatMap.1 hu
    exact encT_one y u hy)
  have cell : ∀ (j : Nat), j < m * 8 → ∃ u, w.cell? ⟨g, o * 8 + j, none⟩ = some u := fun j hj => by
    have hq : j / 8 < xs.length := by omega
    have hx : (pre ++ xs ++ post)[o + j / 8]? = some xs[j / 8] := by rw [hnx _ (by omega), List.getElem?_eq_getElem hq]
    have h8 : j % 8 < (encT xs[j / 8]).length := by rw [encT_len]; omega
    have := hb.cell _ _ hx (j % 8) _ (List.getElem?_eq_getElem h8)
    rw [show (o + j / 8) * 8 + j % 8 = o * 8 + j by omega] at this
    exact ⟨_, this⟩
  have s3 := Lib.hid (show ∀ t, t < ((xs.drop (i + 1)).flatMap encT).length → (w.drew.cell? ⟨g, o * 8 + i * 8 + t, none⟩).isSome = true ∧ w.drew.frozen? ⟨g, o * 8 + i * 8 + t, none⟩ = false from fun t ht => by
    rw [s1.out] at ht
    obtain ⟨u, hu⟩ := cell (i * 8 + t) (by omega)
    refine ⟨?_, hb.frozen _⟩
    show (w.cell? _).isSome = true
    rw [Nat.add_assoc, hu]
    rfl)
  obtain ⟨A, hA, hsrc⟩ : ∃ A : Addr, (if c = i + 1 then some (⟨g, o * 8, none⟩ : Addr) else some ⟨g, o * 8 + (i + 1) * 8, none⟩) = some A ∧ Hid (∀ t u, ((xs.drop (i + 1)).flatMap encT)[t]? = some u → w.drew.cell? (A.add t) = some u) := by
    by_cases h : c = i + 1
    · refine ⟨⟨g, o * 8, none⟩, by simp [h], Lib.hid fun t u hu => ?_⟩
      have h0 : ((xs.drop (i + 1)).flatMap encT) = [] := List.eq_nil_of_length_eq_zero (by rw [s1.out]; omega)
      rw [h0] at hu
      simp at hu
    · refine ⟨⟨g, o * 8 + (i + 1) * 8, none⟩, by simp [h], Lib.hid fun t u hu => ?_⟩
      rw [Addr.add_lit]
      have ht := (List.getElem?_eq_some_iff.1 hu).1
      rw [s1.out] at ht
      have hq : t / 8 < (xs.drop (i + 1)).length := by rw [hd]; omega
      have hgg := flat_get encT_len (xs.drop (i + 1)) (t / 8) _ (List.getElem?_eq_getElem hq) (t % 8) (Nat.mod_lt _ (by omega))
      rw [show t / 8 * 8 + t % 8 = t by omega, hu] at hgg
      rw [List.getElem_drop] at hgg
      have hx : (pre ++ xs ++ post)[o + (i + 1 + t / 8)]? = some (xs[i + 1 + t / 8]'(by omega)) := by rw [hnx _ (by omega), List.getElem?_eq_getElem]
      have := hb.cell _ _ hx (t % 8) u hgg.symm
      rw [show (o + (i + 1 + t / 8)) * 8 + t % 8 = o * 8 + (i + 1) * 8 + t by omega] at this
      exact this
  have hcl := Lib.hid (show ∀ ty cc, (Builtin.clear_ #[26] ty #[.slice (some ⟨g, o * 8 + (m - 1) * 8, none⟩) 1 cc]).run Try.prog W1 = .ok (.tuple #[]) (W1.setCells g (o * 8 + (m - 1) * 8) ([((st0 0, (none, 0, 0)) : St × Sl)].flatMap encT)) from fun ty cc =>
    run_clear_K W1 _ _ ty (stV (st0 0) (.slice none 0 0)) Try.underlying26 (fun w => by kernel_rfl) _ std_zero (fun u hu => by
      obtain ⟨y, _, hy⟩ := List.mem_flatMap.1 hu
      exact encT_one y u hy) g (o * 8 + (m - 1) * 8) cc (fun t ht => by
        rw [flat_len encT_len, List.length_singleton] at ht
        have hlt : o + (m - 1) < ((pre ++ xs ++ post).take (o + i) ++ xs.drop (i + 1) ++ (pre ++ xs ++ post).drop (o + i + (xs.drop (i + 1)).length)).length := by rw [hl1]; omega
        have h8 : t < (encT (((pre ++ xs ++ post).take (o + i) ++ xs.drop (i + 1) ++ (pre ++ xs ++ post).drop (o + i + (xs.drop (i + 1)).length))[o + (m - 1)]'hlt)).length := by rw [encT_len]; omega
        have := b1.cell _ _ (List.getElem?_eq_getElem hlt) t _ (List.getElem?_eq_getElem h8)
        rw [Nat.add_mul] at this
        rw [this]
        rfl) (fun t _ => b1.frozen _))
  have HF := Lib.hid (show BlkK 8 encT 35 (W1.setCells g (o * 8 + (m - 1) * 8) ([((st0 0, (none, 0, 0)) : St × Sl)].flatMap encT)) g (pre ++ (xs.take i ++ xs.drop (i + 1)) ++ ((st0 0, (none, 0, 0)) :: post)) by
    rw [Nat.add_mul] at b2
    exact b2)
  have HG := Lib.hid (show w.grownBy (W1.setCells g (o * 8 + (m - 1) * 8) ([((st0 0, (none, 0, 0)) : St × Sl)].flatMap encT)) (some g) by
    have key : ∀ (vs : List Value) (oo : Nat) (w' : World), w.grownBy w' (some g) → w.grownBy (w'.setCells g oo vs) (some g) := by
      intro vs
      induction vs with
      | nil => intro oo w' h; exact h
      | cons v r ih => intro oo w' h; exact ih (oo + 1) _ ⟨h.os, h.tape, h.output, by have := h.size; simpa [World.setCell] using this, fun k hk hr => (Below.heap_setCell _ _ _ _ (fun e => hr (by rw [e]))).trans (h.block k hk hr)⟩
    rw [hW1]
    exact key _ _ _ (key _ _ _ ⟨rfl, rfl, rfl, Nat.le_refl _, fun _ _ _ => rfl⟩))
  have EI := Lib.hid (show _ ∧ _ ∧ _ ∧ _ from ⟨e1, e2, e3, e4⟩)
  have HW1 := Lib.hid hW1
  have HO := Lib.hid ho
  rw [← ho]
  clear b1 b2 b3 hl1 hnx cell hb hal hd hW1 ho e1 e2 e3 e4
  have HC := Lib.hid hcm
  generalize hj : i + 1 = j at *
  have HJ := Lib.hid hj
  have hne : ((i : Int) == (j : Int)) = false := beq_eq_false_iff_ne.2 (by omega)
  have hij : i ≤ j := by omega
  have hjm : j ≤ m := by omega
  have him : i ≤ m := by omega
  have hic : i ≤ c := by omega
  have hjc : j ≤ c := by omega
  generalize ([((st0 0, (none, 0, 0)) : St × Sl)].flatMap encT) = zs at *
  have hij2 := Lib.hid (show i + (m - j) = m - 1 by omega)
  have hcl2 : ∀ ty, (Builtin.clear_ #[26] ty #[.slice (some ⟨g, o * 8 + (i + (m - j)) * 8, none⟩) (m - (i + (m - j))) (c - (i + (m - j)))]).run Try.prog W1 = .ok (.tuple #[]) (W1.setCells g (o * 8 + (m - 1) * 8) zs) := fun ty => by
    rw [hij2.out, show m - (m - 1) = 1 by omega]
    exact hcl.out ty _
  have hcq : ¬ c = i + (m - j) := by omega
  clear hj hcl
  go_enter Try.func30, Try.ntmps30
  go_wp2_with fail
  go_region_law (refine step_append_room rfl (.tmp 22) (.tmp 25) 26 rfl 35 ii 8 Try.underlying26 EI.out.1 EI.out.2.2.1 g (o * 8) i c (by simp [Act.eval, Act.put]) A (m - j) (c - j) _ (by simp [Act.eval, Act.put]) s1.out hsrc.out s2.out (by have := HJ.out; omega) s3.out ?_; rw [← HW1.out])
  simp only [List.getElem_toArray, List.getElem_cons_succ, List.getElem_cons_zero, Act.put, List.setIfInBounds_toArray, List.set_cons_zero]
  go_wp2
  go_ret
  exact ⟨by rw [hij2.out] <;> rfl, HF.out, HG.out⟩
end Go.Proofs.Ytfjnnbhijajhoaa
