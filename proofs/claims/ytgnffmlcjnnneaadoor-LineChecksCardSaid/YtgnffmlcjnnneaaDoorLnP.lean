/- Chapter 10: law LineChecks. -/
import Derived.Test.YtgnffmlcjnnneaaDoorLnO
namespace Go.Proofs.YtgnffmlcjnnneaaDoor
open Go Go.RowKit Go.Sort Cg
/-- Two lines laid in new blocks. -/
theorem two_lines (w : World) (x y z x2 y2 z2 : Value) : ∃ wx, wx = (w.alloc (.cells #[x, y, z] 24)).alloc (.cells #[x2, y2, z2] 24) ∧ Below w.heap.size w wx ∧ wx.heap.size = w.heap.size + 2 ∧
    (∀ w', Below wx.heap.size wx w' → w'.cell? ⟨w.heap.size, 0, none⟩ = some x ∧ w'.cell? ⟨w.heap.size, 1, none⟩ = some y ∧ w'.cell? ⟨w.heap.size, 2, none⟩ = some z ∧ w'.cell? ⟨w.heap.size + 1, 0, none⟩ = some x2 ∧ w'.cell? ⟨w.heap.size + 1, 1, none⟩ = some y2 ∧ w'.cell? ⟨w.heap.size + 1, 2, none⟩ = some z2) := by
  refine ⟨_, rfl, ?_, ?_, fun w' hb => ?_⟩
  · exact ((Below.refl w.heap.size w).alloc (Nat.le_refl _) _).alloc (by show w.heap.size ≤ (w.heap.push _).size; simp) _
  · show ((w.heap.push _).push _).size = _
    simp
  · have hz : ((w.alloc (.cells #[x, y, z] 24)).alloc (.cells #[x2, y2, z2] 24)).heap.size = w.heap.size + 2 := by show ((w.heap.push _).push _).size = _; simp
    have h1 : w'.heap[w.heap.size]? = some (.cells #[x, y, z] 24 (0, 0)) := (hb.block _ (by omega)).trans (by show ((w.heap.push _).push _)[w.heap.size]? = _; simp [Array.getElem?_push])
    have h2 : w'.heap[w.heap.size + 1]? = some (.cells #[x2, y2, z2] 24 (0, 0)) := (hb.block _ (by omega)).trans (by show ((w.heap.push _).push _)[w.heap.size + 1]? = _; simp [Array.getElem_push])
    exact ⟨cell_of_row _ _ 0 _ _ _ h1, cell_of_row _ _ 1 _ _ _ h1, cell_of_row _ _ 2 _ _ _ h1, cell_of_row _ _ 0 _ _ _ h2, cell_of_row _ _ 1 _ _ _ h2, cell_of_row _ _ 2 _ _ _ h2⟩
set_option maxRecDepth 100000 in
set_option maxHeartbeats 1000000 in
theorem law_lineChecks (su ty : Int) (v : Value) (xs : List ByteArray) (su2 ty2 : Int) (u : Value) (ys : List ByteArray) (s : ByteArray) (w : World) (h : RowAt Value.string w v xs) (k : RowAt Value.string w u ys) (hn : xs.length ≤ 4611686018427387904) (hn2 : ys.length ≤ 4611686018427387904) (hm : Mx w) :
    Calls Tryd.prog 6 #[lineV su ty v, lineV su2 ty2 u, .string s] w fun e w' => e = .returned (.bool true) ∧ Below w.heap.size w w' := by
  obtain ⟨ao, cap, rfl⟩ := h.form
  obtain ⟨bo, cup, rfl⟩ := k.form
  obtain ⟨wx, hwx, bx, hz, hc⟩ := two_lines w (.int .i64 su) (.int .i64 ty) (.slice ao xs.length cap) (.int .i64 su2) (.int .i64 ty2) (.slice bo ys.length cup)
  have HA := Lib.hid hwx
  have RX := Lib.hid (h.below bx)
  have RY := Lib.hid (k.below bx)
  have HM := Lib.hid (hm.below bx)
  have BX := Lib.hid bx
  have HC := Lib.hid hc
  have F1 := Lib.hid (few_prog su ty (.slice ao xs.length cap) xs wx RX.out)
  clear h k hm hwx bx hz hc
  by_cases h1 : xs.length ≤ 12
  · rw [decide_eq_true h1] at F1
    by_cases h2 : ys.length ≤ 12
    · go_enter Tryd.func6, Tryd.ntmps6
      go_wp2_with fail
      rw [← HA.out]
      refine F1.out.mono ?_
      rintro e w1 ⟨rfl, b1⟩
      obtain ⟨c0, c1, c2, d0, d1, d2⟩ := HC.out w1 b1
      have B1 := Lib.hid b1
      have F2 := Lib.hid (few_prog su2 ty2 (.slice bo ys.length cup) ys w1 (RY.out.below b1))
      rw [decide_eq_true h2] at F2
      clear b1
      go_wp2_with fail
      refine F2.out.mono ?_
      rintro e w2 ⟨rfl, b2⟩
      have B2 := Lib.hid (B1.out.trans (b2.mono B1.out.size))
      clear b2 c0 c1 c2 d0 d1 d2
      have hG2 : Lx wx w2 := B2.out
      have HSA := Lib.hid (show sameL su ty xs su ty xs = true by simp [sameL])
      go_wp2_with fail
      refine wp_region_noPanic ?_
      refine wp_region_held_drew (S := fun w' => Lx wx w') (by kernel_rfl) (Lx.drew (by assumption)) (fun hHeld => ?_)
      refine wpAnyH_ready (rs := [0]) (by kernel_rfl) (by simp) ?_
      refine AllReadyH.cons (o := ?oiC0x) ?hiC0x (fun K hK => ?hsC0x) AllReadyH.nil
      case hiC0x => (simp only [List.getElem?_toArray, List.getElem?_cons_zero] <;> rfl)
      go_simp
      have hG2d : Lx wx w2.drew := Lx.drew hG2
      refine (alive10 w2.drew (HM.out.below (show Below wx.heap.size wx w2.drew from by assumption))).mono ?_
      rintro e w3 ⟨rfl, bw3⟩
      have hGw3 : Lx wx w3 := Lx.step (by assumption) bw3
      clear bw3
      go_wp2_with fail
      refine hK.out _ _ hGw3 (fun hHeldw3 => ?_)
      clear hK K
      try simp only [Act.put, List.setIfInBounds_toArray, List.set_cons_zero, List.set_cons_succ]
      refine wpAnyH_take (i := 1) (oi := ?oiC1x) (v := ?vC1x) ?hiC1x (by kernel_rfl) (by kernel_rfl) (by kernel_rfl) ?hqC1x ?hyC1x (by assumption) ?restC1x
      case hiC1x => (simp only [List.getElem?_toArray, List.getElem?_cons_succ, List.getElem?_cons_zero] <;> rfl)
      case hqC1x => exact fun _ _ _ h => h
      case hyC1x => exact Or.inl ⟨by rfl, by (intro wS hSw; obtain ⟨c0, c1, c2, d0, d1, d2⟩ := HC.out wS hSw; go_simp; try with_reducible rfl)⟩
      try simp only [Act.put, List.setIfInBounds_toArray, List.set_cons_zero, List.set_cons_succ]
      refine wpAnyH_take (i := 2) (oi := ?oiC2x) (v := ?vC2x) ?hiC2x (by kernel_rfl) (by kernel_rfl) (by kernel_rfl) ?hqC2x ?hyC2x (by assumption) ?restC2x
      case hiC2x => (simp only [List.getElem?_toArray, List.getElem?_cons_succ, List.getElem?_cons_zero] <;> rfl)
      case hqC2x => exact fun _ _ _ h => h
      case hyC2x => exact Or.inl ⟨by rfl, by (intro wS hSw; obtain ⟨c0, c1, c2, d0, d1, d2⟩ := HC.out wS hSw; go_simp; try with_reducible rfl)⟩
      try simp only [Act.put, List.setIfInBounds_toArray, List.set_cons_zero, List.set_cons_succ]
      refine wpAnyH_take (i := 4) (oi := ?oiC4x) (v := ?vC4x) ?hiC4x (by kernel_rfl) (by kernel_rfl) (by kernel_rfl) ?hqC4x ?hyC4x (by assumption) ?restC4x
      case hiC4x => (simp only [List.getElem?_toArray, List.getElem?_cons_succ, List.getElem?_cons_zero] <;> rfl)
      case hqC4x => exact fun _ _ _ h => h
      case hyC4x => exact Or.inl ⟨by rfl, by (intro wS hSw; obtain ⟨c0, c1, c2, d0, d1, d2⟩ := HC.out wS hSw; go_simp; try with_reducible rfl)⟩
      try simp only [Act.put, List.setIfInBounds_toArray, List.set_cons_zero, List.set_cons_succ]
      refine wpAnyH_ready (rs := [3]) (by kernel_rfl) (by simp) ?_
      refine AllReadyH.cons (o := ?oiC3x) ?hiC3x (fun K hK => ?hsC3x) AllReadyH.nil
      case hiC3x => (simp only [List.getElem?_toArray, List.getElem?_cons_succ, List.getElem?_cons_zero] <;> rfl)
      go_simp
      refine (isL_prog (su) (ty) (.slice ao xs.length cap) xs w3 (RX.out.below (show Below wx.heap.size wx w3 from by assumption)) hn (HM.out.below (show Below wx.heap.size wx w3 from by assumption))).mono ?_
      rintro e w4 ⟨rfl, bw4⟩
      have hGw4 : Lx wx w4 := Lx.step (by assumption) bw4
      clear bw4
      go_wp2_with fail
      refine hK.out _ _ hGw4 (fun hHeldw4 => ?_)
      clear hK K
      try simp only [Act.put, List.setIfInBounds_toArray, List.set_cons_zero, List.set_cons_succ]
      refine wpAnyH_ready (rs := [5]) (by kernel_rfl) (by simp) ?_
      refine AllReadyH.cons (o := ?oiC5x) ?hiC5x (fun K hK => ?hsC5x) AllReadyH.nil
      case hiC5x => (simp only [List.getElem?_toArray, List.getElem?_cons_succ, List.getElem?_cons_zero] <;> rfl)
      go_simp
      refine (isL_ref (su) (ty) (.slice ao xs.length cap) xs w4 (RX.out.below (show Below wx.heap.size wx w4 from by assumption)) hn).mono ?_
      rintro e w5 ⟨rfl, bw5⟩
      have hGw5 : Lx wx w5 := Lx.step (by assumption) bw5
      clear bw5
      go_wp2_with fail
      refine hK.out _ _ hGw5 (fun hHeldw5 => ?_)
      clear hK K
      try simp only [Act.put, List.setIfInBounds_toArray, List.set_cons_zero, List.set_cons_succ]
      refine wpAnyH_take (i := 6) (oi := ?oiC6x) (v := ?vC6x) ?hiC6x (by kernel_rfl) (by kernel_rfl) (by kernel_rfl) ?hqC6x ?hyC6x (by assumption) ?restC6x
      case hiC6x => (simp only [List.getElem?_toArray, List.getElem?_cons_succ, List.getElem?_cons_zero] <;> rfl)
      case hqC6x => exact fun _ _ _ h => h
      case hyC6x => exact Or.inl ⟨by rfl, by (intro wS hSw; obtain ⟨c0, c1, c2, d0, d1, d2⟩ := HC.out wS hSw; go_simp; try with_reducible rfl)⟩
      try simp only [Act.put, List.setIfInBounds_toArray, List.set_cons_zero, List.set_cons_succ]
      refine wpAnyH_take (i := 7) (oi := ?oiC7x) (v := ?vC7x) ?hiC7x (by kernel_rfl) (by kernel_rfl) (by kernel_rfl) ?hqC7x ?hyC7x (by assumption) ?restC7x
      case hiC7x => (simp only [List.getElem?_toArray, List.getElem?_cons_succ, List.getElem?_cons_zero] <;> rfl)
      case hqC7x => exact fun _ _ _ h => h
      case hyC7x => exact Or.inl ⟨by rfl, by (intro wS hSw; obtain ⟨c0, c1, c2, d0, d1, d2⟩ := HC.out wS hSw; go_simp; try with_reducible rfl)⟩
      try simp only [Act.put, List.setIfInBounds_toArray, List.set_cons_zero, List.set_cons_succ]
      refine wpAnyH_take (i := 8) (oi := ?oiC8x) (v := ?vC8x) ?hiC8x (by kernel_rfl) (by kernel_rfl) (by kernel_rfl) ?hqC8x ?hyC8x (by assumption) ?restC8x
      case hiC8x => (simp only [List.getElem?_toArray, List.getElem?_cons_succ, List.getElem?_cons_zero] <;> rfl)
      case hqC8x => exact fun _ _ _ h => h
      case hyC8x => exact Or.inl ⟨by rfl, by (intro wS hSw; obtain ⟨c0, c1, c2, d0, d1, d2⟩ := HC.out wS hSw; go_simp; try with_reducible rfl)⟩
      try simp only [Act.put, List.setIfInBounds_toArray, List.set_cons_zero, List.set_cons_succ]
      refine wpAnyH_take (i := 9) (oi := ?oiC9x) (v := ?vC9x) ?hiC9x (by kernel_rfl) (by kernel_rfl) (by kernel_rfl) ?hqC9x ?hyC9x (by assumption) ?restC9x
      case hiC9x => (simp only [List.getElem?_toArray, List.getElem?_cons_succ, List.getElem?_cons_zero] <;> rfl)
      case hqC9x => exact fun _ _ _ h => h
      case hyC9x => exact Or.inl ⟨by rfl, by (intro wS hSw; obtain ⟨c0, c1, c2, d0, d1, d2⟩ := HC.out wS hSw; go_simp; try with_reducible rfl)⟩
      try simp only [Act.put, List.setIfInBounds_toArray, List.set_cons_zero, List.set_cons_succ]
      refine wpAnyH_take (i := 10) (oi := ?oiC10x) (v := ?vC10x) ?hiC10x (by kernel_rfl) (by kernel_rfl) (by kernel_rfl) ?hqC10x ?hyC10x (by assumption) ?restC10x
      case hiC10x => (simp only [List.getElem?_toArray, List.getElem?_cons_succ, List.getElem?_cons_zero] <;> rfl)
      case hqC10x => exact fun _ _ _ h => h
      case hyC10x => exact Or.inl ⟨by rfl, by (intro wS hSw; obtain ⟨c0, c1, c2, d0, d1, d2⟩ := HC.out wS hSw; go_simp; try with_reducible rfl)⟩
      try simp only [Act.put, List.setIfInBounds_toArray, List.set_cons_zero, List.set_cons_succ]
      refine wpAnyH_take (i := 12) (oi := ?oiC12x) (v := ?vC12x) ?hiC12x (by kernel_rfl) (by kernel_rfl) (by kernel_rfl) ?hqC12x ?hyC12x (by assumption) ?restC12x
      case hiC12x => (simp only [List.getElem?_toArray, List.getElem?_cons_succ, List.getElem?_cons_zero] <;> rfl)
      case hqC12x => exact fun _ _ _ h => h
      case hyC12x => exact Or.inl ⟨by rfl, by (intro wS hSw; obtain ⟨c0, c1, c2, d0, d1, d2⟩ := HC.out wS hSw; go_simp; try with_reducible rfl)⟩
      try simp only [Act.put, List.setIfInBounds_toArray, List.set_cons_zero, List.set_cons_succ]
      refine wpAnyH_take (i := 13) (oi := ?oiC13x) (v := ?vC13x) ?hiC13x (by kernel_rfl) (by kernel_rfl) (by kernel_rfl) ?hqC13x ?hyC13x (by assumption) ?restC13x
      case hiC13x => (simp only [List.getElem?_toArray, List.getElem?_cons_succ, List.getElem?_cons_zero] <;> rfl)
      case hqC13x => exact fun _ _ _ h => h
      case hyC13x => exact Or.inl ⟨by rfl, by (intro wS hSw; obtain ⟨c0, c1, c2, d0, d1, d2⟩ := HC.out wS hSw; go_simp; try with_reducible rfl)⟩
      try simp only [Act.put, List.setIfInBounds_toArray, List.set_cons_zero, List.set_cons_succ]
      refine wpAnyH_ready (rs := [11]) (by kernel_rfl) (by simp) ?_
      refine AllReadyH.cons (o := ?oiC11x) ?hiC11x (fun K hK => ?hsC11x) AllReadyH.nil
      case hiC11x => (simp only [List.getElem?_toArray, List.getElem?_cons_succ, List.getElem?_cons_zero] <;> rfl)
      go_simp
      refine (hasSub_prog su ty _ xs s w5 (RX.out.below (show Below wx.heap.size wx w5 from by assumption)) hn).mono ?_
      rintro e w6 ⟨rfl, bw6⟩
      have hGw6 : Lx wx w6 := Lx.step (by assumption) bw6
      clear bw6
      go_wp2_with fail
      refine hK.out _ _ hGw6 (fun hHeldw6 => ?_)
      clear hK K
      try simp only [Act.put, List.setIfInBounds_toArray, List.set_cons_zero, List.set_cons_succ]
      refine wpAnyH_ready (rs := [14]) (by kernel_rfl) (by simp) ?_
      refine AllReadyH.cons (o := ?oiC14x) ?hiC14x (fun K hK => ?hsC14x) AllReadyH.nil
      case hiC14x => (simp only [List.getElem?_toArray, List.getElem?_cons_succ, List.getElem?_cons_zero] <;> rfl)
      go_simp
      refine (hasSub_ref su ty _ xs s w6 (RX.out.below (show Below wx.heap.size wx w6 from by assumption)) hn).mono ?_
      rintro e w7 ⟨rfl, bw7⟩
      have hGw7 : Lx wx w7 := Lx.step (by assumption) bw7
      clear bw7
      go_wp2_with fail
      refine hK.out _ _ hGw7 (fun hHeldw7 => ?_)
      clear hK K
      try simp only [Act.put, List.setIfInBounds_toArray, List.set_cons_zero, List.set_cons_succ]
      refine wpAnyH_take (i := 15) (oi := ?oiC15x) (v := ?vC15x) ?hiC15x (by kernel_rfl) (by kernel_rfl) (by kernel_rfl) ?hqC15x ?hyC15x (by assumption) ?restC15x
      case hiC15x => (simp only [List.getElem?_toArray, List.getElem?_cons_succ, List.getElem?_cons_zero] <;> rfl)
      case hqC15x => exact fun _ _ _ h => h
      case hyC15x => exact Or.inl ⟨by rfl, by (intro wS hSw; obtain ⟨c0, c1, c2, d0, d1, d2⟩ := HC.out wS hSw; go_simp; try with_reducible rfl)⟩
      try simp only [Act.put, List.setIfInBounds_toArray, List.set_cons_zero, List.set_cons_succ]
      refine wpAnyH_take (i := 16) (oi := ?oiC16x) (v := ?vC16x) ?hiC16x (by kernel_rfl) (by kernel_rfl) (by kernel_rfl) ?hqC16x ?hyC16x (by assumption) ?restC16x
      case hiC16x => (simp only [List.getElem?_toArray, List.getElem?_cons_succ, List.getElem?_cons_zero] <;> rfl)
      case hqC16x => exact fun _ _ _ h => h
      case hyC16x => exact Or.inl ⟨by rfl, by (intro wS hSw; obtain ⟨c0, c1, c2, d0, d1, d2⟩ := HC.out wS hSw; go_simp; try with_reducible rfl)⟩
      try simp only [Act.put, List.setIfInBounds_toArray, List.set_cons_zero, List.set_cons_succ]
      refine wpAnyH_take (i := 17) (oi := ?oiC17x) (v := ?vC17x) ?hiC17x (by kernel_rfl) (by kernel_rfl) (by kernel_rfl) ?hqC17x ?hyC17x (by assumption) ?restC17x
      case hiC17x => (simp only [List.getElem?_toArray, List.getElem?_cons_succ, List.getElem?_cons_zero] <;> rfl)
      case hqC17x => exact fun _ _ _ h => h
      case hyC17x => exact Or.inl ⟨by rfl, by (intro wS hSw; obtain ⟨c0, c1, c2, d0, d1, d2⟩ := HC.out wS hSw; go_simp; try with_reducible rfl)⟩
      try simp only [Act.put, List.setIfInBounds_toArray, List.set_cons_zero, List.set_cons_succ]
      refine wpAnyH_take (i := 18) (oi := ?oiC18x) (v := ?vC18x) ?hiC18x (by kernel_rfl) (by kernel_rfl) (by kernel_rfl) ?hqC18x ?hyC18x (by assumption) ?restC18x
      case hiC18x => (simp only [List.getElem?_toArray, List.getElem?_cons_succ, List.getElem?_cons_zero] <;> rfl)
      case hqC18x => exact fun _ _ _ h => h
      case hyC18x => exact Or.inl ⟨by rfl, by (intro wS hSw; obtain ⟨c0, c1, c2, d0, d1, d2⟩ := HC.out wS hSw; go_simp; try with_reducible rfl)⟩
      try simp only [Act.put, List.setIfInBounds_toArray, List.set_cons_zero, List.set_cons_succ]
      refine wpAnyH_take (i := 19) (oi := ?oiC19x) (v := ?vC19x) ?hiC19x (by kernel_rfl) (by kernel_rfl) (by kernel_rfl) ?hqC19x ?hyC19x (by assumption) ?restC19x
      case hiC19x => (simp only [List.getElem?_toArray, List.getElem?_cons_succ, List.getElem?_cons_zero] <;> rfl)
      case hqC19x => exact fun _ _ _ h => h
      case hyC19x => exact Or.inl ⟨by rfl, by (intro wS hSw; obtain ⟨c0, c1, c2, d0, d1, d2⟩ := HC.out wS hSw; go_simp; try with_reducible rfl)⟩
      try simp only [Act.put, List.setIfInBounds_toArray, List.set_cons_zero, List.set_cons_succ]
      refine wpAnyH_take (i := 21) (oi := ?oiC21x) (v := ?vC21x) ?hiC21x (by kernel_rfl) (by kernel_rfl) (by kernel_rfl) ?hqC21x ?hyC21x (by assumption) ?restC21x
      case hiC21x => (simp only [List.getElem?_toArray, List.getElem?_cons_succ, List.getElem?_cons_zero] <;> rfl)
      case hqC21x => exact fun _ _ _ h => h
      case hyC21x => exact Or.inl ⟨by rfl, by (intro wS hSw; obtain ⟨c0, c1, c2, d0, d1, d2⟩ := HC.out wS hSw; go_simp; try with_reducible rfl)⟩
      try simp only [Act.put, List.setIfInBounds_toArray, List.set_cons_zero, List.set_cons_succ]
      refine wpAnyH_take (i := 22) (oi := ?oiC22x) (v := ?vC22x) ?hiC22x (by kernel_rfl) (by kernel_rfl) (by kernel_rfl) ?hqC22x ?hyC22x (by assumption) ?restC22x
      case hiC22x => (simp only [List.getElem?_toArray, List.getElem?_cons_succ, List.getElem?_cons_zero] <;> rfl)
      case hqC22x => exact fun _ _ _ h => h
      case hyC22x => exact Or.inl ⟨by rfl, by (intro wS hSw; obtain ⟨c0, c1, c2, d0, d1, d2⟩ := HC.out wS hSw; go_simp; try with_reducible rfl)⟩
      try simp only [Act.put, List.setIfInBounds_toArray, List.set_cons_zero, List.set_cons_succ]
      refine wpAnyH_ready (rs := [20]) (by kernel_rfl) (by simp) ?_
      refine AllReadyH.cons (o := ?oiC20x) ?hiC20x (fun K hK => ?hsC20x) AllReadyH.nil
      case hiC20x => (simp only [List.getElem?_toArray, List.getElem?_cons_succ, List.getElem?_cons_zero] <;> rfl)
      go_simp
      refine (sameL_prog (su) (ty) (.slice ao xs.length cap) xs (su2) (ty2) (.slice bo ys.length cup) ys w7 (RX.out.below (show Below wx.heap.size wx w7 from by assumption)) (RY.out.below (show Below wx.heap.size wx w7 from by assumption)) hn hn2).mono ?_
      rintro e w8 ⟨rfl, bw8⟩
      have hGw8 : Lx wx w8 := Lx.step (by assumption) bw8
      clear bw8
      go_wp2_with fail
      refine hK.out _ _ hGw8 (fun hHeldw8 => ?_)
      clear hK K
      try simp only [Act.put, List.setIfInBounds_toArray, List.set_cons_zero, List.set_cons_succ]
      refine wpAnyH_ready (rs := [23]) (by kernel_rfl) (by simp) ?_
      refine AllReadyH.cons (o := ?oiC23x) ?hiC23x (fun K hK => ?hsC23x) AllReadyH.nil
      case hiC23x => (simp only [List.getElem?_toArray, List.getElem?_cons_succ, List.getElem?_cons_zero] <;> rfl)
      go_simp
      refine (sameL_ref (su) (ty) (.slice ao xs.length cap) xs (su2) (ty2) (.slice bo ys.length cup) ys w8 (RX.out.below (show Below wx.heap.size wx w8 from by assumption)) (RY.out.below (show Below wx.heap.size wx w8 from by assumption)) hn).mono ?_
      rintro e w9 ⟨rfl, bw9⟩
      have hGw9 : Lx wx w9 := Lx.step (by assumption) bw9
      clear bw9
      go_wp2_with fail
      refine hK.out _ _ hGw9 (fun hHeldw9 => ?_)
      clear hK K
      try simp only [Act.put, List.setIfInBounds_toArray, List.set_cons_zero, List.set_cons_succ]
      refine wpAnyH_take (i := 24) (oi := ?oiC24x) (v := ?vC24x) ?hiC24x (by kernel_rfl) (by kernel_rfl) (by kernel_rfl) ?hqC24x ?hyC24x (by assumption) ?restC24x
      case hiC24x => (simp only [List.getElem?_toArray, List.getElem?_cons_succ, List.getElem?_cons_zero] <;> rfl)
      case hqC24x => exact fun _ _ _ h => h
      case hyC24x => exact Or.inl ⟨by rfl, by (intro wS hSw; obtain ⟨c0, c1, c2, d0, d1, d2⟩ := HC.out wS hSw; go_simp; try with_reducible rfl)⟩
      try simp only [Act.put, List.setIfInBounds_toArray, List.set_cons_zero, List.set_cons_succ]
      refine wpAnyH_take (i := 25) (oi := ?oiC25x) (v := ?vC25x) ?hiC25x (by kernel_rfl) (by kernel_rfl) (by kernel_rfl) ?hqC25x ?hyC25x (by assumption) ?restC25x
      case hiC25x => (simp only [List.getElem?_toArray, List.getElem?_cons_succ, List.getElem?_cons_zero] <;> rfl)
      case hqC25x => exact fun _ _ _ h => h
      case hyC25x => exact Or.inl ⟨by rfl, by (intro wS hSw; obtain ⟨c0, c1, c2, d0, d1, d2⟩ := HC.out wS hSw; go_simp; try with_reducible rfl)⟩
      try simp only [Act.put, List.setIfInBounds_toArray, List.set_cons_zero, List.set_cons_succ]
      refine wpAnyH_take (i := 26) (oi := ?oiC26x) (v := ?vC26x) ?hiC26x (by kernel_rfl) (by kernel_rfl) (by kernel_rfl) ?hqC26x ?hyC26x (by assumption) ?restC26x
      case hiC26x => (simp only [List.getElem?_toArray, List.getElem?_cons_succ, List.getElem?_cons_zero] <;> rfl)
      case hqC26x => exact fun _ _ _ h => h
      case hyC26x => exact Or.inl ⟨by rfl, by (intro wS hSw; obtain ⟨c0, c1, c2, d0, d1, d2⟩ := HC.out wS hSw; go_simp; try with_reducible rfl)⟩
      try simp only [Act.put, List.setIfInBounds_toArray, List.set_cons_zero, List.set_cons_succ]
      refine wpAnyH_take (i := 27) (oi := ?oiC27x) (v := ?vC27x) ?hiC27x (by kernel_rfl) (by kernel_rfl) (by kernel_rfl) ?hqC27x ?hyC27x (by assumption) ?restC27x
      case hiC27x => (simp only [List.getElem?_toArray, List.getElem?_cons_succ, List.getElem?_cons_zero] <;> rfl)
      case hqC27x => exact fun _ _ _ h => h
      case hyC27x => exact Or.inl ⟨by rfl, by (intro wS hSw; obtain ⟨c0, c1, c2, d0, d1, d2⟩ := HC.out wS hSw; go_simp; try with_reducible rfl)⟩
      try simp only [Act.put, List.setIfInBounds_toArray, List.set_cons_zero, List.set_cons_succ]
      refine wpAnyH_take (i := 28) (oi := ?oiC28x) (v := ?vC28x) ?hiC28x (by kernel_rfl) (by kernel_rfl) (by kernel_rfl) ?hqC28x ?hyC28x (by assumption) ?restC28x
      case hiC28x => (simp only [List.getElem?_toArray, List.getElem?_cons_succ, List.getElem?_cons_zero] <;> rfl)
      case hqC28x => exact fun _ _ _ h => h
      case hyC28x => exact Or.inl ⟨by rfl, by (intro wS hSw; obtain ⟨c0, c1, c2, d0, d1, d2⟩ := HC.out wS hSw; go_simp; try with_reducible rfl)⟩
      try simp only [Act.put, List.setIfInBounds_toArray, List.set_cons_zero, List.set_cons_succ]
      refine wpAnyH_ready (rs := [29]) (by kernel_rfl) (by simp) ?_
      refine AllReadyH.cons (o := ?oiC29x) ?hiC29x (fun K hK => ?hsC29x) AllReadyH.nil
      case hiC29x => (simp only [List.getElem?_toArray, List.getElem?_cons_succ, List.getElem?_cons_zero] <;> rfl)
      go_simp
      refine (sameL_prog (su) (ty) (.slice ao xs.length cap) xs (su) (ty) (.slice ao xs.length cap) xs w9 (RX.out.below (show Below wx.heap.size wx w9 from by assumption)) (RX.out.below (show Below wx.heap.size wx w9 from by assumption)) hn hn).mono ?_
      rintro e w10 ⟨rfl, bw10⟩
      rw [HSA.out]
      have hGw10 : Lx wx w10 := Lx.step (by assumption) bw10
      clear bw10
      go_wp2_with fail
      refine hK.out _ _ hGw10 (fun hHeldw10 => ?_)
      clear hK K
      try simp only [Act.put, List.setIfInBounds_toArray, List.set_cons_zero, List.set_cons_succ]
      refine wpAnyH_take (i := 30) (oi := ?oiC30x) (v := ?vC30x) ?hiC30x (by kernel_rfl) (by kernel_rfl) (by kernel_rfl) ?hqC30x ?hyC30x (by assumption) ?restC30x
      case hiC30x => (simp only [List.getElem?_toArray, List.getElem?_cons_succ, List.getElem?_cons_zero] <;> rfl)
      case hqC30x => exact fun _ _ _ h => h
      case hyC30x => exact Or.inl ⟨by rfl, by (intro wS hSw; obtain ⟨c0, c1, c2, d0, d1, d2⟩ := HC.out wS hSw; go_simp; try with_reducible rfl)⟩
      try simp only [Act.put, List.setIfInBounds_toArray, List.set_cons_zero, List.set_cons_succ]
      refine wpAnyH_take (i := 31) (oi := ?oiC31x) (v := ?vC31x) ?hiC31x (by kernel_rfl) (by kernel_rfl) (by kernel_rfl) ?hqC31x ?hyC31x (by assumption) ?restC31x
      case hiC31x => (simp only [List.getElem?_toArray, List.getElem?_cons_succ, List.getElem?_cons_zero] <;> rfl)
      case hqC31x => exact fun _ _ _ h => h
      case hyC31x => exact Or.inl ⟨by rfl, by (intro wS hSw; obtain ⟨c0, c1, c2, d0, d1, d2⟩ := HC.out wS hSw; go_simp; try with_reducible rfl)⟩
      try simp only [Act.put, List.setIfInBounds_toArray, List.set_cons_zero, List.set_cons_succ]
      refine wpAnyH_take (i := 32) (oi := ?oiC32x) (v := ?vC32x) ?hiC32x (by kernel_rfl) (by kernel_rfl) (by kernel_rfl) ?hqC32x ?hyC32x (by assumption) ?restC32x
      case hiC32x => (simp only [List.getElem?_toArray, List.getElem?_cons_succ, List.getElem?_cons_zero] <;> rfl)
      case hqC32x => exact fun _ _ _ h => h
      case hyC32x => exact Or.inl ⟨by rfl, by (intro wS hSw; obtain ⟨c0, c1, c2, d0, d1, d2⟩ := HC.out wS hSw; go_simp; try with_reducible rfl)⟩
      try simp only [Act.put, List.setIfInBounds_toArray, List.set_cons_zero, List.set_cons_succ]
      refine wpAnyH_take (i := 34) (oi := ?oiC34x) (v := ?vC34x) ?hiC34x (by kernel_rfl) (by kernel_rfl) (by kernel_rfl) ?hqC34x ?hyC34x (by assumption) ?restC34x
      case hiC34x => (simp only [List.getElem?_toArray, List.getElem?_cons_succ, List.getElem?_cons_zero] <;> rfl)
      case hqC34x => exact fun _ _ _ h => h
      case hyC34x => exact Or.inl ⟨by rfl, by (intro wS hSw; obtain ⟨c0, c1, c2, d0, d1, d2⟩ := HC.out wS hSw; go_simp; try with_reducible rfl)⟩
      try simp only [Act.put, List.setIfInBounds_toArray, List.set_cons_zero, List.set_cons_succ]
      refine wpAnyH_ready (rs := [33]) (by kernel_rfl) (by simp) ?_
      refine AllReadyH.cons (o := ?oiC33x) ?hiC33x (fun K hK => ?hsC33x) AllReadyH.nil
      case hiC33x => (simp only [List.getElem?_toArray, List.getElem?_cons_succ, List.getElem?_cons_zero] <;> rfl)
      go_simp
      refine (isSub_prog s w10 (HM.out.below (show Below wx.heap.size wx w10 from by assumption))).mono ?_
      rintro e w11 ⟨rfl, bw11⟩
      have hGw11 : Lx wx w11 := Lx.step (by assumption) bw11
      clear bw11
      go_wp2_with fail
      refine hK.out _ _ hGw11 (fun hHeldw11 => ?_)
      clear hK K
      try simp only [Act.put, List.setIfInBounds_toArray, List.set_cons_zero, List.set_cons_succ]
      refine wpAnyH_ready (rs := [35]) (by kernel_rfl) (by simp) ?_
      refine AllReadyH.cons (o := ?oiC35x) ?hiC35x (fun K hK => ?hsC35x) AllReadyH.nil
      case hiC35x => (simp only [List.getElem?_toArray, List.getElem?_cons_succ, List.getElem?_cons_zero] <;> rfl)
      go_simp
      refine (isSub_ref s w11).mono ?_
      rintro e w12 ⟨rfl, bw12⟩
      have hGw12 : Lx wx w12 := Lx.step (by assumption) bw12
      clear bw12
      go_wp2_with fail
      refine hK.out _ _ hGw12 (fun hHeldw12 => ?_)
      clear hK K
      try simp only [Act.put, List.setIfInBounds_toArray, List.set_cons_zero, List.set_cons_succ]
      refine wpAnyH_take (i := 36) (oi := ?oiC36x) (v := ?vC36x) ?hiC36x (by kernel_rfl) (by kernel_rfl) (by kernel_rfl) ?hqC36x ?hyC36x (by assumption) ?restC36x
      case hiC36x => (simp only [List.getElem?_toArray, List.getElem?_cons_succ, List.getElem?_cons_zero] <;> rfl)
      case hqC36x => exact fun _ _ _ h => h
      case hyC36x => exact Or.inl ⟨by rfl, by (intro wS hSw; obtain ⟨c0, c1, c2, d0, d1, d2⟩ := HC.out wS hSw; go_simp; try with_reducible rfl)⟩
      try simp only [Act.put, List.setIfInBounds_toArray, List.set_cons_zero, List.set_cons_succ]
      refine wpAnyH_take (i := 37) (oi := ?oiC37x) (v := ?vC37x) ?hiC37x (by kernel_rfl) (by kernel_rfl) (by kernel_rfl) ?hqC37x ?hyC37x (by assumption) ?restC37x
      case hiC37x => (simp only [List.getElem?_toArray, List.getElem?_cons_succ, List.getElem?_cons_zero] <;> rfl)
      case hqC37x => exact fun _ _ _ h => h
      case hyC37x => exact Or.inl ⟨by rfl, by (intro wS hSw; obtain ⟨c0, c1, c2, d0, d1, d2⟩ := HC.out wS hSw; go_simp; try with_reducible rfl)⟩
      try simp only [Act.put, List.setIfInBounds_toArray, List.set_cons_zero, List.set_cons_succ]
      refine wpAnyH_take (i := 38) (oi := ?oiC38x) (v := ?vC38x) ?hiC38x (by kernel_rfl) (by kernel_rfl) (by kernel_rfl) ?hqC38x ?hyC38x (by assumption) ?restC38x
      case hiC38x => (simp only [List.getElem?_toArray, List.getElem?_cons_succ, List.getElem?_cons_zero] <;> rfl)
      case hqC38x => exact fun _ _ _ h => h
      case hyC38x => exact Or.inl ⟨by rfl, by (intro wS hSw; obtain ⟨c0, c1, c2, d0, d1, d2⟩ := HC.out wS hSw; go_simp; try with_reducible rfl)⟩
      try simp only [Act.put, List.setIfInBounds_toArray, List.set_cons_zero, List.set_cons_succ]
      refine wpAnyH_done (by kernel_rfl) ?_ _
      refine NoPanic.normal ?_
      go_wp2_with fail
      go_ret
      exact ⟨rfl, BX.out.trans (hGw12.mono BX.out.size)⟩
    · go_enter Tryd.func6, Tryd.ntmps6
      go_wp2_with fail
      rw [← HA.out]
      refine F1.out.mono ?_
      rintro e w1 ⟨rfl, b1⟩
      obtain ⟨c0, c1, c2, d0, d1, d2⟩ := HC.out w1 b1
      have B1 := Lib.hid b1
      have F2 := Lib.hid (few_prog su2 ty2 (.slice bo ys.length cup) ys w1 (RY.out.below b1))
      rw [decide_eq_false h2] at F2
      clear b1
      go_wp2_with fail
      refine F2.out.mono ?_
      rintro e w2 ⟨rfl, b2⟩
      have B2 := Lib.hid (B1.out.trans (b2.mono B1.out.size))
      clear b2 c0 c1 c2 d0 d1 d2
      have HL1 := Lib.hid (alive10 w2 (HM.out.below B2.out))
      go_wp2_with fail
      refine HL1.out.mono ?_
      rintro e w3 ⟨rfl, b3⟩
      go_wp2_with fail
      go_ret
      exact ⟨rfl, BX.out.trans ((B2.out.trans (b3.mono B2.out.size)).mono BX.out.size)⟩
  · rw [decide_eq_false h1] at F1
    go_enter Tryd.func6, Tryd.ntmps6
    go_wp2_with fail
    rw [← HA.out]
    refine F1.out.mono ?_
    rintro e w1 ⟨rfl, b1⟩
    have B1 := Lib.hid b1
    have HL1 := Lib.hid (alive10 w1 (HM.out.below b1))
    clear b1
    go_wp2_with fail
    refine HL1.out.mono ?_
    rintro e w2 ⟨rfl, b2⟩
    go_wp2_with fail
    go_ret
    exact ⟨rfl, BX.out.trans ((B1.out.trans (b2.mono B1.out.size)).mono BX.out.size)⟩
end Go.Proofs.YtgnffmlcjnnneaaDoor
