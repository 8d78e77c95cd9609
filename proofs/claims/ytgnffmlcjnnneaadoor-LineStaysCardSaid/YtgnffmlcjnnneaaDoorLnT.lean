/- Chapter 10: law LineTexts. -/
import Derived.Test.YtgnffmlcjnnneaaDoorLnV
import Derived.Test.YtgnffmlcjnnneaaDoorLnO
namespace Go.Proofs.YtgnffmlcjnnneaaDoor
open Go Go.RowKit Go.Sort Cg
/-- A line laid in a new block. -/
theorem one_line (w : World) (x y z : Value) : ∃ wx, wx = w.alloc (.cells #[x, y, z] 24) ∧ Below w.heap.size w wx ∧ wx.heap.size = w.heap.size + 1 ∧
    (∀ w', Below wx.heap.size wx w' → w'.cell? ⟨w.heap.size, 0, none⟩ = some x ∧ w'.cell? ⟨w.heap.size, 1, none⟩ = some y ∧ w'.cell? ⟨w.heap.size, 2, none⟩ = some z) := by
  refine ⟨_, rfl, (Below.refl w.heap.size w).alloc (Nat.le_refl _) _, ?_, fun w' hb => ?_⟩
  · show (w.heap.push _).size = _
    simp
  · have h1 : w'.heap[w.heap.size]? = some (.cells #[x, y, z] 24 (0, 0)) := (hb.block _ (by show w.heap.size < (w.heap.push _).size; simp)).trans (heap_alloc_new w _)
    exact ⟨cell_of_row _ _ 0 _ _ _ h1, cell_of_row _ _ 1 _ _ _ h1, cell_of_row _ _ 2 _ _ _ h1⟩
theorem parse_subs (s : ByteArray) : (parseL s).2.2.1.length ≤ 4 := by
  by_cases hp : pOk s
  · rw [parseL, if_pos hp]; exact (isL_parts hp.1).1.2.2.2.2.2
  · rw [parseL, if_neg hp]; exact Nat.zero_le _
theorem same_self (su ty : Int) (xs : List ByteArray) : sameL su ty xs su ty xs = true := by simp [sameL]
set_option maxRecDepth 100000 in
set_option maxHeartbeats 4000000 in
theorem law_lineTexts (su ty : Int) (v : Value) (xs : List ByteArray) (s : ByteArray) (w : World) (h : RowAt Value.string w v xs) (hn : xs.length ≤ 4611686018427387904) (hm : Mx w) :
    Calls Tryd.prog 3 #[lineV su ty v, .string s] w fun e w' => e = .returned (.bool true) ∧ Below w.heap.size w w' := by
  obtain ⟨ao, cap, rfl⟩ := h.form
  obtain ⟨wx, hwx, bx, hz, hc⟩ := one_line w (.int .i64 su) (.int .i64 ty) (.slice ao xs.length cap)
  have HA := Lib.hid hwx
  have RX := Lib.hid (h.below bx)
  have HM := Lib.hid (hm.below bx)
  have BX := Lib.hid bx
  have HC := Lib.hid hc
  have F1 := Lib.hid (few_prog su ty (.slice ao xs.length cap) xs wx RX.out)
  clear h hm hwx bx hz hc
  by_cases h1 : xs.length ≤ 12
  · rw [decide_eq_true h1] at F1
    by_cases h2 : s.size ≤ 300
    · have PP := fun (w' : World) (hm : Mx w') => parse_prog s (by omega) w' hm
      have PR := fun (w' : World) => parse_ref s (by omega) w'
      obtain ⟨⟨a, b, zs, c⟩, hr⟩ : ∃ r, r = parseL s := ⟨_, rfl⟩
      rw [← hr] at PP PR
      have hzl : zs.length ≤ 4611686018427387904 := by
        have hb := parse_subs s
        rw [← hr] at hb
        exact Nat.le_trans hb (by omega)
      have PP := Lib.hid PP
      have PR := Lib.hid PR
      clear hr
      have d2 : decide (300 < s.size) = false := decide_eq_false (by omega)
      have d3 : decide (300 < (s.size : Int)) = false := decide_eq_false (by omega)
      go_enter Tryd.func3, Tryd.ntmps3
      go_wp2_with fail
      rw [← HA.out]
      refine F1.out.mono ?_
      rintro e w1 ⟨rfl, b1⟩
      have B1 := Lib.hid b1
      clear b1
      go_wp2_with fail
      refine (PP.out w1 (HM.out.below B1.out)).mono ?_
      rintro e w2 ⟨v2, rfl, r2, b2⟩
      obtain ⟨a2, k2, rfl⟩ := r2.form
      have R2 := Lib.hid r2
      have B2 := Lib.hid (B1.out.trans (b2.mono B1.out.size))
      clear r2 b2
      obtain ⟨wy, hwy, by_, hzy, hcy⟩ := one_line w2 (.int .i64 a) (.int .i64 b) (.slice a2 zs.length k2)
      have HAY := Lib.hid hwy
      have HCY := Lib.hid hcy
      have BY := Lib.hid (B2.out.trans (by_.mono B2.out.size))
      have R2 := Lib.hid (R2.out.below by_)
      clear hwy by_ hzy hcy
      go_wp2_with fail
      rw [← HAY.out]
      refine (PR.out wy).mono ?_
      rintro e w3 ⟨v3, rfl, r3, b3⟩
      obtain ⟨a3, k3, rfl⟩ := r3.form
      have R3 := Lib.hid r3
      have B3 := Lib.hid b3
      clear r3 b3
      obtain ⟨wz, hwz, bz, hzz, hcz⟩ := one_line w3 (.int .i64 a) (.int .i64 b) (.slice a3 zs.length k3)
      have HAZ := Lib.hid hwz
      have HCZ := Lib.hid hcz
      have BYZ := Lib.hid (show Below wy.heap.size wy wz from B3.out.trans (bz.mono B3.out.size))
      have BZ := Lib.hid (show Below wx.heap.size wx wz from BY.out.trans (BYZ.out.mono BY.out.size))
      have R3 := Lib.hid (R3.out.below bz)
      have R2 := Lib.hid (R2.out.below BYZ.out)
      have RXZ := Lib.hid (RX.out.below BZ.out)
      have HMZ := Lib.hid (HM.out.below BZ.out)
      have HSS := Lib.hid (same_self a b zs)
      have C0 := Lib.hid (fun (w' : World) (h : Below wz.heap.size wz w') => HC.out w' (BZ.out.trans (h.mono BZ.out.size)))
      have C1 := Lib.hid (fun (w' : World) (h : Below wz.heap.size wz w') => HCY.out w' (BYZ.out.trans (h.mono BYZ.out.size)))
      clear hwz bz hzz hcz
      have q1 : ((c : Int) == c) = true := by simp
      go_wp2_with fail
      rw [← HAZ.out]
      have hG0 : Lx wz wz := Below.refl _ _
      have hG0d : Lx wz wz.drew := Lx.drew hG0
      have HT := Lib.hid (same_true (rfl : lineText su ty xs = lineText su ty xs))
      have HTX := Lib.hid (text_prog su ty (.slice ao xs.length cap) xs)
      have HTR := Lib.hid (text_ref su ty (.slice ao xs.length cap) xs)
      obtain ⟨t, ht⟩ : ∃ t, t = lineText su ty xs := ⟨_, rfl⟩
      rw [← ht] at HT HTX HTR
      clear ht
      have hst : (t.toList == t.toList) = true := HT.out
      refine wp_region_noPanic ?_
      refine wp_region_held_drew (S := fun w' => Lx wz w') (by kernel_rfl) (Lx.drew (by assumption)) (fun hHeld => ?_)
      refine wpAnyH_ready (rs := [0]) (by kernel_rfl) (by simp) ?_
      refine AllReadyH.cons (o := ?oiA0x) ?hiA0x (fun K hK => ?hsA0x) AllReadyH.nil
      case hiA0x => (simp only [List.getElem?_toArray, List.getElem?_cons_zero] <;> rfl)
      go_simp
      refine (alive10 wz.drew (HMZ.out.below (show Below wz.heap.size wz wz.drew from by assumption))).mono ?_
      rintro e w4 ⟨rfl, bw4⟩
      have hGw4 : Lx wz w4 := Lx.step (by assumption) bw4
      clear bw4
      go_wp2_with fail
      refine hK.out _ _ hGw4 (fun hHeldw4 => ?_)
      clear hK K
      try simp only [Act.put, List.setIfInBounds_toArray, List.set_cons_zero, List.set_cons_succ]
      refine wpAnyH_take (i := 1) (oi := ?oiA1x) (v := ?vA1x) ?hiA1x (by kernel_rfl) (by kernel_rfl) (by kernel_rfl) ?hqA1x ?hyA1x (by assumption) ?restA1x
      case hiA1x => (simp only [List.getElem?_toArray, List.getElem?_cons_succ, List.getElem?_cons_zero] <;> rfl)
      case hqA1x => exact fun _ _ _ h => h
      case hyA1x => exact Or.inl ⟨by rfl, by (intro wS hSw; obtain ⟨c0, c1, c2⟩ := C0.out wS hSw; obtain ⟨d0, d1, d2⟩ := C1.out wS hSw; obtain ⟨e0, e1, e2⟩ := HCZ.out wS hSw; go_simp; try with_reducible rfl)⟩
      try simp only [Act.put, List.setIfInBounds_toArray, List.set_cons_zero, List.set_cons_succ]
      refine wpAnyH_take (i := 2) (oi := ?oiA2x) (v := ?vA2x) ?hiA2x (by kernel_rfl) (by kernel_rfl) (by kernel_rfl) ?hqA2x ?hyA2x (by assumption) ?restA2x
      case hiA2x => (simp only [List.getElem?_toArray, List.getElem?_cons_succ, List.getElem?_cons_zero] <;> rfl)
      case hqA2x => exact fun _ _ _ h => h
      case hyA2x => exact Or.inl ⟨by rfl, by (intro wS hSw; obtain ⟨c0, c1, c2⟩ := C0.out wS hSw; obtain ⟨d0, d1, d2⟩ := C1.out wS hSw; obtain ⟨e0, e1, e2⟩ := HCZ.out wS hSw; go_simp; try with_reducible rfl)⟩
      try simp only [Act.put, List.setIfInBounds_toArray, List.set_cons_zero, List.set_cons_succ]
      refine wpAnyH_take (i := 4) (oi := ?oiA4x) (v := ?vA4x) ?hiA4x (by kernel_rfl) (by kernel_rfl) (by kernel_rfl) ?hqA4x ?hyA4x (by assumption) ?restA4x
      case hiA4x => (simp only [List.getElem?_toArray, List.getElem?_cons_succ, List.getElem?_cons_zero] <;> rfl)
      case hqA4x => exact fun _ _ _ h => h
      case hyA4x => exact Or.inl ⟨by rfl, by (intro wS hSw; obtain ⟨c0, c1, c2⟩ := C0.out wS hSw; obtain ⟨d0, d1, d2⟩ := C1.out wS hSw; obtain ⟨e0, e1, e2⟩ := HCZ.out wS hSw; go_simp; try with_reducible rfl)⟩
      try simp only [Act.put, List.setIfInBounds_toArray, List.set_cons_zero, List.set_cons_succ]
      refine wpAnyH_ready (rs := [3]) (by kernel_rfl) (by simp) ?_
      refine AllReadyH.cons (o := ?oiA3x) ?hiA3x (fun K hK => ?hsA3x) AllReadyH.nil
      case hiA3x => (simp only [List.getElem?_toArray, List.getElem?_cons_succ, List.getElem?_cons_zero] <;> rfl)
      go_simp
      refine (HTX.out w4 (RXZ.out.below (show Below wz.heap.size wz w4 from by assumption)) hn (HMZ.out.below (show Below wz.heap.size wz w4 from by assumption))).mono ?_
      rintro e w5 ⟨rfl, bw5⟩
      have hGw5 : Lx wz w5 := Lx.step (by assumption) bw5
      clear bw5
      go_wp2_with fail
      refine hK.out _ _ hGw5 (fun hHeldw5 => ?_)
      clear hK K
      try simp only [Act.put, List.setIfInBounds_toArray, List.set_cons_zero, List.set_cons_succ]
      refine wpAnyH_ready (rs := [5]) (by kernel_rfl) (by simp) ?_
      refine AllReadyH.cons (o := ?oiA5x) ?hiA5x (fun K hK => ?hsA5x) AllReadyH.nil
      case hiA5x => (simp only [List.getElem?_toArray, List.getElem?_cons_succ, List.getElem?_cons_zero] <;> rfl)
      go_simp
      refine (HTR.out w5 (RXZ.out.below (show Below wz.heap.size wz w5 from by assumption)) hn).mono ?_
      rintro e w6 ⟨rfl, bw6⟩
      have hGw6 : Lx wz w6 := Lx.step (by assumption) bw6
      clear bw6
      go_wp2_with fail
      refine hK.out _ _ hGw6 (fun hHeldw6 => ?_)
      clear hK K
      try simp only [Act.put, List.setIfInBounds_toArray, List.set_cons_zero, List.set_cons_succ]
      refine wpAnyH_take (i := 6) (oi := ?oiA6x) (v := ?vA6x) ?hiA6x (by kernel_rfl) (by kernel_rfl) (by kernel_rfl) ?hqA6x ?hyA6x (by assumption) ?restA6x
      case hiA6x => (simp only [List.getElem?_toArray, List.getElem?_cons_succ, List.getElem?_cons_zero] <;> rfl)
      case hqA6x => exact fun _ _ _ h => h
      case hyA6x => exact Or.inl ⟨by rfl, by (intro wS hSw; obtain ⟨c0, c1, c2⟩ := C0.out wS hSw; obtain ⟨d0, d1, d2⟩ := C1.out wS hSw; obtain ⟨e0, e1, e2⟩ := HCZ.out wS hSw; go_simp; try with_reducible rfl)⟩
      try simp only [Act.put, List.setIfInBounds_toArray, List.set_cons_zero, List.set_cons_succ]
      refine wpAnyH_take (i := 7) (oi := ?oiA7x) (v := ?vA7x) ?hiA7x (by kernel_rfl) (by kernel_rfl) (by kernel_rfl) ?hqA7x ?hyA7x (by assumption) ?restA7x
      case hiA7x => (simp only [List.getElem?_toArray, List.getElem?_cons_succ, List.getElem?_cons_zero] <;> rfl)
      case hqA7x => exact fun _ _ _ h => h
      case hyA7x => exact Or.inl ⟨by rfl, by (intro wS hSw; obtain ⟨c0, c1, c2⟩ := C0.out wS hSw; obtain ⟨d0, d1, d2⟩ := C1.out wS hSw; obtain ⟨e0, e1, e2⟩ := HCZ.out wS hSw; go_simp; try with_reducible rfl)⟩
      try simp only [Act.put, List.setIfInBounds_toArray, List.set_cons_zero, List.set_cons_succ]
      refine wpAnyH_take (i := 8) (oi := ?oiA8x) (v := ?vA8x) ?hiA8x (by kernel_rfl) (by kernel_rfl) (by kernel_rfl) ?hqA8x ?hyA8x (by assumption) ?restA8x
      case hiA8x => (simp only [List.getElem?_toArray, List.getElem?_cons_succ, List.getElem?_cons_zero] <;> rfl)
      case hqA8x => exact fun _ _ _ h => h
      case hyA8x => exact Or.inl ⟨by rfl, by (intro wS hSw; obtain ⟨c0, c1, c2⟩ := C0.out wS hSw; obtain ⟨d0, d1, d2⟩ := C1.out wS hSw; obtain ⟨e0, e1, e2⟩ := HCZ.out wS hSw; go_simp; try with_reducible rfl)⟩
      try simp only [Act.put, List.setIfInBounds_toArray, List.set_cons_zero, List.set_cons_succ]
      refine wpAnyH_take (i := 9) (oi := ?oiA9x) (v := ?vA9x) ?hiA9x (by kernel_rfl) (by kernel_rfl) (by kernel_rfl) ?hqA9x ?hyA9x (by assumption) ?restA9x
      case hiA9x => (simp only [List.getElem?_toArray, List.getElem?_cons_succ, List.getElem?_cons_zero] <;> rfl)
      case hqA9x => exact fun _ _ _ h => h
      case hyA9x => exact Or.inl ⟨by rfl, by (intro wS hSw; obtain ⟨c0, c1, c2⟩ := C0.out wS hSw; obtain ⟨d0, d1, d2⟩ := C1.out wS hSw; obtain ⟨e0, e1, e2⟩ := HCZ.out wS hSw; go_simp; try with_reducible rfl)⟩
      try simp only [Act.put, List.setIfInBounds_toArray, List.set_cons_zero, List.set_cons_succ]
      refine wpAnyH_take (i := 10) (oi := ?oiA10x) (v := ?vA10x) ?hiA10x (by kernel_rfl) (by kernel_rfl) (by kernel_rfl) ?hqA10x ?hyA10x (by assumption) ?restA10x
      case hiA10x => (simp only [List.getElem?_toArray, List.getElem?_cons_succ, List.getElem?_cons_zero] <;> rfl)
      case hqA10x => exact fun _ _ _ h => h
      case hyA10x => exact Or.inl ⟨by rfl, by (intro wS hSw; obtain ⟨c0, c1, c2⟩ := C0.out wS hSw; obtain ⟨d0, d1, d2⟩ := C1.out wS hSw; obtain ⟨e0, e1, e2⟩ := HCZ.out wS hSw; go_simp; try with_reducible rfl)⟩
      try simp only [Act.put, List.setIfInBounds_toArray, List.set_cons_zero, List.set_cons_succ]
      refine wpAnyH_take (i := 11) (oi := ?oiA11x) (v := ?vA11x) ?hiA11x (by kernel_rfl) (by kernel_rfl) (by kernel_rfl) ?hqA11x ?hyA11x (by assumption) ?restA11x
      case hiA11x => (simp only [List.getElem?_toArray, List.getElem?_cons_succ, List.getElem?_cons_zero] <;> rfl)
      case hqA11x => exact fun _ _ _ h => h
      case hyA11x => exact Or.inl ⟨by rfl, by (intro wS hSw; obtain ⟨c0, c1, c2⟩ := C0.out wS hSw; obtain ⟨d0, d1, d2⟩ := C1.out wS hSw; obtain ⟨e0, e1, e2⟩ := HCZ.out wS hSw; go_simp; try with_reducible rfl)⟩
      try simp only [Act.put, List.setIfInBounds_toArray, List.set_cons_zero, List.set_cons_succ]
      refine wpAnyH_take (i := 12) (oi := ?oiA12x) (v := ?vA12x) ?hiA12x (by kernel_rfl) (by kernel_rfl) (by kernel_rfl) ?hqA12x ?hyA12x (by assumption) ?restA12x
      case hiA12x => (simp only [List.getElem?_toArray, List.getElem?_cons_succ, List.getElem?_cons_zero] <;> rfl)
      case hqA12x => exact fun _ _ _ h => h
      case hyA12x => exact Or.inl ⟨by rfl, by (intro wS hSw; obtain ⟨c0, c1, c2⟩ := C0.out wS hSw; obtain ⟨d0, d1, d2⟩ := C1.out wS hSw; obtain ⟨e0, e1, e2⟩ := HCZ.out wS hSw; go_simp; try with_reducible rfl)⟩
      try simp only [Act.put, List.setIfInBounds_toArray, List.set_cons_zero, List.set_cons_succ]
      refine wpAnyH_take (i := 13) (oi := ?oiA13x) (v := ?vA13x) ?hiA13x (by kernel_rfl) (by kernel_rfl) (by kernel_rfl) ?hqA13x ?hyA13x (by assumption) ?restA13x
      case hiA13x => (simp only [List.getElem?_toArray, List.getElem?_cons_succ, List.getElem?_cons_zero] <;> rfl)
      case hqA13x => exact fun _ _ _ h => h
      case hyA13x => exact Or.inl ⟨by rfl, by (intro wS hSw; obtain ⟨c0, c1, c2⟩ := C0.out wS hSw; obtain ⟨d0, d1, d2⟩ := C1.out wS hSw; obtain ⟨e0, e1, e2⟩ := HCZ.out wS hSw; go_simp; try with_reducible rfl)⟩
      try simp only [Act.put, List.setIfInBounds_toArray, List.set_cons_zero, List.set_cons_succ]
      refine wpAnyH_take (i := 14) (oi := ?oiA14x) (v := ?vA14x) ?hiA14x (by kernel_rfl) (by kernel_rfl) (by kernel_rfl) ?hqA14x ?hyA14x (by assumption) ?restA14x
      case hiA14x => (simp only [List.getElem?_toArray, List.getElem?_cons_succ, List.getElem?_cons_zero] <;> rfl)
      case hqA14x => exact fun _ _ _ h => h
      case hyA14x => exact Or.inl ⟨by rfl, by (intro wS hSw; obtain ⟨c0, c1, c2⟩ := C0.out wS hSw; obtain ⟨d0, d1, d2⟩ := C1.out wS hSw; obtain ⟨e0, e1, e2⟩ := HCZ.out wS hSw; go_simp; try with_reducible rfl)⟩
      try simp only [Act.put, List.setIfInBounds_toArray, List.set_cons_zero, List.set_cons_succ]
      refine wpAnyH_take (i := 15) (oi := ?oiA15x) (v := ?vA15x) ?hiA15x (by kernel_rfl) (by kernel_rfl) (by kernel_rfl) ?hqA15x ?hyA15x (by assumption) ?restA15x
      case hiA15x => (simp only [List.getElem?_toArray, List.getElem?_cons_succ, List.getElem?_cons_zero] <;> rfl)
      case hqA15x => exact fun _ _ _ h => h
      case hyA15x => exact Or.inl ⟨by rfl, by (intro wS hSw; obtain ⟨c0, c1, c2⟩ := C0.out wS hSw; obtain ⟨d0, d1, d2⟩ := C1.out wS hSw; obtain ⟨e0, e1, e2⟩ := HCZ.out wS hSw; go_simp; try with_reducible rfl)⟩
      try simp only [Act.put, List.setIfInBounds_toArray, List.set_cons_zero, List.set_cons_succ]
      refine wpAnyH_ready (rs := [16]) (by kernel_rfl) (by simp) ?_
      refine AllReadyH.cons (o := ?oiA16x) ?hiA16x (fun K hK => ?hsA16x) AllReadyH.nil
      case hiA16x => (simp only [List.getElem?_toArray, List.getElem?_cons_succ, List.getElem?_cons_zero] <;> rfl)
      go_simp
      have HQ := Lib.hid (sameL_ref a b (.slice a2 zs.length k2) zs a b (.slice a3 zs.length k3) zs w6 (R2.out.below (show Below wz.heap.size wz w6 from by assumption)) (R3.out.below (show Below wz.heap.size wz w6 from by assumption)) hzl)
      rw [HSS.out] at HQ
      refine HQ.out.mono ?_
      rintro e w7 ⟨rfl, bw7⟩
      have hGw7 : Lx wz w7 := Lx.step (by assumption) bw7
      clear bw7
      go_wp2_with fail
      refine hK.out _ _ hGw7 (fun hHeldw7 => ?_)
      clear hK K
      try simp only [Act.put, List.setIfInBounds_toArray, List.set_cons_zero, List.set_cons_succ]
      refine wpAnyH_take (i := 17) (oi := ?oiA17x) (v := ?vA17x) ?hiA17x (by kernel_rfl) (by kernel_rfl) (by kernel_rfl) ?hqA17x ?hyA17x (by assumption) ?restA17x
      case hiA17x => (simp only [List.getElem?_toArray, List.getElem?_cons_succ, List.getElem?_cons_zero] <;> rfl)
      case hqA17x => exact fun _ _ _ h => h
      case hyA17x => exact Or.inl ⟨by rfl, by (intro wS hSw; obtain ⟨c0, c1, c2⟩ := C0.out wS hSw; obtain ⟨d0, d1, d2⟩ := C1.out wS hSw; obtain ⟨e0, e1, e2⟩ := HCZ.out wS hSw; go_simp; try with_reducible rfl)⟩
      try simp only [Act.put, List.setIfInBounds_toArray, List.set_cons_zero, List.set_cons_succ]
      refine wpAnyH_take (i := 18) (oi := ?oiA18x) (v := ?vA18x) ?hiA18x (by kernel_rfl) (by kernel_rfl) (by kernel_rfl) ?hqA18x ?hyA18x (by assumption) ?restA18x
      case hiA18x => (simp only [List.getElem?_toArray, List.getElem?_cons_succ, List.getElem?_cons_zero] <;> rfl)
      case hqA18x => exact fun _ _ _ h => h
      case hyA18x => exact Or.inl ⟨by rfl, by (intro wS hSw; obtain ⟨c0, c1, c2⟩ := C0.out wS hSw; obtain ⟨d0, d1, d2⟩ := C1.out wS hSw; obtain ⟨e0, e1, e2⟩ := HCZ.out wS hSw; go_simp; try with_reducible rfl)⟩
      try simp only [Act.put, List.setIfInBounds_toArray, List.set_cons_zero, List.set_cons_succ]
      refine wpAnyH_done (by kernel_rfl) ?_ _
      refine NoPanic.normal ?_
      go_wp2_with fail
      go_ret
      exact ⟨rfl, BX.out.trans ((BZ.out.trans (hGw7.mono BZ.out.size)).mono BX.out.size)⟩
    · have d2 : decide (300 < s.size) = true := decide_eq_true (by omega)
      have d3 : decide (300 < (s.size : Int)) = true := decide_eq_true (by omega)
      go_enter Tryd.func3, Tryd.ntmps3
      go_wp2_with fail
      rw [← HA.out]
      refine F1.out.mono ?_
      rintro e w1 ⟨rfl, b1⟩
      have B1 := Lib.hid b1
      clear b1
      go_wp2_with fail
      refine (alive10 w1 (HM.out.below B1.out)).mono ?_
      rintro e w2 ⟨rfl, b2⟩
      go_wp2_with fail
      go_ret
      exact ⟨rfl, BX.out.trans ((B1.out.trans (b2.mono B1.out.size)).mono BX.out.size)⟩
  · rw [decide_eq_false h1] at F1
    go_enter Tryd.func3, Tryd.ntmps3
    go_wp2_with fail
    rw [← HA.out]
    refine F1.out.mono ?_
    rintro e w1 ⟨rfl, b1⟩
    have B1 := Lib.hid b1
    clear b1
    go_wp2_with fail
    refine (alive10 w1 (HM.out.below B1.out)).mono ?_
    rintro e w2 ⟨rfl, b2⟩
    go_wp2_with fail
    go_ret
    exact ⟨rfl, BX.out.trans ((B1.out.trans (b2.mono B1.out.size)).mono BX.out.size)⟩
end Go.Proofs.YtgnffmlcjnnneaaDoor
