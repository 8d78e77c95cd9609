/- Chapter 10: law LineStays. -/
import Derived.Test.YtgnffmlcjnnneaaDoorLnX
namespace Go.Proofs.YtgnffmlcjnnneaaDoor
open Go Go.RowKit Go.Sort Cg
theorem geIdx_lt : ∀ (xs : List ByteArray) (s : ByteArray) (j : Nat), j < geIdx xs s → ltS (xs.getD j ByteArray.empty) s = true
  | [], s, j, h => by simp [geIdx] at h
  | x :: xs, s, j, h => by
    rw [geIdx_cons] at h
    by_cases hx : ltS x s = true
    · rw [if_pos hx] at h
      cases j with
      | zero => simpa using hx
      | succ j => simpa using geIdx_lt xs s j (by omega)
    · rw [if_neg hx] at h; omega
theorem geIdx_ge : ∀ (xs : List ByteArray) (s : ByteArray), geIdx xs s < xs.length → ltS (xs.getD (geIdx xs s) ByteArray.empty) s = false
  | [], s, h => by simp at h
  | x :: xs, s, h => by
    rw [geIdx_cons] at h ⊢
    by_cases hx : ltS x s = true
    · rw [if_pos hx] at h ⊢
      simpa using geIdx_ge xs s (by simpa using h)
    · rw [if_neg hx]
      simpa using hx
theorem insAt_lo (xs : List ByteArray) (i : Nat) (s : ByteArray) (hi : i ≤ xs.length) (j : Nat) (h : j < i) : (insAt xs i s).getD j ByteArray.empty = xs.getD j ByteArray.empty := by
  unfold insAt
  have hl : (xs.take i).length = i := by rw [List.length_take]; omega
  rw [getS_left _ _ _ (by omega), List.getD_eq_getElem?_getD, List.getElem?_take_of_lt h, ← List.getD_eq_getElem?_getD]
theorem insAt_at (xs : List ByteArray) (i : Nat) (s : ByteArray) (hi : i ≤ xs.length) : (insAt xs i s).getD i ByteArray.empty = s := by
  unfold insAt
  have hl : (xs.take i).length = i := by rw [List.length_take]; omega
  have := getS_right (xs.take i) (s :: xs.drop i) 0
  rw [hl, Nat.add_zero] at this
  rw [this]
  rfl
theorem insAt_hi (xs : List ByteArray) (i : Nat) (s : ByteArray) (hi : i ≤ xs.length) (d : Nat) : (insAt xs i s).getD (i + d + 1) ByteArray.empty = xs.getD (i + d) ByteArray.empty := by
  unfold insAt
  have hl : (xs.take i).length = i := by rw [List.length_take]; omega
  have := getS_right (xs.take i) (s :: xs.drop i) (d + 1)
  rw [hl, ← Nat.add_assoc] at this
  rw [this, List.getD_cons_succ, List.getD_eq_getElem?_getD, List.getElem?_drop, ← List.getD_eq_getElem?_getD]
theorem getS_mem (xs : List ByteArray) (j : Nat) (h : j < xs.length) : xs.getD j ByteArray.empty ∈ xs := by
  rw [List.getD_eq_getElem?_getD, List.getElem?_eq_getElem h]
  exact List.getElem_mem _
theorem ins_ok {xs : List ByteArray} {s : ByteArray} (h : SubsOk xs xs.length) (hs : isSub s = true) (hc : s ∉ xs) : SubsOk (insAt xs (geIdx xs s) s) (xs.length + 1) := by
  have hi := geIdx_le xs s
  have hlt := geIdx_lt xs s
  have hge := geIdx_ge xs s
  intro j hj
  rcases Nat.lt_trichotomy j (geIdx xs s) with hji | hji | hji
  · have hh := h j (by omega)
    rw [insAt_lo _ _ _ hi j hji]
    refine ⟨hh.1, fun h0 => ?_⟩
    rw [insAt_lo _ _ _ hi (j - 1) (by omega)]
    exact hh.2 h0
  · have e : (insAt xs (geIdx xs s) s).getD j ByteArray.empty = s := by rw [hji]; exact insAt_at _ _ _ hi
    rw [e]
    refine ⟨hs, fun h0 => ?_⟩
    rw [insAt_lo _ _ _ hi (j - 1) (by omega)]
    exact hlt (j - 1) (by omega)
  · obtain ⟨d, hd⟩ : ∃ d, j = geIdx xs s + d + 1 := ⟨j - geIdx xs s - 1, by omega⟩
    have e : (insAt xs (geIdx xs s) s).getD j ByteArray.empty = xs.getD (geIdx xs s + d) ByteArray.empty := by rw [hd]; exact insAt_hi _ _ _ hi d
    have hh := h (geIdx xs s + d) (by omega)
    rw [e]
    refine ⟨hh.1, fun _ => ?_⟩
    cases d with
    | zero =>
      have e2 : (insAt xs (geIdx xs s) s).getD (j - 1) ByteArray.empty = s := by rw [show j - 1 = geIdx xs s by omega]; exact insAt_at _ _ _ hi
      rw [e2, Nat.add_zero]
      have hl : geIdx xs s < xs.length := by omega
      cases hb : ltS s (xs.getD (geIdx xs s) ByteArray.empty)
      · exact absurd (ltS_ord.conn _ _ hb (hge hl)) (fun e => hc (by rw [e]; exact getS_mem _ _ hl))
      · rfl
    | succ d =>
      have e2 : (insAt xs (geIdx xs s) s).getD (j - 1) ByteArray.empty = xs.getD (geIdx xs s + d) ByteArray.empty := by rw [show j - 1 = geIdx xs s + d + 1 by omega]; exact insAt_hi _ _ _ hi d
      rw [e2]
      have := hh.2 (by omega)
      rwa [show geIdx xs s + (d + 1) - 1 = geIdx xs s + d by omega] at this
theorem addL_ok {su ty : Int} {xs : List ByteArray} (s : ByteArray) (h : isL su ty xs = true) : isL su ty (addL xs s) = true := by
  unfold addL
  split
  · rename_i hm
    obtain ⟨h1, h2⟩ : headOk su ty xs.length ∧ SubsOk xs xs.length := of_decide_eq_true h
    have hl := insAt_len xs (geIdx xs s) s (geIdx_le xs s)
    obtain ⟨a, b, c, d, e, _⟩ := h1
    refine isL_good ⟨a, b, c, d, e, by rw [hl]; omega⟩ ?_
    rw [hl]
    exact ins_ok h2 hm.1 (fun hmem => by
      have := (Lib.containsS_iff xs s).2 hmem
      rw [hm.2.1] at this
      cases this)
  · exact h
theorem addL_more {xs : List ByteArray} {s : ByteArray} (h1 : isSub s = true) (h2 : Lib.containsS xs s = false) (h3 : xs.length < 4) : (addL xs s).length = xs.length + 1 ∧ Lib.containsS (addL xs s) s = true ∧ addL (addL xs s) s = addL xs s := by
  have e : addL xs s = insAt xs (geIdx xs s) s := by rw [addL, if_pos ⟨h1, h2, h3⟩]
  have hc : Lib.containsS (addL xs s) s = true := (Lib.containsS_iff _ _).2 (by rw [e]; unfold insAt; simp)
  refine ⟨by rw [e]; exact insAt_len _ _ _ (geIdx_le xs s), hc, ?_⟩
  rw [addL, if_neg (fun h => by rw [hc] at h; exact Bool.noConfusion h.2.1)]
theorem addL_same {xs : List ByteArray} {s : ByteArray} (h : ¬ (isSub s = true ∧ Lib.containsS xs s = false ∧ xs.length < 4)) : addL xs s = xs ∧ addL (addL xs s) s = addL xs s := by
  have e : addL xs s = xs := by rw [addL, if_neg h]
  exact ⟨e, by rw [e]; exact e⟩
set_option maxRecDepth 100000 in
set_option maxHeartbeats 16000000 in
theorem law_lineStays (su ty : Int) (v : Value) (xs : List ByteArray) (s : ByteArray) (w : World) (h : RowAt Value.string w v xs) (hn : xs.length ≤ 4611686018427387904) (hm : Mx w) :
    Calls Tryd.prog 8 #[lineV su ty v, .string s] w fun e w' => e = .returned (.bool true) ∧ Below w.heap.size w w' := by
  obtain ⟨ao, cap, rfl⟩ := h.form
  obtain ⟨wx, hwx, bx, hz, hc⟩ := one_line w (.int .i64 su) (.int .i64 ty) (.slice ao xs.length cap)
  have HA := Lib.hid hwx
  have RX := Lib.hid (h.below bx)
  have HM := Lib.hid (hm.below bx)
  have BX := Lib.hid bx
  have HC := Lib.hid hc
  have F1 := Lib.hid (few_prog su ty (.slice ao xs.length cap) xs wx RX.out)
  clear h hm hwx bx hz hc
  by_cases h1 : xs.length ≤ 12
  · rw [decide_eq_true h1] at F1
    have HI := Lib.hid (fun (w' : World) (b : Below wx.heap.size wx w') => isL_prog su ty (.slice ao xs.length cap) xs w' (RX.out.below b) hn (HM.out.below b))
    cases hv : isL su ty xs
    · rw [hv] at HI
      clear hv
      go_enter Tryd.func8, Tryd.ntmps8
      go_wp2_with fail
      rw [← HA.out]
      refine F1.out.mono ?_
      rintro e w1 ⟨rfl, b1⟩
      have B1 := Lib.hid b1
      clear b1
      obtain ⟨c0, c1, c2⟩ := HC.out w1 B1.out
      go_wp2_with fail
      refine (HI.out w1 B1.out).mono ?_
      rintro e w2 ⟨rfl, b2⟩
      have B2 := Lib.hid (B1.out.trans (b2.mono B1.out.size))
      clear b2 c0 c1 c2
      go_wp2_with fail
      refine (alive10 w2 (HM.out.below B2.out)).mono ?_
      rintro e w3 ⟨rfl, b3⟩
      go_wp2_with fail
      go_ret
      exact ⟨rfl, BX.out.trans ((B2.out.trans (b3.mono B2.out.size)).mono BX.out.size)⟩
    · have HOK := Lib.hid (addL_ok s hv)
      rw [hv] at HI
      clear hv
      go_enter Tryd.func8, Tryd.ntmps8
      go_wp2_with fail
      rw [← HA.out]
      refine F1.out.mono ?_
      rintro e w1 ⟨rfl, b1⟩
      have B1 := Lib.hid b1
      clear b1
      obtain ⟨c0, c1, c2⟩ := HC.out w1 B1.out
      go_wp2_with fail
      refine (HI.out w1 B1.out).mono ?_
      rintro e w2 ⟨rfl, b2⟩
      have B2 := Lib.hid (B1.out.trans (b2.mono B1.out.size))
      clear b2 c0 c1 c2
      obtain ⟨c0, c1, c2⟩ := HC.out w2 B2.out
      go_wp2_with fail
      refine (addSub_prog su ty (.slice ao xs.length cap) xs s w2 (RX.out.below B2.out) (by omega) (HM.out.below B2.out)).mono ?_
      rintro e w3 ⟨va, rfl, ra, b3⟩
      obtain ⟨aa, ka, rfl⟩ := ra.form
      have B3 := Lib.hid (B2.out.trans (b3.mono B2.out.size))
      obtain ⟨wz, hwz, bz, hzz, hcz⟩ := one_line w3 (.int .i64 su) (.int .i64 ty) (.slice aa (addL xs s).length ka)
      have HAZ := Lib.hid hwz
      have CA := Lib.hid hcz
      have RAZ := Lib.hid (ra.below bz)
      have BZ := Lib.hid (B3.out.trans (bz.mono B3.out.size))
      have C0 := Lib.hid (fun (w' : World) (h : Below wz.heap.size wz w') => HC.out w' (BZ.out.trans (h.mono BZ.out.size)))
      have HMZ := Lib.hid (HM.out.below BZ.out)
      have RXZ := Lib.hid (RX.out.below BZ.out)
      have hzs : (addL xs s).length ≤ 1000 := Nat.le_trans (addL_len xs s) (by omega)
      have hzl : (addL xs s).length ≤ 4611686018427387904 := Nat.le_trans hzs (by omega)
      clear ra b3 hwz bz hzz hcz c0 c1 c2
      cases hs : isSub s
      · obtain ⟨hl, haa⟩ := addL_same (xs := xs) (s := s) (fun h => by rw [hs] at h; exact Bool.noConfusion h.1)
        have HAA := Lib.hid haa
        have hll : (addL xs s).length = xs.length := by rw [hl]
        obtain ⟨zs, hzs'⟩ : ∃ zs, zs = addL xs s := ⟨_, rfl⟩
        rw [← hzs'] at HAA hll hzs hzl RAZ CA HAZ HOK ⊢
        have HIA := HOK
        have HLL := Lib.hid hll
        have hw : ((zs.length : Int) == (xs.length : Int)) = true := by rw [hll]; simp
        clear hl haa hzs' hll
        have HQ := Lib.hid (isSub_prog s wz HMZ.out)
        rw [hs] at HQ
        clear hs
        go_wp2_with fail
        rw [← HAZ.out]
        refine HQ.out.mono ?_
        rintro e x1 ⟨rfl, bx1⟩
        have Gx1 := Lib.hid bx1
        clear bx1 HQ
        obtain ⟨c0, c1, c2⟩ := C0.out x1 Gx1.out
        obtain ⟨d0, d1, d2⟩ := CA.out x1 Gx1.out
        go_wp2_with fail
        obtain ⟨wv, hwv⟩ : ∃ wv, wv = x1 := ⟨_, rfl⟩
        have G0 : Below wz.heap.size wz x1 := Gx1.out
        clear hwv c0 c1 c2 d0 d1 d2
        have hGv : Lx wz x1 := G0
        have hGd : Lx wz x1.drew := Lx.drew hGv
        clear G0
        refine wp_region_noPanic ?_
        refine wp_region_held_drew (S := fun w' => Lx wz w') (by kernel_rfl) (Lx.drew (by assumption)) (fun hHeld => ?_)
        refine wpAnyH_ready (rs := [0]) (by kernel_rfl) (by simp) ?_
        refine AllReadyH.cons (o := ?oiA0x) ?hiA0x (fun K hK => ?hsA0x) AllReadyH.nil
        case hiA0x => (simp only [List.getElem?_toArray, List.getElem?_cons_zero] <;> rfl)
        go_simp
        have HQ := Lib.hid (alive10 x1.drew (HMZ.out.below (show Below wz.heap.size wz x1.drew from by assumption)))
        refine HQ.out.mono ?_
        rintro e y1 ⟨rfl, by1⟩
        have hGy1 : Lx wz y1 := Lx.step (by assumption) by1
        clear by1 HQ
        go_wp2_with fail
        refine hK.out _ _ hGy1 (fun hHeldy1 => ?_)
        clear hK K
        try simp only [Act.put, List.setIfInBounds_toArray, List.set_cons_zero, List.set_cons_succ]
        refine wpAnyH_take (i := 1) (oi := ?oiA1x) (v := ?vA1x) ?hiA1x (by kernel_rfl) (by kernel_rfl) (by kernel_rfl) ?hqA1x ?hyA1x (by assumption) ?restA1x
        case hiA1x => (simp only [List.getElem?_toArray, List.getElem?_cons_succ, List.getElem?_cons_zero] <;> rfl)
        case hqA1x => exact fun _ _ _ h => h
        case hyA1x => exact Or.inl ⟨by rfl, by (intro wS hSw; obtain ⟨c0, c1, c2⟩ := C0.out wS hSw; obtain ⟨d0, d1, d2⟩ := CA.out wS hSw; go_simp; try with_reducible rfl)⟩
        try simp only [Act.put, List.setIfInBounds_toArray, List.set_cons_zero, List.set_cons_succ]
        refine wpAnyH_take (i := 2) (oi := ?oiA2x) (v := ?vA2x) ?hiA2x (by kernel_rfl) (by kernel_rfl) (by kernel_rfl) ?hqA2x ?hyA2x (by assumption) ?restA2x
        case hiA2x => (simp only [List.getElem?_toArray, List.getElem?_cons_succ, List.getElem?_cons_zero] <;> rfl)
        case hqA2x => exact fun _ _ _ h => h
        case hyA2x => exact Or.inl ⟨by rfl, by (intro wS hSw; obtain ⟨c0, c1, c2⟩ := C0.out wS hSw; obtain ⟨d0, d1, d2⟩ := CA.out wS hSw; go_simp; try with_reducible rfl)⟩
        try simp only [Act.put, List.setIfInBounds_toArray, List.set_cons_zero, List.set_cons_succ]
        refine wpAnyH_ready (rs := [3]) (by kernel_rfl) (by simp) ?_
        refine AllReadyH.cons (o := ?oiA3x) ?hiA3x (fun K hK => ?hsA3x) AllReadyH.nil
        case hiA3x => (simp only [List.getElem?_toArray, List.getElem?_cons_succ, List.getElem?_cons_zero] <;> rfl)
        go_simp
        have HQ := Lib.hid (isL_prog su ty (.slice aa zs.length ka) zs y1 (RAZ.out.below (show Below wz.heap.size wz y1 from by assumption)) hzl (HMZ.out.below (show Below wz.heap.size wz y1 from by assumption)))
        rw [HIA.out] at HQ
        refine HQ.out.mono ?_
        rintro e y2 ⟨rfl, by2⟩
        have hGy2 : Lx wz y2 := Lx.step (by assumption) by2
        clear by2 HQ
        go_wp2_with fail
        refine hK.out _ _ hGy2 (fun hHeldy2 => ?_)
        clear hK K
        try simp only [Act.put, List.setIfInBounds_toArray, List.set_cons_zero, List.set_cons_succ]
        refine wpAnyH_take (i := 4) (oi := ?oiA4x) (v := ?vA4x) ?hiA4x (by kernel_rfl) (by kernel_rfl) (by kernel_rfl) ?hqA4x ?hyA4x (by assumption) ?restA4x
        case hiA4x => (simp only [List.getElem?_toArray, List.getElem?_cons_succ, List.getElem?_cons_zero] <;> rfl)
        case hqA4x => exact fun _ _ _ h => h
        case hyA4x => exact Or.inl ⟨by rfl, by (intro wS hSw; obtain ⟨c0, c1, c2⟩ := C0.out wS hSw; obtain ⟨d0, d1, d2⟩ := CA.out wS hSw; go_simp; try with_reducible rfl)⟩
        try simp only [Act.put, List.setIfInBounds_toArray, List.set_cons_zero, List.set_cons_succ]
        refine wpAnyH_take (i := 5) (oi := ?oiA5x) (v := ?vA5x) ?hiA5x (by kernel_rfl) (by kernel_rfl) (by kernel_rfl) ?hqA5x ?hyA5x (by assumption) ?restA5x
        case hiA5x => (simp only [List.getElem?_toArray, List.getElem?_cons_succ, List.getElem?_cons_zero] <;> rfl)
        case hqA5x => exact fun _ _ _ h => h
        case hyA5x => exact Or.inl ⟨by rfl, by (intro wS hSw; obtain ⟨c0, c1, c2⟩ := C0.out wS hSw; obtain ⟨d0, d1, d2⟩ := CA.out wS hSw; go_simp; try with_reducible rfl)⟩
        try simp only [Act.put, List.setIfInBounds_toArray, List.set_cons_zero, List.set_cons_succ]
        refine wpAnyH_take (i := 6) (oi := ?oiA6x) (v := ?vA6x) ?hiA6x (by kernel_rfl) (by kernel_rfl) (by kernel_rfl) ?hqA6x ?hyA6x (by assumption) ?restA6x
        case hiA6x => (simp only [List.getElem?_toArray, List.getElem?_cons_succ, List.getElem?_cons_zero] <;> rfl)
        case hqA6x => exact fun _ _ _ h => h
        case hyA6x => exact Or.inl ⟨by rfl, by (intro wS hSw; obtain ⟨c0, c1, c2⟩ := C0.out wS hSw; obtain ⟨d0, d1, d2⟩ := CA.out wS hSw; go_simp; try with_reducible rfl)⟩
        try simp only [Act.put, List.setIfInBounds_toArray, List.set_cons_zero, List.set_cons_succ]
        refine wpAnyH_take (i := 7) (oi := ?oiA7x) (v := ?vA7x) ?hiA7x (by kernel_rfl) (by kernel_rfl) (by kernel_rfl) ?hqA7x ?hyA7x (by assumption) ?restA7x
        case hiA7x => (simp only [List.getElem?_toArray, List.getElem?_cons_succ, List.getElem?_cons_zero] <;> rfl)
        case hqA7x => exact fun _ _ _ h => h
        case hyA7x => exact Or.inl ⟨by rfl, by (intro wS hSw; obtain ⟨c0, c1, c2⟩ := C0.out wS hSw; obtain ⟨d0, d1, d2⟩ := CA.out wS hSw; go_simp; try with_reducible rfl)⟩
        try simp only [Act.put, List.setIfInBounds_toArray, List.set_cons_zero, List.set_cons_succ]
        refine wpAnyH_take (i := 8) (oi := ?oiA8x) (v := ?vA8x) ?hiA8x (by kernel_rfl) (by kernel_rfl) (by kernel_rfl) ?hqA8x ?hyA8x (by assumption) ?restA8x
        case hiA8x => (simp only [List.getElem?_toArray, List.getElem?_cons_succ, List.getElem?_cons_zero] <;> rfl)
        case hqA8x => exact fun _ _ _ h => h
        case hyA8x => exact Or.inl ⟨by rfl, by (intro wS hSw; obtain ⟨c0, c1, c2⟩ := C0.out wS hSw; obtain ⟨d0, d1, d2⟩ := CA.out wS hSw; go_simp; try with_reducible rfl)⟩
        try simp only [Act.put, List.setIfInBounds_toArray, List.set_cons_zero, List.set_cons_succ]
        refine wpAnyH_take (i := 9) (oi := ?oiA9x) (v := ?vA9x) ?hiA9x (by kernel_rfl) (by kernel_rfl) (by kernel_rfl) ?hqA9x ?hyA9x (by assumption) ?restA9x
        case hiA9x => (simp only [List.getElem?_toArray, List.getElem?_cons_succ, List.getElem?_cons_zero] <;> rfl)
        case hqA9x => exact fun _ _ _ h => h
        case hyA9x => exact Or.inl ⟨by rfl, by (intro wS hSw; obtain ⟨c0, c1, c2⟩ := C0.out wS hSw; obtain ⟨d0, d1, d2⟩ := CA.out wS hSw; go_simp; try with_reducible rfl)⟩
        try simp only [Act.put, List.setIfInBounds_toArray, List.set_cons_zero, List.set_cons_succ]
        refine wpAnyH_take (i := 10) (oi := ?oiA10x) (v := ?vA10x) ?hiA10x (by kernel_rfl) (by kernel_rfl) (by kernel_rfl) ?hqA10x ?hyA10x (by assumption) ?restA10x
        case hiA10x => (simp only [List.getElem?_toArray, List.getElem?_cons_succ, List.getElem?_cons_zero] <;> rfl)
        case hqA10x => exact fun _ _ _ h => h
        case hyA10x => exact Or.inl ⟨by rfl, by (intro wS hSw; obtain ⟨c0, c1, c2⟩ := C0.out wS hSw; obtain ⟨d0, d1, d2⟩ := CA.out wS hSw; go_simp; try with_reducible rfl)⟩
        try simp only [Act.put, List.setIfInBounds_toArray, List.set_cons_zero, List.set_cons_succ]
        refine wpAnyH_take (i := 11) (oi := ?oiA11x) (v := ?vA11x) ?hiA11x (by kernel_rfl) (by kernel_rfl) (by kernel_rfl) ?hqA11x ?hyA11x (by assumption) ?restA11x
        case hiA11x => (simp only [List.getElem?_toArray, List.getElem?_cons_succ, List.getElem?_cons_zero] <;> rfl)
        case hqA11x => exact fun _ _ _ h => h
        case hyA11x => exact Or.inl ⟨by rfl, by (intro wS hSw; obtain ⟨c0, c1, c2⟩ := C0.out wS hSw; obtain ⟨d0, d1, d2⟩ := CA.out wS hSw; go_simp; try with_reducible rfl)⟩
        try simp only [Act.put, List.setIfInBounds_toArray, List.set_cons_zero, List.set_cons_succ]
        refine wpAnyH_take (i := 12) (oi := ?oiA12x) (v := ?vA12x) ?hiA12x (by kernel_rfl) (by kernel_rfl) (by kernel_rfl) ?hqA12x ?hyA12x (by assumption) ?restA12x
        case hiA12x => (simp only [List.getElem?_toArray, List.getElem?_cons_succ, List.getElem?_cons_zero] <;> rfl)
        case hqA12x => exact fun _ _ _ h => h
        case hyA12x => exact Or.inl ⟨by rfl, by (intro wS hSw; obtain ⟨c0, c1, c2⟩ := C0.out wS hSw; obtain ⟨d0, d1, d2⟩ := CA.out wS hSw; go_simp; try with_reducible rfl)⟩
        try simp only [Act.put, List.setIfInBounds_toArray, List.set_cons_zero, List.set_cons_succ]
        refine wpAnyH_take (i := 13) (oi := ?oiA13x) (v := ?vA13x) ?hiA13x (by kernel_rfl) (by kernel_rfl) (by kernel_rfl) ?hqA13x ?hyA13x (by assumption) ?restA13x
        case hiA13x => (simp only [List.getElem?_toArray, List.getElem?_cons_succ, List.getElem?_cons_zero] <;> rfl)
        case hqA13x => exact fun _ _ _ h => h
        case hyA13x => exact Or.inl ⟨by rfl, by (intro wS hSw; obtain ⟨c0, c1, c2⟩ := C0.out wS hSw; obtain ⟨d0, d1, d2⟩ := CA.out wS hSw; go_simp; try with_reducible rfl)⟩
        try simp only [Act.put, List.setIfInBounds_toArray, List.set_cons_zero, List.set_cons_succ]
        refine wpAnyH_take (i := 14) (oi := ?oiA14x) (v := ?vA14x) ?hiA14x (by kernel_rfl) (by kernel_rfl) (by kernel_rfl) ?hqA14x ?hyA14x (by assumption) ?restA14x
        case hiA14x => (simp only [List.getElem?_toArray, List.getElem?_cons_succ, List.getElem?_cons_zero] <;> rfl)
        case hqA14x => exact fun _ _ _ h => h
        case hyA14x => exact Or.inl ⟨by rfl, by (intro wS hSw; obtain ⟨c0, c1, c2⟩ := C0.out wS hSw; obtain ⟨d0, d1, d2⟩ := CA.out wS hSw; go_simp; try with_reducible rfl)⟩
        try simp only [Act.put, List.setIfInBounds_toArray, List.set_cons_zero, List.set_cons_succ]
        refine wpAnyH_take (i := 16) (oi := ?oiA16x) (v := ?vA16x) ?hiA16x (by kernel_rfl) (by kernel_rfl) (by kernel_rfl) ?hqA16x ?hyA16x (by assumption) ?restA16x
        case hiA16x => (simp only [List.getElem?_toArray, List.getElem?_cons_succ, List.getElem?_cons_zero] <;> rfl)
        case hqA16x => exact fun _ _ _ h => h
        case hyA16x => exact Or.inl ⟨by rfl, by (intro wS hSw; obtain ⟨c0, c1, c2⟩ := C0.out wS hSw; obtain ⟨d0, d1, d2⟩ := CA.out wS hSw; go_simp; try with_reducible rfl)⟩
        try simp only [Act.put, List.setIfInBounds_toArray, List.set_cons_zero, List.set_cons_succ]
        refine wpAnyH_ready (rs := [15]) (by kernel_rfl) (by simp) ?_
        refine AllReadyH.cons (o := ?oiA15x) ?hiA15x (fun K hK => ?hsA15x) AllReadyH.nil
        case hiA15x => (simp only [List.getElem?_toArray, List.getElem?_cons_succ, List.getElem?_cons_zero] <;> rfl)
        go_simp
        have HQ := Lib.hid (addSub_prog su ty (.slice aa zs.length ka) zs s y2 (RAZ.out.below (show Below wz.heap.size wz y2 from by assumption)) hzs (HMZ.out.below (show Below wz.heap.size wz y2 from by assumption)))
        rw [HAA.out] at HQ
        refine HQ.out.mono ?_
        rintro e y3 ⟨vb, rfl, rb, by3⟩
        have hGy3 : Lx wz y3 := Lx.step (by assumption) by3
        obtain ⟨ab, kb, rfl⟩ := rb.form
        have RB := Lib.hid rb
        clear by3 HQ rb
        go_wp2_with fail
        refine hK.out _ _ hGy3 (fun hHeldy3 => ?_)
        clear hK K
        try simp only [Act.put, List.setIfInBounds_toArray, List.set_cons_zero, List.set_cons_succ]
        refine wpAnyH_ready (rs := [17]) (by kernel_rfl) (by simp) ?_
        refine AllReadyH.cons (o := ?oiA17x) ?hiA17x (fun K hK => ?hsA17x) AllReadyH.nil
        case hiA17x => (simp only [List.getElem?_toArray, List.getElem?_cons_succ, List.getElem?_cons_zero] <;> rfl)
        go_simp
        have HQ := Lib.hid (sameL_prog su ty (.slice ab zs.length kb) zs su ty (.slice aa zs.length ka) zs y3 RB.out (RAZ.out.below (show Below wz.heap.size wz y3 from by assumption)) hzl hzl)
        rw [same_self] at HQ
        refine HQ.out.mono ?_
        rintro e y4 ⟨rfl, by4⟩
        have hGy4 : Lx wz y4 := Lx.step (by assumption) by4
        clear by4 HQ
        go_wp2_with fail
        refine hK.out _ _ hGy4 (fun hHeldy4 => ?_)
        clear hK K
        try simp only [Act.put, List.setIfInBounds_toArray, List.set_cons_zero, List.set_cons_succ]
        refine wpAnyH_take (i := 18) (oi := ?oiA18x) (v := ?vA18x) ?hiA18x (by kernel_rfl) (by kernel_rfl) (by kernel_rfl) ?hqA18x ?hyA18x (by assumption) ?restA18x
        case hiA18x => (simp only [List.getElem?_toArray, List.getElem?_cons_succ, List.getElem?_cons_zero] <;> rfl)
        case hqA18x => exact fun _ _ _ h => h
        case hyA18x => exact Or.inl ⟨by rfl, by (intro wS hSw; obtain ⟨c0, c1, c2⟩ := C0.out wS hSw; obtain ⟨d0, d1, d2⟩ := CA.out wS hSw; go_simp; try with_reducible rfl)⟩
        try simp only [Act.put, List.setIfInBounds_toArray, List.set_cons_zero, List.set_cons_succ]
        refine wpAnyH_take (i := 19) (oi := ?oiA19x) (v := ?vA19x) ?hiA19x (by kernel_rfl) (by kernel_rfl) (by kernel_rfl) ?hqA19x ?hyA19x (by assumption) ?restA19x
        case hiA19x => (simp only [List.getElem?_toArray, List.getElem?_cons_succ, List.getElem?_cons_zero] <;> rfl)
        case hqA19x => exact fun _ _ _ h => h
        case hyA19x => exact Or.inl ⟨by rfl, by (intro wS hSw; obtain ⟨c0, c1, c2⟩ := C0.out wS hSw; obtain ⟨d0, d1, d2⟩ := CA.out wS hSw; go_simp; try with_reducible rfl)⟩
        try simp only [Act.put, List.setIfInBounds_toArray, List.set_cons_zero, List.set_cons_succ]
        refine wpAnyH_take (i := 20) (oi := ?oiA20x) (v := ?vA20x) ?hiA20x (by kernel_rfl) (by kernel_rfl) (by kernel_rfl) ?hqA20x ?hyA20x (by assumption) ?restA20x
        case hiA20x => (simp only [List.getElem?_toArray, List.getElem?_cons_succ, List.getElem?_cons_zero] <;> rfl)
        case hqA20x => exact fun _ _ _ h => h
        case hyA20x => exact Or.inl ⟨by rfl, by (intro wS hSw; obtain ⟨c0, c1, c2⟩ := C0.out wS hSw; obtain ⟨d0, d1, d2⟩ := CA.out wS hSw; go_simp; try with_reducible rfl)⟩
        try simp only [Act.put, List.setIfInBounds_toArray, List.set_cons_zero, List.set_cons_succ]
        refine wpAnyH_take (i := 21) (oi := ?oiA21x) (v := ?vA21x) ?hiA21x (by kernel_rfl) (by kernel_rfl) (by kernel_rfl) ?hqA21x ?hyA21x (by assumption) ?restA21x
        case hiA21x => (simp only [List.getElem?_toArray, List.getElem?_cons_succ, List.getElem?_cons_zero] <;> rfl)
        case hqA21x => exact fun _ _ _ h => h
        case hyA21x => exact Or.inl ⟨by rfl, by (intro wS hSw; obtain ⟨c0, c1, c2⟩ := C0.out wS hSw; obtain ⟨d0, d1, d2⟩ := CA.out wS hSw; go_simp; try with_reducible rfl)⟩
        try simp only [Act.put, List.setIfInBounds_toArray, List.set_cons_zero, List.set_cons_succ]
        refine wpAnyH_take (i := 22) (oi := ?oiA22x) (v := ?vA22x) ?hiA22x (by kernel_rfl) (by kernel_rfl) (by kernel_rfl) ?hqA22x ?hyA22x (by assumption) ?restA22x
        case hiA22x => (simp only [List.getElem?_toArray, List.getElem?_cons_succ, List.getElem?_cons_zero] <;> rfl)
        case hqA22x => exact fun _ _ _ h => h
        case hyA22x => exact Or.inl ⟨by rfl, by (intro wS hSw; obtain ⟨c0, c1, c2⟩ := C0.out wS hSw; obtain ⟨d0, d1, d2⟩ := CA.out wS hSw; go_simp; try with_reducible rfl)⟩
        try simp only [Act.put, List.setIfInBounds_toArray, List.set_cons_zero, List.set_cons_succ]
        refine wpAnyH_take (i := 23) (oi := ?oiA23x) (v := undef) ?hiA23x (by kernel_rfl) (by kernel_rfl) (by kernel_rfl) ?hqA23x ?hyA23x (by assumption) ?restA23x
        case hiA23x => (simp only [List.getElem?_toArray, List.getElem?_cons_succ, List.getElem?_cons_zero] <;> rfl)
        case hqA23x => exact fun _ _ _ h => h
        case hyA23x => exact Or.inr ⟨by kernel_rfl, rfl⟩
        try simp only [Act.put, List.setIfInBounds_toArray, List.set_cons_zero, List.set_cons_succ]
        refine wpAnyH_take (i := 24) (oi := ?oiA24x) (v := undef) ?hiA24x (by kernel_rfl) (by kernel_rfl) (by kernel_rfl) ?hqA24x ?hyA24x (by assumption) ?restA24x
        case hiA24x => (simp only [List.getElem?_toArray, List.getElem?_cons_succ, List.getElem?_cons_zero] <;> rfl)
        case hqA24x => exact fun _ _ _ h => h
        case hyA24x => exact Or.inr ⟨by kernel_rfl, rfl⟩
        try simp only [Act.put, List.setIfInBounds_toArray, List.set_cons_zero, List.set_cons_succ]
        refine wpAnyH_take (i := 25) (oi := ?oiA25x) (v := undef) ?hiA25x (by kernel_rfl) (by kernel_rfl) (by kernel_rfl) ?hqA25x ?hyA25x (by assumption) ?restA25x
        case hiA25x => (simp only [List.getElem?_toArray, List.getElem?_cons_succ, List.getElem?_cons_zero] <;> rfl)
        case hqA25x => exact fun _ _ _ h => h
        case hyA25x => exact Or.inr ⟨by kernel_rfl, rfl⟩
        try simp only [Act.put, List.setIfInBounds_toArray, List.set_cons_zero, List.set_cons_succ]
        refine wpAnyH_take (i := 26) (oi := ?oiA26x) (v := ?vA26x) ?hiA26x (by kernel_rfl) (by kernel_rfl) (by kernel_rfl) ?hqA26x ?hyA26x (by assumption) ?restA26x
        case hiA26x => (simp only [List.getElem?_toArray, List.getElem?_cons_succ, List.getElem?_cons_zero] <;> rfl)
        case hqA26x => exact fun _ _ _ h => h
        case hyA26x => exact Or.inl ⟨by rfl, by (intro wS hSw; obtain ⟨c0, c1, c2⟩ := C0.out wS hSw; obtain ⟨d0, d1, d2⟩ := CA.out wS hSw; go_simp; try with_reducible rfl)⟩
        try simp only [Act.put, List.setIfInBounds_toArray, List.set_cons_zero, List.set_cons_succ]
        refine wpAnyH_take (i := 27) (oi := ?oiA27x) (v := ?vA27x) ?hiA27x (by kernel_rfl) (by kernel_rfl) (by kernel_rfl) ?hqA27x ?hyA27x (by assumption) ?restA27x
        case hiA27x => (simp only [List.getElem?_toArray, List.getElem?_cons_succ, List.getElem?_cons_zero] <;> rfl)
        case hqA27x => exact fun _ _ _ h => h
        case hyA27x => exact Or.inl ⟨by rfl, by (intro wS hSw; obtain ⟨c0, c1, c2⟩ := C0.out wS hSw; obtain ⟨d0, d1, d2⟩ := CA.out wS hSw; go_simp; try with_reducible rfl)⟩
        try simp only [Act.put, List.setIfInBounds_toArray, List.set_cons_zero, List.set_cons_succ]
        refine wpAnyH_take (i := 28) (oi := ?oiA28x) (v := ?vA28x) ?hiA28x (by kernel_rfl) (by kernel_rfl) (by kernel_rfl) ?hqA28x ?hyA28x (by assumption) ?restA28x
        case hiA28x => (simp only [List.getElem?_toArray, List.getElem?_cons_succ, List.getElem?_cons_zero] <;> rfl)
        case hqA28x => exact fun _ _ _ h => h
        case hyA28x => exact Or.inl ⟨by rfl, by (intro wS hSw; obtain ⟨c0, c1, c2⟩ := C0.out wS hSw; obtain ⟨d0, d1, d2⟩ := CA.out wS hSw; go_simp; try with_reducible rfl)⟩
        try simp only [Act.put, List.setIfInBounds_toArray, List.set_cons_zero, List.set_cons_succ]
        refine wpAnyH_take (i := 29) (oi := ?oiA29x) (v := ?vA29x) ?hiA29x (by kernel_rfl) (by kernel_rfl) (by kernel_rfl) ?hqA29x ?hyA29x (by assumption) ?restA29x
        case hiA29x => (simp only [List.getElem?_toArray, List.getElem?_cons_succ, List.getElem?_cons_zero] <;> rfl)
        case hqA29x => exact fun _ _ _ h => h
        case hyA29x => exact Or.inl ⟨by rfl, by (intro wS hSw; obtain ⟨c0, c1, c2⟩ := C0.out wS hSw; obtain ⟨d0, d1, d2⟩ := CA.out wS hSw; go_simp; try with_reducible rfl)⟩
        try simp only [Act.put, List.setIfInBounds_toArray, List.set_cons_zero, List.set_cons_succ]
        refine wpAnyH_take (i := 30) (oi := ?oiA30x) (v := ?vA30x) ?hiA30x (by kernel_rfl) (by kernel_rfl) (by kernel_rfl) ?hqA30x ?hyA30x (by assumption) ?restA30x
        case hiA30x => (simp only [List.getElem?_toArray, List.getElem?_cons_succ, List.getElem?_cons_zero] <;> rfl)
        case hqA30x => exact fun _ _ _ h => h
        case hyA30x => exact Or.inl ⟨by rfl, by (intro wS hSw; obtain ⟨c0, c1, c2⟩ := C0.out wS hSw; obtain ⟨d0, d1, d2⟩ := CA.out wS hSw; go_simp; try with_reducible rfl)⟩
        try simp only [Act.put, List.setIfInBounds_toArray, List.set_cons_zero, List.set_cons_succ]
        refine wpAnyH_take (i := 31) (oi := ?oiA31x) (v := ?vA31x) ?hiA31x (by kernel_rfl) (by kernel_rfl) (by kernel_rfl) ?hqA31x ?hyA31x (by assumption) ?restA31x
        case hiA31x => (simp only [List.getElem?_toArray, List.getElem?_cons_succ, List.getElem?_cons_zero] <;> rfl)
        case hqA31x => exact fun _ _ _ h => h
        case hyA31x => exact Or.inl ⟨by rfl, by (intro wS hSw; obtain ⟨c0, c1, c2⟩ := C0.out wS hSw; obtain ⟨d0, d1, d2⟩ := CA.out wS hSw; go_simp; try with_reducible rfl)⟩
        try simp only [Act.put, List.setIfInBounds_toArray, List.set_cons_zero, List.set_cons_succ]
        refine wpAnyH_take (i := 32) (oi := ?oiA32x) (v := ?vA32x) ?hiA32x (by kernel_rfl) (by kernel_rfl) (by kernel_rfl) ?hqA32x ?hyA32x (by assumption) ?restA32x
        case hiA32x => (simp only [List.getElem?_toArray, List.getElem?_cons_succ, List.getElem?_cons_zero] <;> rfl)
        case hqA32x => exact fun _ _ _ h => h
        case hyA32x => exact Or.inl ⟨by rfl, by (intro wS hSw; obtain ⟨c0, c1, c2⟩ := C0.out wS hSw; obtain ⟨d0, d1, d2⟩ := CA.out wS hSw; go_simp; try with_reducible rfl)⟩
        try simp only [Act.put, List.setIfInBounds_toArray, List.set_cons_zero, List.set_cons_succ]
        refine wpAnyH_take (i := 33) (oi := ?oiA33x) (v := ?vA33x) ?hiA33x (by kernel_rfl) (by kernel_rfl) (by kernel_rfl) ?hqA33x ?hyA33x (by assumption) ?restA33x
        case hiA33x => (simp only [List.getElem?_toArray, List.getElem?_cons_succ, List.getElem?_cons_zero] <;> rfl)
        case hqA33x => exact fun _ _ _ h => h
        case hyA33x => exact Or.inl ⟨by rfl, by (intro wS hSw; obtain ⟨c0, c1, c2⟩ := C0.out wS hSw; obtain ⟨d0, d1, d2⟩ := CA.out wS hSw; go_simp; try with_reducible rfl)⟩
        try simp only [Act.put, List.setIfInBounds_toArray, List.set_cons_zero, List.set_cons_succ]
        refine wpAnyH_take (i := 34) (oi := ?oiA34x) (v := ?vA34x) ?hiA34x (by kernel_rfl) (by kernel_rfl) (by kernel_rfl) ?hqA34x ?hyA34x (by assumption) ?restA34x
        case hiA34x => (simp only [List.getElem?_toArray, List.getElem?_cons_succ, List.getElem?_cons_zero] <;> rfl)
        case hqA34x => exact fun _ _ _ h => h
        case hyA34x => exact Or.inl ⟨by rfl, by (intro wS hSw; obtain ⟨c0, c1, c2⟩ := C0.out wS hSw; obtain ⟨d0, d1, d2⟩ := CA.out wS hSw; go_simp; try with_reducible rfl)⟩
        try simp only [Act.put, List.setIfInBounds_toArray, List.set_cons_zero, List.set_cons_succ]
        refine wpAnyH_take (i := 35) (oi := ?oiA35x) (v := ?vA35x) ?hiA35x (by kernel_rfl) (by kernel_rfl) (by kernel_rfl) ?hqA35x ?hyA35x (by assumption) ?restA35x
        case hiA35x => (simp only [List.getElem?_toArray, List.getElem?_cons_succ, List.getElem?_cons_zero] <;> rfl)
        case hqA35x => exact fun _ _ _ h => h
        case hyA35x => exact Or.inl ⟨by rfl, by (intro wS hSw; obtain ⟨c0, c1, c2⟩ := C0.out wS hSw; obtain ⟨d0, d1, d2⟩ := CA.out wS hSw; go_simp; try with_reducible rfl)⟩
        try simp only [Act.put, List.setIfInBounds_toArray, List.set_cons_zero, List.set_cons_succ]
        refine wpAnyH_take (i := 36) (oi := ?oiA36x) (v := ?vA36x) ?hiA36x (by kernel_rfl) (by kernel_rfl) (by kernel_rfl) ?hqA36x ?hyA36x (by assumption) ?restA36x
        case hiA36x => (simp only [List.getElem?_toArray, List.getElem?_cons_succ, List.getElem?_cons_zero] <;> rfl)
        case hqA36x => exact fun _ _ _ h => h
        case hyA36x => exact Or.inl ⟨by rfl, by (intro wS hSw; obtain ⟨c0, c1, c2⟩ := C0.out wS hSw; obtain ⟨d0, d1, d2⟩ := CA.out wS hSw; go_simp; try with_reducible rfl)⟩
        try simp only [Act.put, List.setIfInBounds_toArray, List.set_cons_zero, List.set_cons_succ]
        refine wpAnyH_take (i := 37) (oi := ?oiA37x) (v := ?vA37x) ?hiA37x (by kernel_rfl) (by kernel_rfl) (by kernel_rfl) ?hqA37x ?hyA37x (by assumption) ?restA37x
        case hiA37x => (simp only [List.getElem?_toArray, List.getElem?_cons_succ, List.getElem?_cons_zero] <;> rfl)
        case hqA37x => exact fun _ _ _ h => h
        case hyA37x => exact Or.inl ⟨by rfl, by (intro wS hSw; obtain ⟨c0, c1, c2⟩ := C0.out wS hSw; obtain ⟨d0, d1, d2⟩ := CA.out wS hSw; go_simp; try with_reducible rfl)⟩
        try simp only [Act.put, List.setIfInBounds_toArray, List.set_cons_zero, List.set_cons_succ]
        refine wpAnyH_take (i := 38) (oi := ?oiA38x) (v := ?vA38x) ?hiA38x (by kernel_rfl) (by kernel_rfl) (by kernel_rfl) ?hqA38x ?hyA38x (by assumption) ?restA38x
        case hiA38x => (simp only [List.getElem?_toArray, List.getElem?_cons_succ, List.getElem?_cons_zero] <;> rfl)
        case hqA38x => exact fun _ _ _ h => h
        case hyA38x => exact Or.inl ⟨by rfl, by (intro wS hSw; obtain ⟨c0, c1, c2⟩ := C0.out wS hSw; obtain ⟨d0, d1, d2⟩ := CA.out wS hSw; go_simp; try with_reducible rfl)⟩
        try simp only [Act.put, List.setIfInBounds_toArray, List.set_cons_zero, List.set_cons_succ]
        refine wpAnyH_take (i := 39) (oi := ?oiA39x) (v := ?vA39x) ?hiA39x (by kernel_rfl) (by kernel_rfl) (by kernel_rfl) ?hqA39x ?hyA39x (by assumption) ?restA39x
        case hiA39x => (simp only [List.getElem?_toArray, List.getElem?_cons_succ, List.getElem?_cons_zero] <;> rfl)
        case hqA39x => exact fun _ _ _ h => h
        case hyA39x => exact Or.inl ⟨by rfl, by (intro wS hSw; obtain ⟨c0, c1, c2⟩ := C0.out wS hSw; obtain ⟨d0, d1, d2⟩ := CA.out wS hSw; go_simp; try with_reducible rfl)⟩
        try simp only [Act.put, List.setIfInBounds_toArray, List.set_cons_zero, List.set_cons_succ]
        refine wpAnyH_take (i := 40) (oi := ?oiA40x) (v := ?vA40x) ?hiA40x (by kernel_rfl) (by kernel_rfl) (by kernel_rfl) ?hqA40x ?hyA40x (by assumption) ?restA40x
        case hiA40x => (simp only [List.getElem?_toArray, List.getElem?_cons_succ, List.getElem?_cons_zero] <;> rfl)
        case hqA40x => exact fun _ _ _ h => h
        case hyA40x => exact Or.inl ⟨by rfl, by (intro wS hSw; obtain ⟨c0, c1, c2⟩ := C0.out wS hSw; obtain ⟨d0, d1, d2⟩ := CA.out wS hSw; go_simp; try with_reducible rfl)⟩
        try simp only [Act.put, List.setIfInBounds_toArray, List.set_cons_zero, List.set_cons_succ]
        refine wpAnyH_take (i := 41) (oi := ?oiA41x) (v := ?vA41x) ?hiA41x (by kernel_rfl) (by kernel_rfl) (by kernel_rfl) ?hqA41x ?hyA41x (by assumption) ?restA41x
        case hiA41x => (simp only [List.getElem?_toArray, List.getElem?_cons_succ, List.getElem?_cons_zero] <;> rfl)
        case hqA41x => exact fun _ _ _ h => h
        case hyA41x => exact Or.inl ⟨by rfl, by (intro wS hSw; obtain ⟨c0, c1, c2⟩ := C0.out wS hSw; obtain ⟨d0, d1, d2⟩ := CA.out wS hSw; go_simp; try with_reducible rfl)⟩
        try simp only [Act.put, List.setIfInBounds_toArray, List.set_cons_zero, List.set_cons_succ]
        refine wpAnyH_take (i := 42) (oi := ?oiA42x) (v := ?vA42x) ?hiA42x (by kernel_rfl) (by kernel_rfl) (by kernel_rfl) ?hqA42x ?hyA42x (by assumption) ?restA42x
        case hiA42x => (simp only [List.getElem?_toArray, List.getElem?_cons_succ, List.getElem?_cons_zero] <;> rfl)
        case hqA42x => exact fun _ _ _ h => h
        case hyA42x => exact Or.inl ⟨by rfl, by (intro wS hSw; obtain ⟨c0, c1, c2⟩ := C0.out wS hSw; obtain ⟨d0, d1, d2⟩ := CA.out wS hSw; go_simp; try with_reducible rfl)⟩
        try simp only [Act.put, List.setIfInBounds_toArray, List.set_cons_zero, List.set_cons_succ]
        refine wpAnyH_done (by kernel_rfl) ?_ _
        refine NoPanic.normal ?_
        go_wp2_with fail
        go_ret
        exact ⟨rfl, BX.out.trans ((BZ.out.trans (hGy4.mono BZ.out.size)).mono BX.out.size)⟩
      · cases hc : Lib.containsS xs s
        · by_cases h4 : xs.length < 4
          · obtain ⟨hll, hco, haa⟩ := addL_more (xs := xs) (s := s) hs hc h4
            have HAA := Lib.hid haa
            have HCO := Lib.hid hco
            obtain ⟨zs, hzs'⟩ : ∃ zs, zs = addL xs s := ⟨_, rfl⟩
            rw [← hzs'] at HAA HCO hll hzs hzl RAZ CA HAZ HOK ⊢
            have HIA := HOK
            have hw : ((zs.length : Int) == (xs.length : Int) + 1) = true := by rw [hll]; simp
            have d4 : decide (xs.length < 4) = true := decide_eq_true h4
            have d5 : decide ((xs.length : Int) < 4) = true := decide_eq_true (by omega)
            clear haa hzs' hco hll h4
            have HQ := Lib.hid (isSub_prog s wz HMZ.out)
            rw [hs] at HQ
            have hs0 := Lib.hid hs
            clear hs
            go_wp2_with fail
            rw [← HAZ.out]
            refine HQ.out.mono ?_
            rintro e x1 ⟨rfl, bx1⟩
            have Gx1 := Lib.hid bx1
            clear bx1 HQ
            obtain ⟨c0, c1, c2⟩ := C0.out x1 Gx1.out
            obtain ⟨d0, d1, d2⟩ := CA.out x1 Gx1.out
            have HQ := Lib.hid (hasSub_prog su ty (.slice ao xs.length cap) xs s x1 (RXZ.out.below Gx1.out) hn)
            rw [hc] at HQ
            clear hc
            go_wp2_with fail
            refine HQ.out.mono ?_
            rintro e x2 ⟨rfl, bx2⟩
            have Gx2 := Lib.hid (Gx1.out.trans (bx2.mono Gx1.out.size))
            clear bx2 HQ c0 c1 c2 d0 d1 d2
            obtain ⟨c0, c1, c2⟩ := C0.out x2 Gx2.out
            obtain ⟨d0, d1, d2⟩ := CA.out x2 Gx2.out
            go_wp2_with fail
            obtain ⟨wv, hwv⟩ : ∃ wv, wv = x2 := ⟨_, rfl⟩
            have G0 : Below wz.heap.size wz x2 := Gx2.out
            clear hwv c0 c1 c2 d0 d1 d2
            have hGv : Lx wz x2 := G0
            have hGd : Lx wz x2.drew := Lx.drew hGv
            clear G0
            refine wp_region_noPanic ?_
            refine wp_region_held_drew (S := fun w' => Lx wz w') (by kernel_rfl) (Lx.drew (by assumption)) (fun hHeld => ?_)
            refine wpAnyH_ready (rs := [0]) (by kernel_rfl) (by simp) ?_
            refine AllReadyH.cons (o := ?oiD0x) ?hiD0x (fun K hK => ?hsD0x) AllReadyH.nil
            case hiD0x => (simp only [List.getElem?_toArray, List.getElem?_cons_zero] <;> rfl)
            go_simp
            have HQ := Lib.hid (alive10 x2.drew (HMZ.out.below (show Below wz.heap.size wz x2.drew from by assumption)))
            refine HQ.out.mono ?_
            rintro e y1 ⟨rfl, by1⟩
            have hGy1 : Lx wz y1 := Lx.step (by assumption) by1
            clear by1 HQ
            go_wp2_with fail
            refine hK.out _ _ hGy1 (fun hHeldy1 => ?_)
            clear hK K
            try simp only [Act.put, List.setIfInBounds_toArray, List.set_cons_zero, List.set_cons_succ]
            refine wpAnyH_take (i := 1) (oi := ?oiD1x) (v := ?vD1x) ?hiD1x (by kernel_rfl) (by kernel_rfl) (by kernel_rfl) ?hqD1x ?hyD1x (by assumption) ?restD1x
            case hiD1x => (simp only [List.getElem?_toArray, List.getElem?_cons_succ, List.getElem?_cons_zero] <;> rfl)
            case hqD1x => exact fun _ _ _ h => h
            case hyD1x => exact Or.inl ⟨by rfl, by (intro wS hSw; obtain ⟨c0, c1, c2⟩ := C0.out wS hSw; obtain ⟨d0, d1, d2⟩ := CA.out wS hSw; go_simp; try with_reducible rfl)⟩
            try simp only [Act.put, List.setIfInBounds_toArray, List.set_cons_zero, List.set_cons_succ]
            refine wpAnyH_take (i := 2) (oi := ?oiD2x) (v := ?vD2x) ?hiD2x (by kernel_rfl) (by kernel_rfl) (by kernel_rfl) ?hqD2x ?hyD2x (by assumption) ?restD2x
            case hiD2x => (simp only [List.getElem?_toArray, List.getElem?_cons_succ, List.getElem?_cons_zero] <;> rfl)
            case hqD2x => exact fun _ _ _ h => h
            case hyD2x => exact Or.inl ⟨by rfl, by (intro wS hSw; obtain ⟨c0, c1, c2⟩ := C0.out wS hSw; obtain ⟨d0, d1, d2⟩ := CA.out wS hSw; go_simp; try with_reducible rfl)⟩
            try simp only [Act.put, List.setIfInBounds_toArray, List.set_cons_zero, List.set_cons_succ]
            refine wpAnyH_ready (rs := [3]) (by kernel_rfl) (by simp) ?_
            refine AllReadyH.cons (o := ?oiD3x) ?hiD3x (fun K hK => ?hsD3x) AllReadyH.nil
            case hiD3x => (simp only [List.getElem?_toArray, List.getElem?_cons_succ, List.getElem?_cons_zero] <;> rfl)
            go_simp
            have HQ := Lib.hid (isL_prog su ty (.slice aa zs.length ka) zs y1 (RAZ.out.below (show Below wz.heap.size wz y1 from by assumption)) hzl (HMZ.out.below (show Below wz.heap.size wz y1 from by assumption)))
            rw [HIA.out] at HQ
            refine HQ.out.mono ?_
            rintro e y2 ⟨rfl, by2⟩
            have hGy2 : Lx wz y2 := Lx.step (by assumption) by2
            clear by2 HQ
            go_wp2_with fail
            refine hK.out _ _ hGy2 (fun hHeldy2 => ?_)
            clear hK K
            try simp only [Act.put, List.setIfInBounds_toArray, List.set_cons_zero, List.set_cons_succ]
            refine wpAnyH_take (i := 4) (oi := ?oiD4x) (v := ?vD4x) ?hiD4x (by kernel_rfl) (by kernel_rfl) (by kernel_rfl) ?hqD4x ?hyD4x (by assumption) ?restD4x
            case hiD4x => (simp only [List.getElem?_toArray, List.getElem?_cons_succ, List.getElem?_cons_zero] <;> rfl)
            case hqD4x => exact fun _ _ _ h => h
            case hyD4x => exact Or.inl ⟨by rfl, by (intro wS hSw; obtain ⟨c0, c1, c2⟩ := C0.out wS hSw; obtain ⟨d0, d1, d2⟩ := CA.out wS hSw; go_simp; try with_reducible rfl)⟩
            try simp only [Act.put, List.setIfInBounds_toArray, List.set_cons_zero, List.set_cons_succ]
            refine wpAnyH_take (i := 5) (oi := ?oiD5x) (v := ?vD5x) ?hiD5x (by kernel_rfl) (by kernel_rfl) (by kernel_rfl) ?hqD5x ?hyD5x (by assumption) ?restD5x
            case hiD5x => (simp only [List.getElem?_toArray, List.getElem?_cons_succ, List.getElem?_cons_zero] <;> rfl)
            case hqD5x => exact fun _ _ _ h => h
            case hyD5x => exact Or.inl ⟨by rfl, by (intro wS hSw; obtain ⟨c0, c1, c2⟩ := C0.out wS hSw; obtain ⟨d0, d1, d2⟩ := CA.out wS hSw; go_simp; try with_reducible rfl)⟩
            try simp only [Act.put, List.setIfInBounds_toArray, List.set_cons_zero, List.set_cons_succ]
            refine wpAnyH_take (i := 6) (oi := ?oiD6x) (v := ?vD6x) ?hiD6x (by kernel_rfl) (by kernel_rfl) (by kernel_rfl) ?hqD6x ?hyD6x (by assumption) ?restD6x
            case hiD6x => (simp only [List.getElem?_toArray, List.getElem?_cons_succ, List.getElem?_cons_zero] <;> rfl)
            case hqD6x => exact fun _ _ _ h => h
            case hyD6x => exact Or.inl ⟨by rfl, by (intro wS hSw; obtain ⟨c0, c1, c2⟩ := C0.out wS hSw; obtain ⟨d0, d1, d2⟩ := CA.out wS hSw; go_simp; try with_reducible rfl)⟩
            try simp only [Act.put, List.setIfInBounds_toArray, List.set_cons_zero, List.set_cons_succ]
            refine wpAnyH_take (i := 7) (oi := ?oiD7x) (v := ?vD7x) ?hiD7x (by kernel_rfl) (by kernel_rfl) (by kernel_rfl) ?hqD7x ?hyD7x (by assumption) ?restD7x
            case hiD7x => (simp only [List.getElem?_toArray, List.getElem?_cons_succ, List.getElem?_cons_zero] <;> rfl)
            case hqD7x => exact fun _ _ _ h => h
            case hyD7x => exact Or.inl ⟨by rfl, by (intro wS hSw; obtain ⟨c0, c1, c2⟩ := C0.out wS hSw; obtain ⟨d0, d1, d2⟩ := CA.out wS hSw; go_simp; try with_reducible rfl)⟩
            try simp only [Act.put, List.setIfInBounds_toArray, List.set_cons_zero, List.set_cons_succ]
            refine wpAnyH_take (i := 8) (oi := ?oiD8x) (v := ?vD8x) ?hiD8x (by kernel_rfl) (by kernel_rfl) (by kernel_rfl) ?hqD8x ?hyD8x (by assumption) ?restD8x
            case hiD8x => (simp only [List.getElem?_toArray, List.getElem?_cons_succ, List.getElem?_cons_zero] <;> rfl)
            case hqD8x => exact fun _ _ _ h => h
            case hyD8x => exact Or.inl ⟨by rfl, by (intro wS hSw; obtain ⟨c0, c1, c2⟩ := C0.out wS hSw; obtain ⟨d0, d1, d2⟩ := CA.out wS hSw; go_simp; try with_reducible rfl)⟩
            try simp only [Act.put, List.setIfInBounds_toArray, List.set_cons_zero, List.set_cons_succ]
            refine wpAnyH_take (i := 9) (oi := ?oiD9x) (v := ?vD9x) ?hiD9x (by kernel_rfl) (by kernel_rfl) (by kernel_rfl) ?hqD9x ?hyD9x (by assumption) ?restD9x
            case hiD9x => (simp only [List.getElem?_toArray, List.getElem?_cons_succ, List.getElem?_cons_zero] <;> rfl)
            case hqD9x => exact fun _ _ _ h => h
            case hyD9x => exact Or.inl ⟨by rfl, by (intro wS hSw; obtain ⟨c0, c1, c2⟩ := C0.out wS hSw; obtain ⟨d0, d1, d2⟩ := CA.out wS hSw; go_simp; try with_reducible rfl)⟩
            try simp only [Act.put, List.setIfInBounds_toArray, List.set_cons_zero, List.set_cons_succ]
            refine wpAnyH_take (i := 10) (oi := ?oiD10x) (v := ?vD10x) ?hiD10x (by kernel_rfl) (by kernel_rfl) (by kernel_rfl) ?hqD10x ?hyD10x (by assumption) ?restD10x
            case hiD10x => (simp only [List.getElem?_toArray, List.getElem?_cons_succ, List.getElem?_cons_zero] <;> rfl)
            case hqD10x => exact fun _ _ _ h => h
            case hyD10x => exact Or.inl ⟨by rfl, by (intro wS hSw; obtain ⟨c0, c1, c2⟩ := C0.out wS hSw; obtain ⟨d0, d1, d2⟩ := CA.out wS hSw; go_simp; try with_reducible rfl)⟩
            try simp only [Act.put, List.setIfInBounds_toArray, List.set_cons_zero, List.set_cons_succ]
            refine wpAnyH_take (i := 11) (oi := ?oiD11x) (v := ?vD11x) ?hiD11x (by kernel_rfl) (by kernel_rfl) (by kernel_rfl) ?hqD11x ?hyD11x (by assumption) ?restD11x
            case hiD11x => (simp only [List.getElem?_toArray, List.getElem?_cons_succ, List.getElem?_cons_zero] <;> rfl)
            case hqD11x => exact fun _ _ _ h => h
            case hyD11x => exact Or.inl ⟨by rfl, by (intro wS hSw; obtain ⟨c0, c1, c2⟩ := C0.out wS hSw; obtain ⟨d0, d1, d2⟩ := CA.out wS hSw; go_simp; try with_reducible rfl)⟩
            try simp only [Act.put, List.setIfInBounds_toArray, List.set_cons_zero, List.set_cons_succ]
            refine wpAnyH_take (i := 12) (oi := ?oiD12x) (v := ?vD12x) ?hiD12x (by kernel_rfl) (by kernel_rfl) (by kernel_rfl) ?hqD12x ?hyD12x (by assumption) ?restD12x
            case hiD12x => (simp only [List.getElem?_toArray, List.getElem?_cons_succ, List.getElem?_cons_zero] <;> rfl)
            case hqD12x => exact fun _ _ _ h => h
            case hyD12x => exact Or.inl ⟨by rfl, by (intro wS hSw; obtain ⟨c0, c1, c2⟩ := C0.out wS hSw; obtain ⟨d0, d1, d2⟩ := CA.out wS hSw; go_simp; try with_reducible rfl)⟩
            try simp only [Act.put, List.setIfInBounds_toArray, List.set_cons_zero, List.set_cons_succ]
            refine wpAnyH_take (i := 13) (oi := ?oiD13x) (v := ?vD13x) ?hiD13x (by kernel_rfl) (by kernel_rfl) (by kernel_rfl) ?hqD13x ?hyD13x (by assumption) ?restD13x
            case hiD13x => (simp only [List.getElem?_toArray, List.getElem?_cons_succ, List.getElem?_cons_zero] <;> rfl)
            case hqD13x => exact fun _ _ _ h => h
            case hyD13x => exact Or.inl ⟨by rfl, by (intro wS hSw; obtain ⟨c0, c1, c2⟩ := C0.out wS hSw; obtain ⟨d0, d1, d2⟩ := CA.out wS hSw; go_simp; try with_reducible rfl)⟩
            try simp only [Act.put, List.setIfInBounds_toArray, List.set_cons_zero, List.set_cons_succ]
            refine wpAnyH_take (i := 14) (oi := ?oiD14x) (v := ?vD14x) ?hiD14x (by kernel_rfl) (by kernel_rfl) (by kernel_rfl) ?hqD14x ?hyD14x (by assumption) ?restD14x
            case hiD14x => (simp only [List.getElem?_toArray, List.getElem?_cons_succ, List.getElem?_cons_zero] <;> rfl)
            case hqD14x => exact fun _ _ _ h => h
            case hyD14x => exact Or.inl ⟨by rfl, by (intro wS hSw; obtain ⟨c0, c1, c2⟩ := C0.out wS hSw; obtain ⟨d0, d1, d2⟩ := CA.out wS hSw; go_simp; try with_reducible rfl)⟩
            try simp only [Act.put, List.setIfInBounds_toArray, List.set_cons_zero, List.set_cons_succ]
            refine wpAnyH_take (i := 16) (oi := ?oiD16x) (v := ?vD16x) ?hiD16x (by kernel_rfl) (by kernel_rfl) (by kernel_rfl) ?hqD16x ?hyD16x (by assumption) ?restD16x
            case hiD16x => (simp only [List.getElem?_toArray, List.getElem?_cons_succ, List.getElem?_cons_zero] <;> rfl)
            case hqD16x => exact fun _ _ _ h => h
            case hyD16x => exact Or.inl ⟨by rfl, by (intro wS hSw; obtain ⟨c0, c1, c2⟩ := C0.out wS hSw; obtain ⟨d0, d1, d2⟩ := CA.out wS hSw; go_simp; try with_reducible rfl)⟩
            try simp only [Act.put, List.setIfInBounds_toArray, List.set_cons_zero, List.set_cons_succ]
            refine wpAnyH_ready (rs := [15]) (by kernel_rfl) (by simp) ?_
            refine AllReadyH.cons (o := ?oiD15x) ?hiD15x (fun K hK => ?hsD15x) AllReadyH.nil
            case hiD15x => (simp only [List.getElem?_toArray, List.getElem?_cons_succ, List.getElem?_cons_zero] <;> rfl)
            go_simp
            have HQ := Lib.hid (addSub_prog su ty (.slice aa zs.length ka) zs s y2 (RAZ.out.below (show Below wz.heap.size wz y2 from by assumption)) hzs (HMZ.out.below (show Below wz.heap.size wz y2 from by assumption)))
            rw [HAA.out] at HQ
            refine HQ.out.mono ?_
            rintro e y3 ⟨vb, rfl, rb, by3⟩
            have hGy3 : Lx wz y3 := Lx.step (by assumption) by3
            obtain ⟨ab, kb, rfl⟩ := rb.form
            have RB := Lib.hid rb
            clear by3 HQ rb
            go_wp2_with fail
            refine hK.out _ _ hGy3 (fun hHeldy3 => ?_)
            clear hK K
            try simp only [Act.put, List.setIfInBounds_toArray, List.set_cons_zero, List.set_cons_succ]
            refine wpAnyH_ready (rs := [17]) (by kernel_rfl) (by simp) ?_
            refine AllReadyH.cons (o := ?oiD17x) ?hiD17x (fun K hK => ?hsD17x) AllReadyH.nil
            case hiD17x => (simp only [List.getElem?_toArray, List.getElem?_cons_succ, List.getElem?_cons_zero] <;> rfl)
            go_simp
            have HQ := Lib.hid (sameL_prog su ty (.slice ab zs.length kb) zs su ty (.slice aa zs.length ka) zs y3 RB.out (RAZ.out.below (show Below wz.heap.size wz y3 from by assumption)) hzl hzl)
            rw [same_self] at HQ
            refine HQ.out.mono ?_
            rintro e y4 ⟨rfl, by4⟩
            have hGy4 : Lx wz y4 := Lx.step (by assumption) by4
            clear by4 HQ
            go_wp2_with fail
            refine hK.out _ _ hGy4 (fun hHeldy4 => ?_)
            clear hK K
            try simp only [Act.put, List.setIfInBounds_toArray, List.set_cons_zero, List.set_cons_succ]
            refine wpAnyH_take (i := 18) (oi := ?oiD18x) (v := ?vD18x) ?hiD18x (by kernel_rfl) (by kernel_rfl) (by kernel_rfl) ?hqD18x ?hyD18x (by assumption) ?restD18x
            case hiD18x => (simp only [List.getElem?_toArray, List.getElem?_cons_succ, List.getElem?_cons_zero] <;> rfl)
            case hqD18x => exact fun _ _ _ h => h
            case hyD18x => exact Or.inl ⟨by rfl, by (intro wS hSw; obtain ⟨c0, c1, c2⟩ := C0.out wS hSw; obtain ⟨d0, d1, d2⟩ := CA.out wS hSw; go_simp; try with_reducible rfl)⟩
            try simp only [Act.put, List.setIfInBounds_toArray, List.set_cons_zero, List.set_cons_succ]
            refine wpAnyH_take (i := 19) (oi := ?oiD19x) (v := ?vD19x) ?hiD19x (by kernel_rfl) (by kernel_rfl) (by kernel_rfl) ?hqD19x ?hyD19x (by assumption) ?restD19x
            case hiD19x => (simp only [List.getElem?_toArray, List.getElem?_cons_succ, List.getElem?_cons_zero] <;> rfl)
            case hqD19x => exact fun _ _ _ h => h
            case hyD19x => exact Or.inl ⟨by rfl, by (intro wS hSw; obtain ⟨c0, c1, c2⟩ := C0.out wS hSw; obtain ⟨d0, d1, d2⟩ := CA.out wS hSw; go_simp; try with_reducible rfl)⟩
            try simp only [Act.put, List.setIfInBounds_toArray, List.set_cons_zero, List.set_cons_succ]
            refine wpAnyH_take (i := 20) (oi := ?oiD20x) (v := ?vD20x) ?hiD20x (by kernel_rfl) (by kernel_rfl) (by kernel_rfl) ?hqD20x ?hyD20x (by assumption) ?restD20x
            case hiD20x => (simp only [List.getElem?_toArray, List.getElem?_cons_succ, List.getElem?_cons_zero] <;> rfl)
            case hqD20x => exact fun _ _ _ h => h
            case hyD20x => exact Or.inl ⟨by rfl, by (intro wS hSw; obtain ⟨c0, c1, c2⟩ := C0.out wS hSw; obtain ⟨d0, d1, d2⟩ := CA.out wS hSw; go_simp; try with_reducible rfl)⟩
            try simp only [Act.put, List.setIfInBounds_toArray, List.set_cons_zero, List.set_cons_succ]
            refine wpAnyH_take (i := 21) (oi := ?oiD21x) (v := ?vD21x) ?hiD21x (by kernel_rfl) (by kernel_rfl) (by kernel_rfl) ?hqD21x ?hyD21x (by assumption) ?restD21x
            case hiD21x => (simp only [List.getElem?_toArray, List.getElem?_cons_succ, List.getElem?_cons_zero] <;> rfl)
            case hqD21x => exact fun _ _ _ h => h
            case hyD21x => exact Or.inl ⟨by rfl, by (intro wS hSw; obtain ⟨c0, c1, c2⟩ := C0.out wS hSw; obtain ⟨d0, d1, d2⟩ := CA.out wS hSw; go_simp; try with_reducible rfl)⟩
            try simp only [Act.put, List.setIfInBounds_toArray, List.set_cons_zero, List.set_cons_succ]
            refine wpAnyH_take (i := 22) (oi := ?oiD22x) (v := ?vD22x) ?hiD22x (by kernel_rfl) (by kernel_rfl) (by kernel_rfl) ?hqD22x ?hyD22x (by assumption) ?restD22x
            case hiD22x => (simp only [List.getElem?_toArray, List.getElem?_cons_succ, List.getElem?_cons_zero] <;> rfl)
            case hqD22x => exact fun _ _ _ h => h
            case hyD22x => exact Or.inl ⟨by rfl, by (intro wS hSw; obtain ⟨c0, c1, c2⟩ := C0.out wS hSw; obtain ⟨d0, d1, d2⟩ := CA.out wS hSw; go_simp; try with_reducible rfl)⟩
            try simp only [Act.put, List.setIfInBounds_toArray, List.set_cons_zero, List.set_cons_succ]
            refine wpAnyH_take (i := 23) (oi := ?oiD23x) (v := ?vD23x) ?hiD23x (by kernel_rfl) (by kernel_rfl) (by kernel_rfl) ?hqD23x ?hyD23x (by assumption) ?restD23x
            case hiD23x => (simp only [List.getElem?_toArray, List.getElem?_cons_succ, List.getElem?_cons_zero] <;> rfl)
            case hqD23x => exact fun _ _ _ h => h
            case hyD23x => exact Or.inl ⟨by rfl, by (intro wS hSw; obtain ⟨c0, c1, c2⟩ := C0.out wS hSw; obtain ⟨d0, d1, d2⟩ := CA.out wS hSw; go_simp; try with_reducible rfl)⟩
            try simp only [Act.put, List.setIfInBounds_toArray, List.set_cons_zero, List.set_cons_succ]
            refine wpAnyH_take (i := 24) (oi := ?oiD24x) (v := ?vD24x) ?hiD24x (by kernel_rfl) (by kernel_rfl) (by kernel_rfl) ?hqD24x ?hyD24x (by assumption) ?restD24x
            case hiD24x => (simp only [List.getElem?_toArray, List.getElem?_cons_succ, List.getElem?_cons_zero] <;> rfl)
            case hqD24x => exact fun _ _ _ h => h
            case hyD24x => exact Or.inl ⟨by rfl, by (intro wS hSw; obtain ⟨c0, c1, c2⟩ := C0.out wS hSw; obtain ⟨d0, d1, d2⟩ := CA.out wS hSw; go_simp; try with_reducible rfl)⟩
            try simp only [Act.put, List.setIfInBounds_toArray, List.set_cons_zero, List.set_cons_succ]
            refine wpAnyH_ready (rs := [25]) (by kernel_rfl) (by simp) ?_
            refine AllReadyH.cons (o := ?oiD25x) ?hiD25x (fun K hK => ?hsD25x) AllReadyH.nil
            case hiD25x => (simp only [List.getElem?_toArray, List.getElem?_cons_succ, List.getElem?_cons_zero] <;> rfl)
            go_simp
            have HQ := Lib.hid (hasSub_prog su ty (.slice aa zs.length ka) zs s y4 (RAZ.out.below (show Below wz.heap.size wz y4 from by assumption)) hzl)
            rw [HCO.out] at HQ
            refine HQ.out.mono ?_
            rintro e y5 ⟨rfl, by5⟩
            have hGy5 : Lx wz y5 := Lx.step (by assumption) by5
            clear by5 HQ
            go_wp2_with fail
            refine hK.out _ _ hGy5 (fun hHeldy5 => ?_)
            clear hK K
            try simp only [Act.put, List.setIfInBounds_toArray, List.set_cons_zero, List.set_cons_succ]
            refine wpAnyH_take (i := 26) (oi := ?oiD26x) (v := ?vD26x) ?hiD26x (by kernel_rfl) (by kernel_rfl) (by kernel_rfl) ?hqD26x ?hyD26x (by assumption) ?restD26x
            case hiD26x => (simp only [List.getElem?_toArray, List.getElem?_cons_succ, List.getElem?_cons_zero] <;> rfl)
            case hqD26x => exact fun _ _ _ h => h
            case hyD26x => exact Or.inl ⟨by rfl, by (intro wS hSw; obtain ⟨c0, c1, c2⟩ := C0.out wS hSw; obtain ⟨d0, d1, d2⟩ := CA.out wS hSw; go_simp; try with_reducible rfl)⟩
            try simp only [Act.put, List.setIfInBounds_toArray, List.set_cons_zero, List.set_cons_succ]
            refine wpAnyH_take (i := 27) (oi := ?oiD27x) (v := ?vD27x) ?hiD27x (by kernel_rfl) (by kernel_rfl) (by kernel_rfl) ?hqD27x ?hyD27x (by assumption) ?restD27x
            case hiD27x => (simp only [List.getElem?_toArray, List.getElem?_cons_succ, List.getElem?_cons_zero] <;> rfl)
            case hqD27x => exact fun _ _ _ h => h
            case hyD27x => exact Or.inl ⟨by rfl, by (intro wS hSw; obtain ⟨c0, c1, c2⟩ := C0.out wS hSw; obtain ⟨d0, d1, d2⟩ := CA.out wS hSw; go_simp; try with_reducible rfl)⟩
            try simp only [Act.put, List.setIfInBounds_toArray, List.set_cons_zero, List.set_cons_succ]
            refine wpAnyH_take (i := 28) (oi := ?oiD28x) (v := ?vD28x) ?hiD28x (by kernel_rfl) (by kernel_rfl) (by kernel_rfl) ?hqD28x ?hyD28x (by assumption) ?restD28x
            case hiD28x => (simp only [List.getElem?_toArray, List.getElem?_cons_succ, List.getElem?_cons_zero] <;> rfl)
            case hqD28x => exact fun _ _ _ h => h
            case hyD28x => exact Or.inl ⟨by rfl, by (intro wS hSw; obtain ⟨c0, c1, c2⟩ := C0.out wS hSw; obtain ⟨d0, d1, d2⟩ := CA.out wS hSw; go_simp; try with_reducible rfl)⟩
            try simp only [Act.put, List.setIfInBounds_toArray, List.set_cons_zero, List.set_cons_succ]
            refine wpAnyH_take (i := 29) (oi := ?oiD29x) (v := ?vD29x) ?hiD29x (by kernel_rfl) (by kernel_rfl) (by kernel_rfl) ?hqD29x ?hyD29x (by assumption) ?restD29x
            case hiD29x => (simp only [List.getElem?_toArray, List.getElem?_cons_succ, List.getElem?_cons_zero] <;> rfl)
            case hqD29x => exact fun _ _ _ h => h
            case hyD29x => exact Or.inl ⟨by rfl, by (intro wS hSw; obtain ⟨c0, c1, c2⟩ := C0.out wS hSw; obtain ⟨d0, d1, d2⟩ := CA.out wS hSw; go_simp; try with_reducible rfl)⟩
            try simp only [Act.put, List.setIfInBounds_toArray, List.set_cons_zero, List.set_cons_succ]
            refine wpAnyH_take (i := 30) (oi := ?oiD30x) (v := ?vD30x) ?hiD30x (by kernel_rfl) (by kernel_rfl) (by kernel_rfl) ?hqD30x ?hyD30x (by assumption) ?restD30x
            case hiD30x => (simp only [List.getElem?_toArray, List.getElem?_cons_succ, List.getElem?_cons_zero] <;> rfl)
            case hqD30x => exact fun _ _ _ h => h
            case hyD30x => exact Or.inl ⟨by rfl, by (intro wS hSw; obtain ⟨c0, c1, c2⟩ := C0.out wS hSw; obtain ⟨d0, d1, d2⟩ := CA.out wS hSw; go_simp; try with_reducible rfl)⟩
            try simp only [Act.put, List.setIfInBounds_toArray, List.set_cons_zero, List.set_cons_succ]
            refine wpAnyH_take (i := 31) (oi := ?oiD31x) (v := ?vD31x) ?hiD31x (by kernel_rfl) (by kernel_rfl) (by kernel_rfl) ?hqD31x ?hyD31x (by assumption) ?restD31x
            case hiD31x => (simp only [List.getElem?_toArray, List.getElem?_cons_succ, List.getElem?_cons_zero] <;> rfl)
            case hqD31x => exact fun _ _ _ h => h
            case hyD31x => exact Or.inl ⟨by rfl, by (intro wS hSw; obtain ⟨c0, c1, c2⟩ := C0.out wS hSw; obtain ⟨d0, d1, d2⟩ := CA.out wS hSw; go_simp; try with_reducible rfl)⟩
            try simp only [Act.put, List.setIfInBounds_toArray, List.set_cons_zero, List.set_cons_succ]
            refine wpAnyH_take (i := 32) (oi := ?oiD32x) (v := ?vD32x) ?hiD32x (by kernel_rfl) (by kernel_rfl) (by kernel_rfl) ?hqD32x ?hyD32x (by assumption) ?restD32x
            case hiD32x => (simp only [List.getElem?_toArray, List.getElem?_cons_succ, List.getElem?_cons_zero] <;> rfl)
            case hqD32x => exact fun _ _ _ h => h
            case hyD32x => exact Or.inl ⟨by rfl, by (intro wS hSw; obtain ⟨c0, c1, c2⟩ := C0.out wS hSw; obtain ⟨d0, d1, d2⟩ := CA.out wS hSw; go_simp; try with_reducible rfl)⟩
            try simp only [Act.put, List.setIfInBounds_toArray, List.set_cons_zero, List.set_cons_succ]
            refine wpAnyH_take (i := 33) (oi := ?oiD33x) (v := ?vD33x) ?hiD33x (by kernel_rfl) (by kernel_rfl) (by kernel_rfl) ?hqD33x ?hyD33x (by assumption) ?restD33x
            case hiD33x => (simp only [List.getElem?_toArray, List.getElem?_cons_succ, List.getElem?_cons_zero] <;> rfl)
            case hqD33x => exact fun _ _ _ h => h
            case hyD33x => exact Or.inl ⟨by rfl, by (intro wS hSw; obtain ⟨c0, c1, c2⟩ := C0.out wS hSw; obtain ⟨d0, d1, d2⟩ := CA.out wS hSw; go_simp; try with_reducible rfl)⟩
            try simp only [Act.put, List.setIfInBounds_toArray, List.set_cons_zero, List.set_cons_succ]
            refine wpAnyH_take (i := 34) (oi := ?oiD34x) (v := ?vD34x) ?hiD34x (by kernel_rfl) (by kernel_rfl) (by kernel_rfl) ?hqD34x ?hyD34x (by assumption) ?restD34x
            case hiD34x => (simp only [List.getElem?_toArray, List.getElem?_cons_succ, List.getElem?_cons_zero] <;> rfl)
            case hqD34x => exact fun _ _ _ h => h
            case hyD34x => exact Or.inl ⟨by rfl, by (intro wS hSw; obtain ⟨c0, c1, c2⟩ := C0.out wS hSw; obtain ⟨d0, d1, d2⟩ := CA.out wS hSw; go_simp; try with_reducible rfl)⟩
            try simp only [Act.put, List.setIfInBounds_toArray, List.set_cons_zero, List.set_cons_succ]
            refine wpAnyH_take (i := 35) (oi := ?oiD35x) (v := ?vD35x) ?hiD35x (by kernel_rfl) (by kernel_rfl) (by kernel_rfl) ?hqD35x ?hyD35x (by assumption) ?restD35x
            case hiD35x => (simp only [List.getElem?_toArray, List.getElem?_cons_succ, List.getElem?_cons_zero] <;> rfl)
            case hqD35x => exact fun _ _ _ h => h
            case hyD35x => exact Or.inl ⟨by rfl, by (intro wS hSw; obtain ⟨c0, c1, c2⟩ := C0.out wS hSw; obtain ⟨d0, d1, d2⟩ := CA.out wS hSw; go_simp; try with_reducible rfl)⟩
            try simp only [Act.put, List.setIfInBounds_toArray, List.set_cons_zero, List.set_cons_succ]
            refine wpAnyH_take (i := 36) (oi := ?oiD36x) (v := ?vD36x) ?hiD36x (by kernel_rfl) (by kernel_rfl) (by kernel_rfl) ?hqD36x ?hyD36x (by assumption) ?restD36x
            case hiD36x => (simp only [List.getElem?_toArray, List.getElem?_cons_succ, List.getElem?_cons_zero] <;> rfl)
            case hqD36x => exact fun _ _ _ h => h
            case hyD36x => exact Or.inl ⟨by rfl, by (intro wS hSw; obtain ⟨c0, c1, c2⟩ := C0.out wS hSw; obtain ⟨d0, d1, d2⟩ := CA.out wS hSw; go_simp; try with_reducible rfl)⟩
            try simp only [Act.put, List.setIfInBounds_toArray, List.set_cons_zero, List.set_cons_succ]
            refine wpAnyH_take (i := 37) (oi := ?oiD37x) (v := ?vD37x) ?hiD37x (by kernel_rfl) (by kernel_rfl) (by kernel_rfl) ?hqD37x ?hyD37x (by assumption) ?restD37x
            case hiD37x => (simp only [List.getElem?_toArray, List.getElem?_cons_succ, List.getElem?_cons_zero] <;> rfl)
            case hqD37x => exact fun _ _ _ h => h
            case hyD37x => exact Or.inl ⟨by rfl, by (intro wS hSw; obtain ⟨c0, c1, c2⟩ := C0.out wS hSw; obtain ⟨d0, d1, d2⟩ := CA.out wS hSw; go_simp; try with_reducible rfl)⟩
            try simp only [Act.put, List.setIfInBounds_toArray, List.set_cons_zero, List.set_cons_succ]
            refine wpAnyH_take (i := 38) (oi := ?oiD38x) (v := ?vD38x) ?hiD38x (by kernel_rfl) (by kernel_rfl) (by kernel_rfl) ?hqD38x ?hyD38x (by assumption) ?restD38x
            case hiD38x => (simp only [List.getElem?_toArray, List.getElem?_cons_succ, List.getElem?_cons_zero] <;> rfl)
            case hqD38x => exact fun _ _ _ h => h
            case hyD38x => exact Or.inl ⟨by rfl, by (intro wS hSw; obtain ⟨c0, c1, c2⟩ := C0.out wS hSw; obtain ⟨d0, d1, d2⟩ := CA.out wS hSw; go_simp; try with_reducible rfl)⟩
            try simp only [Act.put, List.setIfInBounds_toArray, List.set_cons_zero, List.set_cons_succ]
            refine wpAnyH_take (i := 39) (oi := ?oiD39x) (v := ?vD39x) ?hiD39x (by kernel_rfl) (by kernel_rfl) (by kernel_rfl) ?hqD39x ?hyD39x (by assumption) ?restD39x
            case hiD39x => (simp only [List.getElem?_toArray, List.getElem?_cons_succ, List.getElem?_cons_zero] <;> rfl)
            case hqD39x => exact fun _ _ _ h => h
            case hyD39x => exact Or.inl ⟨by rfl, by (intro wS hSw; obtain ⟨c0, c1, c2⟩ := C0.out wS hSw; obtain ⟨d0, d1, d2⟩ := CA.out wS hSw; go_simp; try with_reducible rfl)⟩
            try simp only [Act.put, List.setIfInBounds_toArray, List.set_cons_zero, List.set_cons_succ]
            refine wpAnyH_take (i := 40) (oi := ?oiD40x) (v := ?vD40x) ?hiD40x (by kernel_rfl) (by kernel_rfl) (by kernel_rfl) ?hqD40x ?hyD40x (by assumption) ?restD40x
            case hiD40x => (simp only [List.getElem?_toArray, List.getElem?_cons_succ, List.getElem?_cons_zero] <;> rfl)
            case hqD40x => exact fun _ _ _ h => h
            case hyD40x => exact Or.inl ⟨by rfl, by (intro wS hSw; obtain ⟨c0, c1, c2⟩ := C0.out wS hSw; obtain ⟨d0, d1, d2⟩ := CA.out wS hSw; go_simp; try with_reducible rfl)⟩
            try simp only [Act.put, List.setIfInBounds_toArray, List.set_cons_zero, List.set_cons_succ]
            refine wpAnyH_take (i := 41) (oi := ?oiD41x) (v := ?vD41x) ?hiD41x (by kernel_rfl) (by kernel_rfl) (by kernel_rfl) ?hqD41x ?hyD41x (by assumption) ?restD41x
            case hiD41x => (simp only [List.getElem?_toArray, List.getElem?_cons_succ, List.getElem?_cons_zero] <;> rfl)
            case hqD41x => exact fun _ _ _ h => h
            case hyD41x => exact Or.inl ⟨by rfl, by (intro wS hSw; obtain ⟨c0, c1, c2⟩ := C0.out wS hSw; obtain ⟨d0, d1, d2⟩ := CA.out wS hSw; go_simp; try with_reducible rfl)⟩
            try simp only [Act.put, List.setIfInBounds_toArray, List.set_cons_zero, List.set_cons_succ]
            refine wpAnyH_take (i := 42) (oi := ?oiD42x) (v := ?vD42x) ?hiD42x (by kernel_rfl) (by kernel_rfl) (by kernel_rfl) ?hqD42x ?hyD42x (by assumption) ?restD42x
            case hiD42x => (simp only [List.getElem?_toArray, List.getElem?_cons_succ, List.getElem?_cons_zero] <;> rfl)
            case hqD42x => exact fun _ _ _ h => h
            case hyD42x => exact Or.inl ⟨by rfl, by (intro wS hSw; obtain ⟨c0, c1, c2⟩ := C0.out wS hSw; obtain ⟨d0, d1, d2⟩ := CA.out wS hSw; go_simp; try with_reducible rfl)⟩
            try simp only [Act.put, List.setIfInBounds_toArray, List.set_cons_zero, List.set_cons_succ]
            refine wpAnyH_done (by kernel_rfl) ?_ _
            refine NoPanic.normal ?_
            go_wp2_with fail
            go_ret
            exact ⟨rfl, BX.out.trans ((BZ.out.trans (hGy5.mono BZ.out.size)).mono BX.out.size)⟩
          · obtain ⟨hl, haa⟩ := addL_same (xs := xs) (s := s) (fun h => h4 h.2.2)
            have HAA := Lib.hid haa
            have hll : (addL xs s).length = xs.length := by rw [hl]
            obtain ⟨zs, hzs'⟩ : ∃ zs, zs = addL xs s := ⟨_, rfl⟩
            rw [← hzs'] at HAA hll hzs hzl RAZ CA HAZ HOK ⊢
            have HIA := HOK
            have HLL := Lib.hid hll
            have hw : ((zs.length : Int) == (xs.length : Int)) = true := by rw [hll]; simp
            have d4 : decide (xs.length < 4) = false := decide_eq_false h4
            have d5 : decide ((xs.length : Int) < 4) = false := decide_eq_false (by omega)
            clear hl haa hzs' hll h4
            have HQ := Lib.hid (isSub_prog s wz HMZ.out)
            rw [hs] at HQ
            have hs0 := Lib.hid hs
            clear hs
            go_wp2_with fail
            rw [← HAZ.out]
            refine HQ.out.mono ?_
            rintro e x1 ⟨rfl, bx1⟩
            have Gx1 := Lib.hid bx1
            clear bx1 HQ
            obtain ⟨c0, c1, c2⟩ := C0.out x1 Gx1.out
            obtain ⟨d0, d1, d2⟩ := CA.out x1 Gx1.out
            have HQ := Lib.hid (hasSub_prog su ty (.slice ao xs.length cap) xs s x1 (RXZ.out.below Gx1.out) hn)
            rw [hc] at HQ
            clear hc
            go_wp2_with fail
            refine HQ.out.mono ?_
            rintro e x2 ⟨rfl, bx2⟩
            have Gx2 := Lib.hid (Gx1.out.trans (bx2.mono Gx1.out.size))
            clear bx2 HQ c0 c1 c2 d0 d1 d2
            obtain ⟨c0, c1, c2⟩ := C0.out x2 Gx2.out
            obtain ⟨d0, d1, d2⟩ := CA.out x2 Gx2.out
            go_wp2_with fail
            obtain ⟨wv, hwv⟩ : ∃ wv, wv = x2 := ⟨_, rfl⟩
            have G0 : Below wz.heap.size wz x2 := Gx2.out
            clear hwv c0 c1 c2 d0 d1 d2
            have hGv : Lx wz x2 := G0
            have hGd : Lx wz x2.drew := Lx.drew hGv
            clear G0
            refine wp_region_noPanic ?_
            refine wp_region_held_drew (S := fun w' => Lx wz w') (by kernel_rfl) (Lx.drew (by assumption)) (fun hHeld => ?_)
            refine wpAnyH_ready (rs := [0]) (by kernel_rfl) (by simp) ?_
            refine AllReadyH.cons (o := ?oiC0x) ?hiC0x (fun K hK => ?hsC0x) AllReadyH.nil
            case hiC0x => (simp only [List.getElem?_toArray, List.getElem?_cons_zero] <;> rfl)
            go_simp
            have HQ := Lib.hid (alive10 x2.drew (HMZ.out.below (show Below wz.heap.size wz x2.drew from by assumption)))
            refine HQ.out.mono ?_
            rintro e y1 ⟨rfl, by1⟩
            have hGy1 : Lx wz y1 := Lx.step (by assumption) by1
            clear by1 HQ
            go_wp2_with fail
            refine hK.out _ _ hGy1 (fun hHeldy1 => ?_)
            clear hK K
            try simp only [Act.put, List.setIfInBounds_toArray, List.set_cons_zero, List.set_cons_succ]
            refine wpAnyH_take (i := 1) (oi := ?oiC1x) (v := ?vC1x) ?hiC1x (by kernel_rfl) (by kernel_rfl) (by kernel_rfl) ?hqC1x ?hyC1x (by assumption) ?restC1x
            case hiC1x => (simp only [List.getElem?_toArray, List.getElem?_cons_succ, List.getElem?_cons_zero] <;> rfl)
            case hqC1x => exact fun _ _ _ h => h
            case hyC1x => exact Or.inl ⟨by rfl, by (intro wS hSw; obtain ⟨c0, c1, c2⟩ := C0.out wS hSw; obtain ⟨d0, d1, d2⟩ := CA.out wS hSw; go_simp; try with_reducible rfl)⟩
            try simp only [Act.put, List.setIfInBounds_toArray, List.set_cons_zero, List.set_cons_succ]
            refine wpAnyH_take (i := 2) (oi := ?oiC2x) (v := ?vC2x) ?hiC2x (by kernel_rfl) (by kernel_rfl) (by kernel_rfl) ?hqC2x ?hyC2x (by assumption) ?restC2x
            case hiC2x => (simp only [List.getElem?_toArray, List.getElem?_cons_succ, List.getElem?_cons_zero] <;> rfl)
            case hqC2x => exact fun _ _ _ h => h
            case hyC2x => exact Or.inl ⟨by rfl, by (intro wS hSw; obtain ⟨c0, c1, c2⟩ := C0.out wS hSw; obtain ⟨d0, d1, d2⟩ := CA.out wS hSw; go_simp; try with_reducible rfl)⟩
            try simp only [Act.put, List.setIfInBounds_toArray, List.set_cons_zero, List.set_cons_succ]
            refine wpAnyH_ready (rs := [3]) (by kernel_rfl) (by simp) ?_
            refine AllReadyH.cons (o := ?oiC3x) ?hiC3x (fun K hK => ?hsC3x) AllReadyH.nil
            case hiC3x => (simp only [List.getElem?_toArray, List.getElem?_cons_succ, List.getElem?_cons_zero] <;> rfl)
            go_simp
            have HQ := Lib.hid (isL_prog su ty (.slice aa zs.length ka) zs y1 (RAZ.out.below (show Below wz.heap.size wz y1 from by assumption)) hzl (HMZ.out.below (show Below wz.heap.size wz y1 from by assumption)))
            rw [HIA.out] at HQ
            refine HQ.out.mono ?_
            rintro e y2 ⟨rfl, by2⟩
            have hGy2 : Lx wz y2 := Lx.step (by assumption) by2
            clear by2 HQ
            go_wp2_with fail
            refine hK.out _ _ hGy2 (fun hHeldy2 => ?_)
            clear hK K
            try simp only [Act.put, List.setIfInBounds_toArray, List.set_cons_zero, List.set_cons_succ]
            refine wpAnyH_take (i := 4) (oi := ?oiC4x) (v := ?vC4x) ?hiC4x (by kernel_rfl) (by kernel_rfl) (by kernel_rfl) ?hqC4x ?hyC4x (by assumption) ?restC4x
            case hiC4x => (simp only [List.getElem?_toArray, List.getElem?_cons_succ, List.getElem?_cons_zero] <;> rfl)
            case hqC4x => exact fun _ _ _ h => h
            case hyC4x => exact Or.inl ⟨by rfl, by (intro wS hSw; obtain ⟨c0, c1, c2⟩ := C0.out wS hSw; obtain ⟨d0, d1, d2⟩ := CA.out wS hSw; go_simp; try with_reducible rfl)⟩
            try simp only [Act.put, List.setIfInBounds_toArray, List.set_cons_zero, List.set_cons_succ]
            refine wpAnyH_take (i := 5) (oi := ?oiC5x) (v := ?vC5x) ?hiC5x (by kernel_rfl) (by kernel_rfl) (by kernel_rfl) ?hqC5x ?hyC5x (by assumption) ?restC5x
            case hiC5x => (simp only [List.getElem?_toArray, List.getElem?_cons_succ, List.getElem?_cons_zero] <;> rfl)
            case hqC5x => exact fun _ _ _ h => h
            case hyC5x => exact Or.inl ⟨by rfl, by (intro wS hSw; obtain ⟨c0, c1, c2⟩ := C0.out wS hSw; obtain ⟨d0, d1, d2⟩ := CA.out wS hSw; go_simp; try with_reducible rfl)⟩
            try simp only [Act.put, List.setIfInBounds_toArray, List.set_cons_zero, List.set_cons_succ]
            refine wpAnyH_take (i := 6) (oi := ?oiC6x) (v := ?vC6x) ?hiC6x (by kernel_rfl) (by kernel_rfl) (by kernel_rfl) ?hqC6x ?hyC6x (by assumption) ?restC6x
            case hiC6x => (simp only [List.getElem?_toArray, List.getElem?_cons_succ, List.getElem?_cons_zero] <;> rfl)
            case hqC6x => exact fun _ _ _ h => h
            case hyC6x => exact Or.inl ⟨by rfl, by (intro wS hSw; obtain ⟨c0, c1, c2⟩ := C0.out wS hSw; obtain ⟨d0, d1, d2⟩ := CA.out wS hSw; go_simp; try with_reducible rfl)⟩
            try simp only [Act.put, List.setIfInBounds_toArray, List.set_cons_zero, List.set_cons_succ]
            refine wpAnyH_take (i := 7) (oi := ?oiC7x) (v := ?vC7x) ?hiC7x (by kernel_rfl) (by kernel_rfl) (by kernel_rfl) ?hqC7x ?hyC7x (by assumption) ?restC7x
            case hiC7x => (simp only [List.getElem?_toArray, List.getElem?_cons_succ, List.getElem?_cons_zero] <;> rfl)
            case hqC7x => exact fun _ _ _ h => h
            case hyC7x => exact Or.inl ⟨by rfl, by (intro wS hSw; obtain ⟨c0, c1, c2⟩ := C0.out wS hSw; obtain ⟨d0, d1, d2⟩ := CA.out wS hSw; go_simp; try with_reducible rfl)⟩
            try simp only [Act.put, List.setIfInBounds_toArray, List.set_cons_zero, List.set_cons_succ]
            refine wpAnyH_take (i := 8) (oi := ?oiC8x) (v := ?vC8x) ?hiC8x (by kernel_rfl) (by kernel_rfl) (by kernel_rfl) ?hqC8x ?hyC8x (by assumption) ?restC8x
            case hiC8x => (simp only [List.getElem?_toArray, List.getElem?_cons_succ, List.getElem?_cons_zero] <;> rfl)
            case hqC8x => exact fun _ _ _ h => h
            case hyC8x => exact Or.inl ⟨by rfl, by (intro wS hSw; obtain ⟨c0, c1, c2⟩ := C0.out wS hSw; obtain ⟨d0, d1, d2⟩ := CA.out wS hSw; go_simp; try with_reducible rfl)⟩
            try simp only [Act.put, List.setIfInBounds_toArray, List.set_cons_zero, List.set_cons_succ]
            refine wpAnyH_take (i := 9) (oi := ?oiC9x) (v := ?vC9x) ?hiC9x (by kernel_rfl) (by kernel_rfl) (by kernel_rfl) ?hqC9x ?hyC9x (by assumption) ?restC9x
            case hiC9x => (simp only [List.getElem?_toArray, List.getElem?_cons_succ, List.getElem?_cons_zero] <;> rfl)
            case hqC9x => exact fun _ _ _ h => h
            case hyC9x => exact Or.inl ⟨by rfl, by (intro wS hSw; obtain ⟨c0, c1, c2⟩ := C0.out wS hSw; obtain ⟨d0, d1, d2⟩ := CA.out wS hSw; go_simp; try with_reducible rfl)⟩
            try simp only [Act.put, List.setIfInBounds_toArray, List.set_cons_zero, List.set_cons_succ]
            refine wpAnyH_take (i := 10) (oi := ?oiC10x) (v := ?vC10x) ?hiC10x (by kernel_rfl) (by kernel_rfl) (by kernel_rfl) ?hqC10x ?hyC10x (by assumption) ?restC10x
            case hiC10x => (simp only [List.getElem?_toArray, List.getElem?_cons_succ, List.getElem?_cons_zero] <;> rfl)
            case hqC10x => exact fun _ _ _ h => h
            case hyC10x => exact Or.inl ⟨by rfl, by (intro wS hSw; obtain ⟨c0, c1, c2⟩ := C0.out wS hSw; obtain ⟨d0, d1, d2⟩ := CA.out wS hSw; go_simp; try with_reducible rfl)⟩
            try simp only [Act.put, List.setIfInBounds_toArray, List.set_cons_zero, List.set_cons_succ]
            refine wpAnyH_take (i := 11) (oi := ?oiC11x) (v := ?vC11x) ?hiC11x (by kernel_rfl) (by kernel_rfl) (by kernel_rfl) ?hqC11x ?hyC11x (by assumption) ?restC11x
            case hiC11x => (simp only [List.getElem?_toArray, List.getElem?_cons_succ, List.getElem?_cons_zero] <;> rfl)
            case hqC11x => exact fun _ _ _ h => h
            case hyC11x => exact Or.inl ⟨by rfl, by (intro wS hSw; obtain ⟨c0, c1, c2⟩ := C0.out wS hSw; obtain ⟨d0, d1, d2⟩ := CA.out wS hSw; go_simp; try with_reducible rfl)⟩
            try simp only [Act.put, List.setIfInBounds_toArray, List.set_cons_zero, List.set_cons_succ]
            refine wpAnyH_take (i := 12) (oi := ?oiC12x) (v := ?vC12x) ?hiC12x (by kernel_rfl) (by kernel_rfl) (by kernel_rfl) ?hqC12x ?hyC12x (by assumption) ?restC12x
            case hiC12x => (simp only [List.getElem?_toArray, List.getElem?_cons_succ, List.getElem?_cons_zero] <;> rfl)
            case hqC12x => exact fun _ _ _ h => h
            case hyC12x => exact Or.inl ⟨by rfl, by (intro wS hSw; obtain ⟨c0, c1, c2⟩ := C0.out wS hSw; obtain ⟨d0, d1, d2⟩ := CA.out wS hSw; go_simp; try with_reducible rfl)⟩
            try simp only [Act.put, List.setIfInBounds_toArray, List.set_cons_zero, List.set_cons_succ]
            refine wpAnyH_take (i := 13) (oi := ?oiC13x) (v := ?vC13x) ?hiC13x (by kernel_rfl) (by kernel_rfl) (by kernel_rfl) ?hqC13x ?hyC13x (by assumption) ?restC13x
            case hiC13x => (simp only [List.getElem?_toArray, List.getElem?_cons_succ, List.getElem?_cons_zero] <;> rfl)
            case hqC13x => exact fun _ _ _ h => h
            case hyC13x => exact Or.inl ⟨by rfl, by (intro wS hSw; obtain ⟨c0, c1, c2⟩ := C0.out wS hSw; obtain ⟨d0, d1, d2⟩ := CA.out wS hSw; go_simp; try with_reducible rfl)⟩
            try simp only [Act.put, List.setIfInBounds_toArray, List.set_cons_zero, List.set_cons_succ]
            refine wpAnyH_take (i := 14) (oi := ?oiC14x) (v := ?vC14x) ?hiC14x (by kernel_rfl) (by kernel_rfl) (by kernel_rfl) ?hqC14x ?hyC14x (by assumption) ?restC14x
            case hiC14x => (simp only [List.getElem?_toArray, List.getElem?_cons_succ, List.getElem?_cons_zero] <;> rfl)
            case hqC14x => exact fun _ _ _ h => h
            case hyC14x => exact Or.inl ⟨by rfl, by (intro wS hSw; obtain ⟨c0, c1, c2⟩ := C0.out wS hSw; obtain ⟨d0, d1, d2⟩ := CA.out wS hSw; go_simp; try with_reducible rfl)⟩
            try simp only [Act.put, List.setIfInBounds_toArray, List.set_cons_zero, List.set_cons_succ]
            refine wpAnyH_take (i := 16) (oi := ?oiC16x) (v := ?vC16x) ?hiC16x (by kernel_rfl) (by kernel_rfl) (by kernel_rfl) ?hqC16x ?hyC16x (by assumption) ?restC16x
            case hiC16x => (simp only [List.getElem?_toArray, List.getElem?_cons_succ, List.getElem?_cons_zero] <;> rfl)
            case hqC16x => exact fun _ _ _ h => h
            case hyC16x => exact Or.inl ⟨by rfl, by (intro wS hSw; obtain ⟨c0, c1, c2⟩ := C0.out wS hSw; obtain ⟨d0, d1, d2⟩ := CA.out wS hSw; go_simp; try with_reducible rfl)⟩
            try simp only [Act.put, List.setIfInBounds_toArray, List.set_cons_zero, List.set_cons_succ]
            refine wpAnyH_ready (rs := [15]) (by kernel_rfl) (by simp) ?_
            refine AllReadyH.cons (o := ?oiC15x) ?hiC15x (fun K hK => ?hsC15x) AllReadyH.nil
            case hiC15x => (simp only [List.getElem?_toArray, List.getElem?_cons_succ, List.getElem?_cons_zero] <;> rfl)
            go_simp
            have HQ := Lib.hid (addSub_prog su ty (.slice aa zs.length ka) zs s y2 (RAZ.out.below (show Below wz.heap.size wz y2 from by assumption)) hzs (HMZ.out.below (show Below wz.heap.size wz y2 from by assumption)))
            rw [HAA.out] at HQ
            refine HQ.out.mono ?_
            rintro e y3 ⟨vb, rfl, rb, by3⟩
            have hGy3 : Lx wz y3 := Lx.step (by assumption) by3
            obtain ⟨ab, kb, rfl⟩ := rb.form
            have RB := Lib.hid rb
            clear by3 HQ rb
            go_wp2_with fail
            refine hK.out _ _ hGy3 (fun hHeldy3 => ?_)
            clear hK K
            try simp only [Act.put, List.setIfInBounds_toArray, List.set_cons_zero, List.set_cons_succ]
            refine wpAnyH_ready (rs := [17]) (by kernel_rfl) (by simp) ?_
            refine AllReadyH.cons (o := ?oiC17x) ?hiC17x (fun K hK => ?hsC17x) AllReadyH.nil
            case hiC17x => (simp only [List.getElem?_toArray, List.getElem?_cons_succ, List.getElem?_cons_zero] <;> rfl)
            go_simp
            have HQ := Lib.hid (sameL_prog su ty (.slice ab zs.length kb) zs su ty (.slice aa zs.length ka) zs y3 RB.out (RAZ.out.below (show Below wz.heap.size wz y3 from by assumption)) hzl hzl)
            rw [same_self] at HQ
            refine HQ.out.mono ?_
            rintro e y4 ⟨rfl, by4⟩
            have hGy4 : Lx wz y4 := Lx.step (by assumption) by4
            clear by4 HQ
            go_wp2_with fail
            refine hK.out _ _ hGy4 (fun hHeldy4 => ?_)
            clear hK K
            try simp only [Act.put, List.setIfInBounds_toArray, List.set_cons_zero, List.set_cons_succ]
            refine wpAnyH_take (i := 18) (oi := ?oiC18x) (v := ?vC18x) ?hiC18x (by kernel_rfl) (by kernel_rfl) (by kernel_rfl) ?hqC18x ?hyC18x (by assumption) ?restC18x
            case hiC18x => (simp only [List.getElem?_toArray, List.getElem?_cons_succ, List.getElem?_cons_zero] <;> rfl)
            case hqC18x => exact fun _ _ _ h => h
            case hyC18x => exact Or.inl ⟨by rfl, by (intro wS hSw; obtain ⟨c0, c1, c2⟩ := C0.out wS hSw; obtain ⟨d0, d1, d2⟩ := CA.out wS hSw; go_simp; try with_reducible rfl)⟩
            try simp only [Act.put, List.setIfInBounds_toArray, List.set_cons_zero, List.set_cons_succ]
            refine wpAnyH_take (i := 19) (oi := ?oiC19x) (v := ?vC19x) ?hiC19x (by kernel_rfl) (by kernel_rfl) (by kernel_rfl) ?hqC19x ?hyC19x (by assumption) ?restC19x
            case hiC19x => (simp only [List.getElem?_toArray, List.getElem?_cons_succ, List.getElem?_cons_zero] <;> rfl)
            case hqC19x => exact fun _ _ _ h => h
            case hyC19x => exact Or.inl ⟨by rfl, by (intro wS hSw; obtain ⟨c0, c1, c2⟩ := C0.out wS hSw; obtain ⟨d0, d1, d2⟩ := CA.out wS hSw; go_simp; try with_reducible rfl)⟩
            try simp only [Act.put, List.setIfInBounds_toArray, List.set_cons_zero, List.set_cons_succ]
            refine wpAnyH_take (i := 20) (oi := ?oiC20x) (v := ?vC20x) ?hiC20x (by kernel_rfl) (by kernel_rfl) (by kernel_rfl) ?hqC20x ?hyC20x (by assumption) ?restC20x
            case hiC20x => (simp only [List.getElem?_toArray, List.getElem?_cons_succ, List.getElem?_cons_zero] <;> rfl)
            case hqC20x => exact fun _ _ _ h => h
            case hyC20x => exact Or.inl ⟨by rfl, by (intro wS hSw; obtain ⟨c0, c1, c2⟩ := C0.out wS hSw; obtain ⟨d0, d1, d2⟩ := CA.out wS hSw; go_simp; try with_reducible rfl)⟩
            try simp only [Act.put, List.setIfInBounds_toArray, List.set_cons_zero, List.set_cons_succ]
            refine wpAnyH_take (i := 21) (oi := ?oiC21x) (v := ?vC21x) ?hiC21x (by kernel_rfl) (by kernel_rfl) (by kernel_rfl) ?hqC21x ?hyC21x (by assumption) ?restC21x
            case hiC21x => (simp only [List.getElem?_toArray, List.getElem?_cons_succ, List.getElem?_cons_zero] <;> rfl)
            case hqC21x => exact fun _ _ _ h => h
            case hyC21x => exact Or.inl ⟨by rfl, by (intro wS hSw; obtain ⟨c0, c1, c2⟩ := C0.out wS hSw; obtain ⟨d0, d1, d2⟩ := CA.out wS hSw; go_simp; try with_reducible rfl)⟩
            try simp only [Act.put, List.setIfInBounds_toArray, List.set_cons_zero, List.set_cons_succ]
            refine wpAnyH_take (i := 22) (oi := ?oiC22x) (v := ?vC22x) ?hiC22x (by kernel_rfl) (by kernel_rfl) (by kernel_rfl) ?hqC22x ?hyC22x (by assumption) ?restC22x
            case hiC22x => (simp only [List.getElem?_toArray, List.getElem?_cons_succ, List.getElem?_cons_zero] <;> rfl)
            case hqC22x => exact fun _ _ _ h => h
            case hyC22x => exact Or.inl ⟨by rfl, by (intro wS hSw; obtain ⟨c0, c1, c2⟩ := C0.out wS hSw; obtain ⟨d0, d1, d2⟩ := CA.out wS hSw; go_simp; try with_reducible rfl)⟩
            try simp only [Act.put, List.setIfInBounds_toArray, List.set_cons_zero, List.set_cons_succ]
            refine wpAnyH_take (i := 23) (oi := ?oiC23x) (v := undef) ?hiC23x (by kernel_rfl) (by kernel_rfl) (by kernel_rfl) ?hqC23x ?hyC23x (by assumption) ?restC23x
            case hiC23x => (simp only [List.getElem?_toArray, List.getElem?_cons_succ, List.getElem?_cons_zero] <;> rfl)
            case hqC23x => exact fun _ _ _ h => h
            case hyC23x => exact Or.inr ⟨by kernel_rfl, rfl⟩
            try simp only [Act.put, List.setIfInBounds_toArray, List.set_cons_zero, List.set_cons_succ]
            refine wpAnyH_take (i := 24) (oi := ?oiC24x) (v := undef) ?hiC24x (by kernel_rfl) (by kernel_rfl) (by kernel_rfl) ?hqC24x ?hyC24x (by assumption) ?restC24x
            case hiC24x => (simp only [List.getElem?_toArray, List.getElem?_cons_succ, List.getElem?_cons_zero] <;> rfl)
            case hqC24x => exact fun _ _ _ h => h
            case hyC24x => exact Or.inr ⟨by kernel_rfl, rfl⟩
            try simp only [Act.put, List.setIfInBounds_toArray, List.set_cons_zero, List.set_cons_succ]
            refine wpAnyH_take (i := 25) (oi := ?oiC25x) (v := undef) ?hiC25x (by kernel_rfl) (by kernel_rfl) (by kernel_rfl) ?hqC25x ?hyC25x (by assumption) ?restC25x
            case hiC25x => (simp only [List.getElem?_toArray, List.getElem?_cons_succ, List.getElem?_cons_zero] <;> rfl)
            case hqC25x => exact fun _ _ _ h => h
            case hyC25x => exact Or.inr ⟨by kernel_rfl, rfl⟩
            try simp only [Act.put, List.setIfInBounds_toArray, List.set_cons_zero, List.set_cons_succ]
            refine wpAnyH_take (i := 26) (oi := ?oiC26x) (v := ?vC26x) ?hiC26x (by kernel_rfl) (by kernel_rfl) (by kernel_rfl) ?hqC26x ?hyC26x (by assumption) ?restC26x
            case hiC26x => (simp only [List.getElem?_toArray, List.getElem?_cons_succ, List.getElem?_cons_zero] <;> rfl)
            case hqC26x => exact fun _ _ _ h => h
            case hyC26x => exact Or.inl ⟨by rfl, by (intro wS hSw; obtain ⟨c0, c1, c2⟩ := C0.out wS hSw; obtain ⟨d0, d1, d2⟩ := CA.out wS hSw; go_simp; try with_reducible rfl)⟩
            try simp only [Act.put, List.setIfInBounds_toArray, List.set_cons_zero, List.set_cons_succ]
            refine wpAnyH_take (i := 27) (oi := ?oiC27x) (v := ?vC27x) ?hiC27x (by kernel_rfl) (by kernel_rfl) (by kernel_rfl) ?hqC27x ?hyC27x (by assumption) ?restC27x
            case hiC27x => (simp only [List.getElem?_toArray, List.getElem?_cons_succ, List.getElem?_cons_zero] <;> rfl)
            case hqC27x => exact fun _ _ _ h => h
            case hyC27x => exact Or.inl ⟨by rfl, by (intro wS hSw; obtain ⟨c0, c1, c2⟩ := C0.out wS hSw; obtain ⟨d0, d1, d2⟩ := CA.out wS hSw; go_simp; try with_reducible rfl)⟩
            try simp only [Act.put, List.setIfInBounds_toArray, List.set_cons_zero, List.set_cons_succ]
            refine wpAnyH_take (i := 28) (oi := ?oiC28x) (v := ?vC28x) ?hiC28x (by kernel_rfl) (by kernel_rfl) (by kernel_rfl) ?hqC28x ?hyC28x (by assumption) ?restC28x
            case hiC28x => (simp only [List.getElem?_toArray, List.getElem?_cons_succ, List.getElem?_cons_zero] <;> rfl)
            case hqC28x => exact fun _ _ _ h => h
            case hyC28x => exact Or.inl ⟨by rfl, by (intro wS hSw; obtain ⟨c0, c1, c2⟩ := C0.out wS hSw; obtain ⟨d0, d1, d2⟩ := CA.out wS hSw; go_simp; try with_reducible rfl)⟩
            try simp only [Act.put, List.setIfInBounds_toArray, List.set_cons_zero, List.set_cons_succ]
            refine wpAnyH_take (i := 29) (oi := ?oiC29x) (v := ?vC29x) ?hiC29x (by kernel_rfl) (by kernel_rfl) (by kernel_rfl) ?hqC29x ?hyC29x (by assumption) ?restC29x
            case hiC29x => (simp only [List.getElem?_toArray, List.getElem?_cons_succ, List.getElem?_cons_zero] <;> rfl)
            case hqC29x => exact fun _ _ _ h => h
            case hyC29x => exact Or.inl ⟨by rfl, by (intro wS hSw; obtain ⟨c0, c1, c2⟩ := C0.out wS hSw; obtain ⟨d0, d1, d2⟩ := CA.out wS hSw; go_simp; try with_reducible rfl)⟩
            try simp only [Act.put, List.setIfInBounds_toArray, List.set_cons_zero, List.set_cons_succ]
            refine wpAnyH_take (i := 30) (oi := ?oiC30x) (v := ?vC30x) ?hiC30x (by kernel_rfl) (by kernel_rfl) (by kernel_rfl) ?hqC30x ?hyC30x (by assumption) ?restC30x
            case hiC30x => (simp only [List.getElem?_toArray, List.getElem?_cons_succ, List.getElem?_cons_zero] <;> rfl)
            case hqC30x => exact fun _ _ _ h => h
            case hyC30x => exact Or.inl ⟨by rfl, by (intro wS hSw; obtain ⟨c0, c1, c2⟩ := C0.out wS hSw; obtain ⟨d0, d1, d2⟩ := CA.out wS hSw; go_simp; try with_reducible rfl)⟩
            try simp only [Act.put, List.setIfInBounds_toArray, List.set_cons_zero, List.set_cons_succ]
            refine wpAnyH_take (i := 31) (oi := ?oiC31x) (v := ?vC31x) ?hiC31x (by kernel_rfl) (by kernel_rfl) (by kernel_rfl) ?hqC31x ?hyC31x (by assumption) ?restC31x
            case hiC31x => (simp only [List.getElem?_toArray, List.getElem?_cons_succ, List.getElem?_cons_zero] <;> rfl)
            case hqC31x => exact fun _ _ _ h => h
            case hyC31x => exact Or.inl ⟨by rfl, by (intro wS hSw; obtain ⟨c0, c1, c2⟩ := C0.out wS hSw; obtain ⟨d0, d1, d2⟩ := CA.out wS hSw; go_simp; try with_reducible rfl)⟩
            try simp only [Act.put, List.setIfInBounds_toArray, List.set_cons_zero, List.set_cons_succ]
            refine wpAnyH_take (i := 32) (oi := ?oiC32x) (v := ?vC32x) ?hiC32x (by kernel_rfl) (by kernel_rfl) (by kernel_rfl) ?hqC32x ?hyC32x (by assumption) ?restC32x
            case hiC32x => (simp only [List.getElem?_toArray, List.getElem?_cons_succ, List.getElem?_cons_zero] <;> rfl)
            case hqC32x => exact fun _ _ _ h => h
            case hyC32x => exact Or.inl ⟨by rfl, by (intro wS hSw; obtain ⟨c0, c1, c2⟩ := C0.out wS hSw; obtain ⟨d0, d1, d2⟩ := CA.out wS hSw; go_simp; try with_reducible rfl)⟩
            try simp only [Act.put, List.setIfInBounds_toArray, List.set_cons_zero, List.set_cons_succ]
            refine wpAnyH_take (i := 33) (oi := ?oiC33x) (v := ?vC33x) ?hiC33x (by kernel_rfl) (by kernel_rfl) (by kernel_rfl) ?hqC33x ?hyC33x (by assumption) ?restC33x
            case hiC33x => (simp only [List.getElem?_toArray, List.getElem?_cons_succ, List.getElem?_cons_zero] <;> rfl)
            case hqC33x => exact fun _ _ _ h => h
            case hyC33x => exact Or.inl ⟨by rfl, by (intro wS hSw; obtain ⟨c0, c1, c2⟩ := C0.out wS hSw; obtain ⟨d0, d1, d2⟩ := CA.out wS hSw; go_simp; try with_reducible rfl)⟩
            try simp only [Act.put, List.setIfInBounds_toArray, List.set_cons_zero, List.set_cons_succ]
            refine wpAnyH_take (i := 34) (oi := ?oiC34x) (v := ?vC34x) ?hiC34x (by kernel_rfl) (by kernel_rfl) (by kernel_rfl) ?hqC34x ?hyC34x (by assumption) ?restC34x
            case hiC34x => (simp only [List.getElem?_toArray, List.getElem?_cons_succ, List.getElem?_cons_zero] <;> rfl)
            case hqC34x => exact fun _ _ _ h => h
            case hyC34x => exact Or.inl ⟨by rfl, by (intro wS hSw; obtain ⟨c0, c1, c2⟩ := C0.out wS hSw; obtain ⟨d0, d1, d2⟩ := CA.out wS hSw; go_simp; try with_reducible rfl)⟩
            try simp only [Act.put, List.setIfInBounds_toArray, List.set_cons_zero, List.set_cons_succ]
            refine wpAnyH_take (i := 35) (oi := ?oiC35x) (v := ?vC35x) ?hiC35x (by kernel_rfl) (by kernel_rfl) (by kernel_rfl) ?hqC35x ?hyC35x (by assumption) ?restC35x
            case hiC35x => (simp only [List.getElem?_toArray, List.getElem?_cons_succ, List.getElem?_cons_zero] <;> rfl)
            case hqC35x => exact fun _ _ _ h => h
            case hyC35x => exact Or.inl ⟨by rfl, by (intro wS hSw; obtain ⟨c0, c1, c2⟩ := C0.out wS hSw; obtain ⟨d0, d1, d2⟩ := CA.out wS hSw; go_simp; try with_reducible rfl)⟩
            try simp only [Act.put, List.setIfInBounds_toArray, List.set_cons_zero, List.set_cons_succ]
            refine wpAnyH_take (i := 36) (oi := ?oiC36x) (v := ?vC36x) ?hiC36x (by kernel_rfl) (by kernel_rfl) (by kernel_rfl) ?hqC36x ?hyC36x (by assumption) ?restC36x
            case hiC36x => (simp only [List.getElem?_toArray, List.getElem?_cons_succ, List.getElem?_cons_zero] <;> rfl)
            case hqC36x => exact fun _ _ _ h => h
            case hyC36x => exact Or.inl ⟨by rfl, by (intro wS hSw; obtain ⟨c0, c1, c2⟩ := C0.out wS hSw; obtain ⟨d0, d1, d2⟩ := CA.out wS hSw; go_simp; try with_reducible rfl)⟩
            try simp only [Act.put, List.setIfInBounds_toArray, List.set_cons_zero, List.set_cons_succ]
            refine wpAnyH_take (i := 37) (oi := ?oiC37x) (v := ?vC37x) ?hiC37x (by kernel_rfl) (by kernel_rfl) (by kernel_rfl) ?hqC37x ?hyC37x (by assumption) ?restC37x
            case hiC37x => (simp only [List.getElem?_toArray, List.getElem?_cons_succ, List.getElem?_cons_zero] <;> rfl)
            case hqC37x => exact fun _ _ _ h => h
            case hyC37x => exact Or.inl ⟨by rfl, by (intro wS hSw; obtain ⟨c0, c1, c2⟩ := C0.out wS hSw; obtain ⟨d0, d1, d2⟩ := CA.out wS hSw; go_simp; try with_reducible rfl)⟩
            try simp only [Act.put, List.setIfInBounds_toArray, List.set_cons_zero, List.set_cons_succ]
            refine wpAnyH_take (i := 38) (oi := ?oiC38x) (v := ?vC38x) ?hiC38x (by kernel_rfl) (by kernel_rfl) (by kernel_rfl) ?hqC38x ?hyC38x (by assumption) ?restC38x
            case hiC38x => (simp only [List.getElem?_toArray, List.getElem?_cons_succ, List.getElem?_cons_zero] <;> rfl)
            case hqC38x => exact fun _ _ _ h => h
            case hyC38x => exact Or.inl ⟨by rfl, by (intro wS hSw; obtain ⟨c0, c1, c2⟩ := C0.out wS hSw; obtain ⟨d0, d1, d2⟩ := CA.out wS hSw; go_simp; try with_reducible rfl)⟩
            try simp only [Act.put, List.setIfInBounds_toArray, List.set_cons_zero, List.set_cons_succ]
            refine wpAnyH_take (i := 39) (oi := ?oiC39x) (v := ?vC39x) ?hiC39x (by kernel_rfl) (by kernel_rfl) (by kernel_rfl) ?hqC39x ?hyC39x (by assumption) ?restC39x
            case hiC39x => (simp only [List.getElem?_toArray, List.getElem?_cons_succ, List.getElem?_cons_zero] <;> rfl)
            case hqC39x => exact fun _ _ _ h => h
            case hyC39x => exact Or.inl ⟨by rfl, by (intro wS hSw; obtain ⟨c0, c1, c2⟩ := C0.out wS hSw; obtain ⟨d0, d1, d2⟩ := CA.out wS hSw; go_simp; try with_reducible rfl)⟩
            try simp only [Act.put, List.setIfInBounds_toArray, List.set_cons_zero, List.set_cons_succ]
            refine wpAnyH_take (i := 40) (oi := ?oiC40x) (v := ?vC40x) ?hiC40x (by kernel_rfl) (by kernel_rfl) (by kernel_rfl) ?hqC40x ?hyC40x (by assumption) ?restC40x
            case hiC40x => (simp only [List.getElem?_toArray, List.getElem?_cons_succ, List.getElem?_cons_zero] <;> rfl)
            case hqC40x => exact fun _ _ _ h => h
            case hyC40x => exact Or.inl ⟨by rfl, by (intro wS hSw; obtain ⟨c0, c1, c2⟩ := C0.out wS hSw; obtain ⟨d0, d1, d2⟩ := CA.out wS hSw; go_simp; try with_reducible rfl)⟩
            try simp only [Act.put, List.setIfInBounds_toArray, List.set_cons_zero, List.set_cons_succ]
            refine wpAnyH_take (i := 41) (oi := ?oiC41x) (v := ?vC41x) ?hiC41x (by kernel_rfl) (by kernel_rfl) (by kernel_rfl) ?hqC41x ?hyC41x (by assumption) ?restC41x
            case hiC41x => (simp only [List.getElem?_toArray, List.getElem?_cons_succ, List.getElem?_cons_zero] <;> rfl)
            case hqC41x => exact fun _ _ _ h => h
            case hyC41x => exact Or.inl ⟨by rfl, by (intro wS hSw; obtain ⟨c0, c1, c2⟩ := C0.out wS hSw; obtain ⟨d0, d1, d2⟩ := CA.out wS hSw; go_simp; try with_reducible rfl)⟩
            try simp only [Act.put, List.setIfInBounds_toArray, List.set_cons_zero, List.set_cons_succ]
            refine wpAnyH_take (i := 42) (oi := ?oiC42x) (v := ?vC42x) ?hiC42x (by kernel_rfl) (by kernel_rfl) (by kernel_rfl) ?hqC42x ?hyC42x (by assumption) ?restC42x
            case hiC42x => (simp only [List.getElem?_toArray, List.getElem?_cons_succ, List.getElem?_cons_zero] <;> rfl)
            case hqC42x => exact fun _ _ _ h => h
            case hyC42x => exact Or.inl ⟨by rfl, by (intro wS hSw; obtain ⟨c0, c1, c2⟩ := C0.out wS hSw; obtain ⟨d0, d1, d2⟩ := CA.out wS hSw; go_simp; try with_reducible rfl)⟩
            try simp only [Act.put, List.setIfInBounds_toArray, List.set_cons_zero, List.set_cons_succ]
            refine wpAnyH_done (by kernel_rfl) ?_ _
            refine NoPanic.normal ?_
            go_wp2_with fail
            go_ret
            exact ⟨rfl, BX.out.trans ((BZ.out.trans (hGy4.mono BZ.out.size)).mono BX.out.size)⟩
        · obtain ⟨hl, haa⟩ := addL_same (xs := xs) (s := s) (fun h => by rw [hc] at h; exact Bool.noConfusion h.2.1)
          have HAA := Lib.hid haa
          have hll : (addL xs s).length = xs.length := by rw [hl]
          obtain ⟨zs, hzs'⟩ : ∃ zs, zs = addL xs s := ⟨_, rfl⟩
          rw [← hzs'] at HAA hll hzs hzl RAZ CA HAZ HOK ⊢
          have HIA := HOK
          have HLL := Lib.hid hll
          have hw : ((zs.length : Int) == (xs.length : Int)) = true := by rw [hll]; simp
          clear hl haa hzs' hll
          have HQ := Lib.hid (isSub_prog s wz HMZ.out)
          rw [hs] at HQ
          have hs0 := Lib.hid hs
          clear hs
          go_wp2_with fail
          rw [← HAZ.out]
          refine HQ.out.mono ?_
          rintro e x1 ⟨rfl, bx1⟩
          have Gx1 := Lib.hid bx1
          clear bx1 HQ
          obtain ⟨c0, c1, c2⟩ := C0.out x1 Gx1.out
          obtain ⟨d0, d1, d2⟩ := CA.out x1 Gx1.out
          have HQ := Lib.hid (hasSub_prog su ty (.slice ao xs.length cap) xs s x1 (RXZ.out.below Gx1.out) hn)
          rw [hc] at HQ
          clear hc
          go_wp2_with fail
          refine HQ.out.mono ?_
          rintro e x2 ⟨rfl, bx2⟩
          have Gx2 := Lib.hid (Gx1.out.trans (bx2.mono Gx1.out.size))
          clear bx2 HQ c0 c1 c2 d0 d1 d2
          obtain ⟨c0, c1, c2⟩ := C0.out x2 Gx2.out
          obtain ⟨d0, d1, d2⟩ := CA.out x2 Gx2.out
          go_wp2_with fail
          obtain ⟨wv, hwv⟩ : ∃ wv, wv = x2 := ⟨_, rfl⟩
          have G0 : Below wz.heap.size wz x2 := Gx2.out
          clear hwv c0 c1 c2 d0 d1 d2
          have hGv : Lx wz x2 := G0
          have hGd : Lx wz x2.drew := Lx.drew hGv
          clear G0
          refine wp_region_noPanic ?_
          refine wp_region_held_drew (S := fun w' => Lx wz w') (by kernel_rfl) (Lx.drew (by assumption)) (fun hHeld => ?_)
          refine wpAnyH_ready (rs := [0]) (by kernel_rfl) (by simp) ?_
          refine AllReadyH.cons (o := ?oiB0x) ?hiB0x (fun K hK => ?hsB0x) AllReadyH.nil
          case hiB0x => (simp only [List.getElem?_toArray, List.getElem?_cons_zero] <;> rfl)
          go_simp
          have HQ := Lib.hid (alive10 x2.drew (HMZ.out.below (show Below wz.heap.size wz x2.drew from by assumption)))
          refine HQ.out.mono ?_
          rintro e y1 ⟨rfl, by1⟩
          have hGy1 : Lx wz y1 := Lx.step (by assumption) by1
          clear by1 HQ
          go_wp2_with fail
          refine hK.out _ _ hGy1 (fun hHeldy1 => ?_)
          clear hK K
          try simp only [Act.put, List.setIfInBounds_toArray, List.set_cons_zero, List.set_cons_succ]
          refine wpAnyH_take (i := 1) (oi := ?oiB1x) (v := ?vB1x) ?hiB1x (by kernel_rfl) (by kernel_rfl) (by kernel_rfl) ?hqB1x ?hyB1x (by assumption) ?restB1x
          case hiB1x => (simp only [List.getElem?_toArray, List.getElem?_cons_succ, List.getElem?_cons_zero] <;> rfl)
          case hqB1x => exact fun _ _ _ h => h
          case hyB1x => exact Or.inl ⟨by rfl, by (intro wS hSw; obtain ⟨c0, c1, c2⟩ := C0.out wS hSw; obtain ⟨d0, d1, d2⟩ := CA.out wS hSw; go_simp; try with_reducible rfl)⟩
          try simp only [Act.put, List.setIfInBounds_toArray, List.set_cons_zero, List.set_cons_succ]
          refine wpAnyH_take (i := 2) (oi := ?oiB2x) (v := ?vB2x) ?hiB2x (by kernel_rfl) (by kernel_rfl) (by kernel_rfl) ?hqB2x ?hyB2x (by assumption) ?restB2x
          case hiB2x => (simp only [List.getElem?_toArray, List.getElem?_cons_succ, List.getElem?_cons_zero] <;> rfl)
          case hqB2x => exact fun _ _ _ h => h
          case hyB2x => exact Or.inl ⟨by rfl, by (intro wS hSw; obtain ⟨c0, c1, c2⟩ := C0.out wS hSw; obtain ⟨d0, d1, d2⟩ := CA.out wS hSw; go_simp; try with_reducible rfl)⟩
          try simp only [Act.put, List.setIfInBounds_toArray, List.set_cons_zero, List.set_cons_succ]
          refine wpAnyH_ready (rs := [3]) (by kernel_rfl) (by simp) ?_
          refine AllReadyH.cons (o := ?oiB3x) ?hiB3x (fun K hK => ?hsB3x) AllReadyH.nil
          case hiB3x => (simp only [List.getElem?_toArray, List.getElem?_cons_succ, List.getElem?_cons_zero] <;> rfl)
          go_simp
          have HQ := Lib.hid (isL_prog su ty (.slice aa zs.length ka) zs y1 (RAZ.out.below (show Below wz.heap.size wz y1 from by assumption)) hzl (HMZ.out.below (show Below wz.heap.size wz y1 from by assumption)))
          rw [HIA.out] at HQ
          refine HQ.out.mono ?_
          rintro e y2 ⟨rfl, by2⟩
          have hGy2 : Lx wz y2 := Lx.step (by assumption) by2
          clear by2 HQ
          go_wp2_with fail
          refine hK.out _ _ hGy2 (fun hHeldy2 => ?_)
          clear hK K
          try simp only [Act.put, List.setIfInBounds_toArray, List.set_cons_zero, List.set_cons_succ]
          refine wpAnyH_take (i := 4) (oi := ?oiB4x) (v := ?vB4x) ?hiB4x (by kernel_rfl) (by kernel_rfl) (by kernel_rfl) ?hqB4x ?hyB4x (by assumption) ?restB4x
          case hiB4x => (simp only [List.getElem?_toArray, List.getElem?_cons_succ, List.getElem?_cons_zero] <;> rfl)
          case hqB4x => exact fun _ _ _ h => h
          case hyB4x => exact Or.inl ⟨by rfl, by (intro wS hSw; obtain ⟨c0, c1, c2⟩ := C0.out wS hSw; obtain ⟨d0, d1, d2⟩ := CA.out wS hSw; go_simp; try with_reducible rfl)⟩
          try simp only [Act.put, List.setIfInBounds_toArray, List.set_cons_zero, List.set_cons_succ]
          refine wpAnyH_take (i := 5) (oi := ?oiB5x) (v := ?vB5x) ?hiB5x (by kernel_rfl) (by kernel_rfl) (by kernel_rfl) ?hqB5x ?hyB5x (by assumption) ?restB5x
          case hiB5x => (simp only [List.getElem?_toArray, List.getElem?_cons_succ, List.getElem?_cons_zero] <;> rfl)
          case hqB5x => exact fun _ _ _ h => h
          case hyB5x => exact Or.inl ⟨by rfl, by (intro wS hSw; obtain ⟨c0, c1, c2⟩ := C0.out wS hSw; obtain ⟨d0, d1, d2⟩ := CA.out wS hSw; go_simp; try with_reducible rfl)⟩
          try simp only [Act.put, List.setIfInBounds_toArray, List.set_cons_zero, List.set_cons_succ]
          refine wpAnyH_take (i := 6) (oi := ?oiB6x) (v := ?vB6x) ?hiB6x (by kernel_rfl) (by kernel_rfl) (by kernel_rfl) ?hqB6x ?hyB6x (by assumption) ?restB6x
          case hiB6x => (simp only [List.getElem?_toArray, List.getElem?_cons_succ, List.getElem?_cons_zero] <;> rfl)
          case hqB6x => exact fun _ _ _ h => h
          case hyB6x => exact Or.inl ⟨by rfl, by (intro wS hSw; obtain ⟨c0, c1, c2⟩ := C0.out wS hSw; obtain ⟨d0, d1, d2⟩ := CA.out wS hSw; go_simp; try with_reducible rfl)⟩
          try simp only [Act.put, List.setIfInBounds_toArray, List.set_cons_zero, List.set_cons_succ]
          refine wpAnyH_take (i := 7) (oi := ?oiB7x) (v := ?vB7x) ?hiB7x (by kernel_rfl) (by kernel_rfl) (by kernel_rfl) ?hqB7x ?hyB7x (by assumption) ?restB7x
          case hiB7x => (simp only [List.getElem?_toArray, List.getElem?_cons_succ, List.getElem?_cons_zero] <;> rfl)
          case hqB7x => exact fun _ _ _ h => h
          case hyB7x => exact Or.inl ⟨by rfl, by (intro wS hSw; obtain ⟨c0, c1, c2⟩ := C0.out wS hSw; obtain ⟨d0, d1, d2⟩ := CA.out wS hSw; go_simp; try with_reducible rfl)⟩
          try simp only [Act.put, List.setIfInBounds_toArray, List.set_cons_zero, List.set_cons_succ]
          refine wpAnyH_take (i := 8) (oi := ?oiB8x) (v := ?vB8x) ?hiB8x (by kernel_rfl) (by kernel_rfl) (by kernel_rfl) ?hqB8x ?hyB8x (by assumption) ?restB8x
          case hiB8x => (simp only [List.getElem?_toArray, List.getElem?_cons_succ, List.getElem?_cons_zero] <;> rfl)
          case hqB8x => exact fun _ _ _ h => h
          case hyB8x => exact Or.inl ⟨by rfl, by (intro wS hSw; obtain ⟨c0, c1, c2⟩ := C0.out wS hSw; obtain ⟨d0, d1, d2⟩ := CA.out wS hSw; go_simp; try with_reducible rfl)⟩
          try simp only [Act.put, List.setIfInBounds_toArray, List.set_cons_zero, List.set_cons_succ]
          refine wpAnyH_take (i := 9) (oi := ?oiB9x) (v := ?vB9x) ?hiB9x (by kernel_rfl) (by kernel_rfl) (by kernel_rfl) ?hqB9x ?hyB9x (by assumption) ?restB9x
          case hiB9x => (simp only [List.getElem?_toArray, List.getElem?_cons_succ, List.getElem?_cons_zero] <;> rfl)
          case hqB9x => exact fun _ _ _ h => h
          case hyB9x => exact Or.inl ⟨by rfl, by (intro wS hSw; obtain ⟨c0, c1, c2⟩ := C0.out wS hSw; obtain ⟨d0, d1, d2⟩ := CA.out wS hSw; go_simp; try with_reducible rfl)⟩
          try simp only [Act.put, List.setIfInBounds_toArray, List.set_cons_zero, List.set_cons_succ]
          refine wpAnyH_take (i := 10) (oi := ?oiB10x) (v := ?vB10x) ?hiB10x (by kernel_rfl) (by kernel_rfl) (by kernel_rfl) ?hqB10x ?hyB10x (by assumption) ?restB10x
          case hiB10x => (simp only [List.getElem?_toArray, List.getElem?_cons_succ, List.getElem?_cons_zero] <;> rfl)
          case hqB10x => exact fun _ _ _ h => h
          case hyB10x => exact Or.inl ⟨by rfl, by (intro wS hSw; obtain ⟨c0, c1, c2⟩ := C0.out wS hSw; obtain ⟨d0, d1, d2⟩ := CA.out wS hSw; go_simp; try with_reducible rfl)⟩
          try simp only [Act.put, List.setIfInBounds_toArray, List.set_cons_zero, List.set_cons_succ]
          refine wpAnyH_take (i := 11) (oi := ?oiB11x) (v := ?vB11x) ?hiB11x (by kernel_rfl) (by kernel_rfl) (by kernel_rfl) ?hqB11x ?hyB11x (by assumption) ?restB11x
          case hiB11x => (simp only [List.getElem?_toArray, List.getElem?_cons_succ, List.getElem?_cons_zero] <;> rfl)
          case hqB11x => exact fun _ _ _ h => h
          case hyB11x => exact Or.inl ⟨by rfl, by (intro wS hSw; obtain ⟨c0, c1, c2⟩ := C0.out wS hSw; obtain ⟨d0, d1, d2⟩ := CA.out wS hSw; go_simp; try with_reducible rfl)⟩
          try simp only [Act.put, List.setIfInBounds_toArray, List.set_cons_zero, List.set_cons_succ]
          refine wpAnyH_take (i := 12) (oi := ?oiB12x) (v := ?vB12x) ?hiB12x (by kernel_rfl) (by kernel_rfl) (by kernel_rfl) ?hqB12x ?hyB12x (by assumption) ?restB12x
          case hiB12x => (simp only [List.getElem?_toArray, List.getElem?_cons_succ, List.getElem?_cons_zero] <;> rfl)
          case hqB12x => exact fun _ _ _ h => h
          case hyB12x => exact Or.inl ⟨by rfl, by (intro wS hSw; obtain ⟨c0, c1, c2⟩ := C0.out wS hSw; obtain ⟨d0, d1, d2⟩ := CA.out wS hSw; go_simp; try with_reducible rfl)⟩
          try simp only [Act.put, List.setIfInBounds_toArray, List.set_cons_zero, List.set_cons_succ]
          refine wpAnyH_take (i := 13) (oi := ?oiB13x) (v := ?vB13x) ?hiB13x (by kernel_rfl) (by kernel_rfl) (by kernel_rfl) ?hqB13x ?hyB13x (by assumption) ?restB13x
          case hiB13x => (simp only [List.getElem?_toArray, List.getElem?_cons_succ, List.getElem?_cons_zero] <;> rfl)
          case hqB13x => exact fun _ _ _ h => h
          case hyB13x => exact Or.inl ⟨by rfl, by (intro wS hSw; obtain ⟨c0, c1, c2⟩ := C0.out wS hSw; obtain ⟨d0, d1, d2⟩ := CA.out wS hSw; go_simp; try with_reducible rfl)⟩
          try simp only [Act.put, List.setIfInBounds_toArray, List.set_cons_zero, List.set_cons_succ]
          refine wpAnyH_take (i := 14) (oi := ?oiB14x) (v := ?vB14x) ?hiB14x (by kernel_rfl) (by kernel_rfl) (by kernel_rfl) ?hqB14x ?hyB14x (by assumption) ?restB14x
          case hiB14x => (simp only [List.getElem?_toArray, List.getElem?_cons_succ, List.getElem?_cons_zero] <;> rfl)
          case hqB14x => exact fun _ _ _ h => h
          case hyB14x => exact Or.inl ⟨by rfl, by (intro wS hSw; obtain ⟨c0, c1, c2⟩ := C0.out wS hSw; obtain ⟨d0, d1, d2⟩ := CA.out wS hSw; go_simp; try with_reducible rfl)⟩
          try simp only [Act.put, List.setIfInBounds_toArray, List.set_cons_zero, List.set_cons_succ]
          refine wpAnyH_take (i := 16) (oi := ?oiB16x) (v := ?vB16x) ?hiB16x (by kernel_rfl) (by kernel_rfl) (by kernel_rfl) ?hqB16x ?hyB16x (by assumption) ?restB16x
          case hiB16x => (simp only [List.getElem?_toArray, List.getElem?_cons_succ, List.getElem?_cons_zero] <;> rfl)
          case hqB16x => exact fun _ _ _ h => h
          case hyB16x => exact Or.inl ⟨by rfl, by (intro wS hSw; obtain ⟨c0, c1, c2⟩ := C0.out wS hSw; obtain ⟨d0, d1, d2⟩ := CA.out wS hSw; go_simp; try with_reducible rfl)⟩
          try simp only [Act.put, List.setIfInBounds_toArray, List.set_cons_zero, List.set_cons_succ]
          refine wpAnyH_ready (rs := [15]) (by kernel_rfl) (by simp) ?_
          refine AllReadyH.cons (o := ?oiB15x) ?hiB15x (fun K hK => ?hsB15x) AllReadyH.nil
          case hiB15x => (simp only [List.getElem?_toArray, List.getElem?_cons_succ, List.getElem?_cons_zero] <;> rfl)
          go_simp
          have HQ := Lib.hid (addSub_prog su ty (.slice aa zs.length ka) zs s y2 (RAZ.out.below (show Below wz.heap.size wz y2 from by assumption)) hzs (HMZ.out.below (show Below wz.heap.size wz y2 from by assumption)))
          rw [HAA.out] at HQ
          refine HQ.out.mono ?_
          rintro e y3 ⟨vb, rfl, rb, by3⟩
          have hGy3 : Lx wz y3 := Lx.step (by assumption) by3
          obtain ⟨ab, kb, rfl⟩ := rb.form
          have RB := Lib.hid rb
          clear by3 HQ rb
          go_wp2_with fail
          refine hK.out _ _ hGy3 (fun hHeldy3 => ?_)
          clear hK K
          try simp only [Act.put, List.setIfInBounds_toArray, List.set_cons_zero, List.set_cons_succ]
          refine wpAnyH_ready (rs := [17]) (by kernel_rfl) (by simp) ?_
          refine AllReadyH.cons (o := ?oiB17x) ?hiB17x (fun K hK => ?hsB17x) AllReadyH.nil
          case hiB17x => (simp only [List.getElem?_toArray, List.getElem?_cons_succ, List.getElem?_cons_zero] <;> rfl)
          go_simp
          have HQ := Lib.hid (sameL_prog su ty (.slice ab zs.length kb) zs su ty (.slice aa zs.length ka) zs y3 RB.out (RAZ.out.below (show Below wz.heap.size wz y3 from by assumption)) hzl hzl)
          rw [same_self] at HQ
          refine HQ.out.mono ?_
          rintro e y4 ⟨rfl, by4⟩
          have hGy4 : Lx wz y4 := Lx.step (by assumption) by4
          clear by4 HQ
          go_wp2_with fail
          refine hK.out _ _ hGy4 (fun hHeldy4 => ?_)
          clear hK K
          try simp only [Act.put, List.setIfInBounds_toArray, List.set_cons_zero, List.set_cons_succ]
          refine wpAnyH_take (i := 18) (oi := ?oiB18x) (v := ?vB18x) ?hiB18x (by kernel_rfl) (by kernel_rfl) (by kernel_rfl) ?hqB18x ?hyB18x (by assumption) ?restB18x
          case hiB18x => (simp only [List.getElem?_toArray, List.getElem?_cons_succ, List.getElem?_cons_zero] <;> rfl)
          case hqB18x => exact fun _ _ _ h => h
          case hyB18x => exact Or.inl ⟨by rfl, by (intro wS hSw; obtain ⟨c0, c1, c2⟩ := C0.out wS hSw; obtain ⟨d0, d1, d2⟩ := CA.out wS hSw; go_simp; try with_reducible rfl)⟩
          try simp only [Act.put, List.setIfInBounds_toArray, List.set_cons_zero, List.set_cons_succ]
          refine wpAnyH_take (i := 19) (oi := ?oiB19x) (v := ?vB19x) ?hiB19x (by kernel_rfl) (by kernel_rfl) (by kernel_rfl) ?hqB19x ?hyB19x (by assumption) ?restB19x
          case hiB19x => (simp only [List.getElem?_toArray, List.getElem?_cons_succ, List.getElem?_cons_zero] <;> rfl)
          case hqB19x => exact fun _ _ _ h => h
          case hyB19x => exact Or.inl ⟨by rfl, by (intro wS hSw; obtain ⟨c0, c1, c2⟩ := C0.out wS hSw; obtain ⟨d0, d1, d2⟩ := CA.out wS hSw; go_simp; try with_reducible rfl)⟩
          try simp only [Act.put, List.setIfInBounds_toArray, List.set_cons_zero, List.set_cons_succ]
          refine wpAnyH_take (i := 20) (oi := ?oiB20x) (v := ?vB20x) ?hiB20x (by kernel_rfl) (by kernel_rfl) (by kernel_rfl) ?hqB20x ?hyB20x (by assumption) ?restB20x
          case hiB20x => (simp only [List.getElem?_toArray, List.getElem?_cons_succ, List.getElem?_cons_zero] <;> rfl)
          case hqB20x => exact fun _ _ _ h => h
          case hyB20x => exact Or.inl ⟨by rfl, by (intro wS hSw; obtain ⟨c0, c1, c2⟩ := C0.out wS hSw; obtain ⟨d0, d1, d2⟩ := CA.out wS hSw; go_simp; try with_reducible rfl)⟩
          try simp only [Act.put, List.setIfInBounds_toArray, List.set_cons_zero, List.set_cons_succ]
          refine wpAnyH_take (i := 21) (oi := ?oiB21x) (v := ?vB21x) ?hiB21x (by kernel_rfl) (by kernel_rfl) (by kernel_rfl) ?hqB21x ?hyB21x (by assumption) ?restB21x
          case hiB21x => (simp only [List.getElem?_toArray, List.getElem?_cons_succ, List.getElem?_cons_zero] <;> rfl)
          case hqB21x => exact fun _ _ _ h => h
          case hyB21x => exact Or.inl ⟨by rfl, by (intro wS hSw; obtain ⟨c0, c1, c2⟩ := C0.out wS hSw; obtain ⟨d0, d1, d2⟩ := CA.out wS hSw; go_simp; try with_reducible rfl)⟩
          try simp only [Act.put, List.setIfInBounds_toArray, List.set_cons_zero, List.set_cons_succ]
          refine wpAnyH_take (i := 22) (oi := ?oiB22x) (v := ?vB22x) ?hiB22x (by kernel_rfl) (by kernel_rfl) (by kernel_rfl) ?hqB22x ?hyB22x (by assumption) ?restB22x
          case hiB22x => (simp only [List.getElem?_toArray, List.getElem?_cons_succ, List.getElem?_cons_zero] <;> rfl)
          case hqB22x => exact fun _ _ _ h => h
          case hyB22x => exact Or.inl ⟨by rfl, by (intro wS hSw; obtain ⟨c0, c1, c2⟩ := C0.out wS hSw; obtain ⟨d0, d1, d2⟩ := CA.out wS hSw; go_simp; try with_reducible rfl)⟩
          try simp only [Act.put, List.setIfInBounds_toArray, List.set_cons_zero, List.set_cons_succ]
          refine wpAnyH_take (i := 23) (oi := ?oiB23x) (v := undef) ?hiB23x (by kernel_rfl) (by kernel_rfl) (by kernel_rfl) ?hqB23x ?hyB23x (by assumption) ?restB23x
          case hiB23x => (simp only [List.getElem?_toArray, List.getElem?_cons_succ, List.getElem?_cons_zero] <;> rfl)
          case hqB23x => exact fun _ _ _ h => h
          case hyB23x => exact Or.inr ⟨by kernel_rfl, rfl⟩
          try simp only [Act.put, List.setIfInBounds_toArray, List.set_cons_zero, List.set_cons_succ]
          refine wpAnyH_take (i := 24) (oi := ?oiB24x) (v := undef) ?hiB24x (by kernel_rfl) (by kernel_rfl) (by kernel_rfl) ?hqB24x ?hyB24x (by assumption) ?restB24x
          case hiB24x => (simp only [List.getElem?_toArray, List.getElem?_cons_succ, List.getElem?_cons_zero] <;> rfl)
          case hqB24x => exact fun _ _ _ h => h
          case hyB24x => exact Or.inr ⟨by kernel_rfl, rfl⟩
          try simp only [Act.put, List.setIfInBounds_toArray, List.set_cons_zero, List.set_cons_succ]
          refine wpAnyH_take (i := 25) (oi := ?oiB25x) (v := undef) ?hiB25x (by kernel_rfl) (by kernel_rfl) (by kernel_rfl) ?hqB25x ?hyB25x (by assumption) ?restB25x
          case hiB25x => (simp only [List.getElem?_toArray, List.getElem?_cons_succ, List.getElem?_cons_zero] <;> rfl)
          case hqB25x => exact fun _ _ _ h => h
          case hyB25x => exact Or.inr ⟨by kernel_rfl, rfl⟩
          try simp only [Act.put, List.setIfInBounds_toArray, List.set_cons_zero, List.set_cons_succ]
          refine wpAnyH_take (i := 26) (oi := ?oiB26x) (v := ?vB26x) ?hiB26x (by kernel_rfl) (by kernel_rfl) (by kernel_rfl) ?hqB26x ?hyB26x (by assumption) ?restB26x
          case hiB26x => (simp only [List.getElem?_toArray, List.getElem?_cons_succ, List.getElem?_cons_zero] <;> rfl)
          case hqB26x => exact fun _ _ _ h => h
          case hyB26x => exact Or.inl ⟨by rfl, by (intro wS hSw; obtain ⟨c0, c1, c2⟩ := C0.out wS hSw; obtain ⟨d0, d1, d2⟩ := CA.out wS hSw; go_simp; try with_reducible rfl)⟩
          try simp only [Act.put, List.setIfInBounds_toArray, List.set_cons_zero, List.set_cons_succ]
          refine wpAnyH_take (i := 27) (oi := ?oiB27x) (v := ?vB27x) ?hiB27x (by kernel_rfl) (by kernel_rfl) (by kernel_rfl) ?hqB27x ?hyB27x (by assumption) ?restB27x
          case hiB27x => (simp only [List.getElem?_toArray, List.getElem?_cons_succ, List.getElem?_cons_zero] <;> rfl)
          case hqB27x => exact fun _ _ _ h => h
          case hyB27x => exact Or.inl ⟨by rfl, by (intro wS hSw; obtain ⟨c0, c1, c2⟩ := C0.out wS hSw; obtain ⟨d0, d1, d2⟩ := CA.out wS hSw; go_simp; try with_reducible rfl)⟩
          try simp only [Act.put, List.setIfInBounds_toArray, List.set_cons_zero, List.set_cons_succ]
          refine wpAnyH_take (i := 28) (oi := ?oiB28x) (v := ?vB28x) ?hiB28x (by kernel_rfl) (by kernel_rfl) (by kernel_rfl) ?hqB28x ?hyB28x (by assumption) ?restB28x
          case hiB28x => (simp only [List.getElem?_toArray, List.getElem?_cons_succ, List.getElem?_cons_zero] <;> rfl)
          case hqB28x => exact fun _ _ _ h => h
          case hyB28x => exact Or.inl ⟨by rfl, by (intro wS hSw; obtain ⟨c0, c1, c2⟩ := C0.out wS hSw; obtain ⟨d0, d1, d2⟩ := CA.out wS hSw; go_simp; try with_reducible rfl)⟩
          try simp only [Act.put, List.setIfInBounds_toArray, List.set_cons_zero, List.set_cons_succ]
          refine wpAnyH_take (i := 29) (oi := ?oiB29x) (v := ?vB29x) ?hiB29x (by kernel_rfl) (by kernel_rfl) (by kernel_rfl) ?hqB29x ?hyB29x (by assumption) ?restB29x
          case hiB29x => (simp only [List.getElem?_toArray, List.getElem?_cons_succ, List.getElem?_cons_zero] <;> rfl)
          case hqB29x => exact fun _ _ _ h => h
          case hyB29x => exact Or.inl ⟨by rfl, by (intro wS hSw; obtain ⟨c0, c1, c2⟩ := C0.out wS hSw; obtain ⟨d0, d1, d2⟩ := CA.out wS hSw; go_simp; try with_reducible rfl)⟩
          try simp only [Act.put, List.setIfInBounds_toArray, List.set_cons_zero, List.set_cons_succ]
          refine wpAnyH_take (i := 30) (oi := ?oiB30x) (v := ?vB30x) ?hiB30x (by kernel_rfl) (by kernel_rfl) (by kernel_rfl) ?hqB30x ?hyB30x (by assumption) ?restB30x
          case hiB30x => (simp only [List.getElem?_toArray, List.getElem?_cons_succ, List.getElem?_cons_zero] <;> rfl)
          case hqB30x => exact fun _ _ _ h => h
          case hyB30x => exact Or.inl ⟨by rfl, by (intro wS hSw; obtain ⟨c0, c1, c2⟩ := C0.out wS hSw; obtain ⟨d0, d1, d2⟩ := CA.out wS hSw; go_simp; try with_reducible rfl)⟩
          try simp only [Act.put, List.setIfInBounds_toArray, List.set_cons_zero, List.set_cons_succ]
          refine wpAnyH_take (i := 31) (oi := ?oiB31x) (v := ?vB31x) ?hiB31x (by kernel_rfl) (by kernel_rfl) (by kernel_rfl) ?hqB31x ?hyB31x (by assumption) ?restB31x
          case hiB31x => (simp only [List.getElem?_toArray, List.getElem?_cons_succ, List.getElem?_cons_zero] <;> rfl)
          case hqB31x => exact fun _ _ _ h => h
          case hyB31x => exact Or.inl ⟨by rfl, by (intro wS hSw; obtain ⟨c0, c1, c2⟩ := C0.out wS hSw; obtain ⟨d0, d1, d2⟩ := CA.out wS hSw; go_simp; try with_reducible rfl)⟩
          try simp only [Act.put, List.setIfInBounds_toArray, List.set_cons_zero, List.set_cons_succ]
          refine wpAnyH_take (i := 32) (oi := ?oiB32x) (v := ?vB32x) ?hiB32x (by kernel_rfl) (by kernel_rfl) (by kernel_rfl) ?hqB32x ?hyB32x (by assumption) ?restB32x
          case hiB32x => (simp only [List.getElem?_toArray, List.getElem?_cons_succ, List.getElem?_cons_zero] <;> rfl)
          case hqB32x => exact fun _ _ _ h => h
          case hyB32x => exact Or.inl ⟨by rfl, by (intro wS hSw; obtain ⟨c0, c1, c2⟩ := C0.out wS hSw; obtain ⟨d0, d1, d2⟩ := CA.out wS hSw; go_simp; try with_reducible rfl)⟩
          try simp only [Act.put, List.setIfInBounds_toArray, List.set_cons_zero, List.set_cons_succ]
          refine wpAnyH_take (i := 33) (oi := ?oiB33x) (v := ?vB33x) ?hiB33x (by kernel_rfl) (by kernel_rfl) (by kernel_rfl) ?hqB33x ?hyB33x (by assumption) ?restB33x
          case hiB33x => (simp only [List.getElem?_toArray, List.getElem?_cons_succ, List.getElem?_cons_zero] <;> rfl)
          case hqB33x => exact fun _ _ _ h => h
          case hyB33x => exact Or.inl ⟨by rfl, by (intro wS hSw; obtain ⟨c0, c1, c2⟩ := C0.out wS hSw; obtain ⟨d0, d1, d2⟩ := CA.out wS hSw; go_simp; try with_reducible rfl)⟩
          try simp only [Act.put, List.setIfInBounds_toArray, List.set_cons_zero, List.set_cons_succ]
          refine wpAnyH_take (i := 34) (oi := ?oiB34x) (v := ?vB34x) ?hiB34x (by kernel_rfl) (by kernel_rfl) (by kernel_rfl) ?hqB34x ?hyB34x (by assumption) ?restB34x
          case hiB34x => (simp only [List.getElem?_toArray, List.getElem?_cons_succ, List.getElem?_cons_zero] <;> rfl)
          case hqB34x => exact fun _ _ _ h => h
          case hyB34x => exact Or.inl ⟨by rfl, by (intro wS hSw; obtain ⟨c0, c1, c2⟩ := C0.out wS hSw; obtain ⟨d0, d1, d2⟩ := CA.out wS hSw; go_simp; try with_reducible rfl)⟩
          try simp only [Act.put, List.setIfInBounds_toArray, List.set_cons_zero, List.set_cons_succ]
          refine wpAnyH_take (i := 35) (oi := ?oiB35x) (v := ?vB35x) ?hiB35x (by kernel_rfl) (by kernel_rfl) (by kernel_rfl) ?hqB35x ?hyB35x (by assumption) ?restB35x
          case hiB35x => (simp only [List.getElem?_toArray, List.getElem?_cons_succ, List.getElem?_cons_zero] <;> rfl)
          case hqB35x => exact fun _ _ _ h => h
          case hyB35x => exact Or.inl ⟨by rfl, by (intro wS hSw; obtain ⟨c0, c1, c2⟩ := C0.out wS hSw; obtain ⟨d0, d1, d2⟩ := CA.out wS hSw; go_simp; try with_reducible rfl)⟩
          try simp only [Act.put, List.setIfInBounds_toArray, List.set_cons_zero, List.set_cons_succ]
          refine wpAnyH_take (i := 36) (oi := ?oiB36x) (v := ?vB36x) ?hiB36x (by kernel_rfl) (by kernel_rfl) (by kernel_rfl) ?hqB36x ?hyB36x (by assumption) ?restB36x
          case hiB36x => (simp only [List.getElem?_toArray, List.getElem?_cons_succ, List.getElem?_cons_zero] <;> rfl)
          case hqB36x => exact fun _ _ _ h => h
          case hyB36x => exact Or.inl ⟨by rfl, by (intro wS hSw; obtain ⟨c0, c1, c2⟩ := C0.out wS hSw; obtain ⟨d0, d1, d2⟩ := CA.out wS hSw; go_simp; try with_reducible rfl)⟩
          try simp only [Act.put, List.setIfInBounds_toArray, List.set_cons_zero, List.set_cons_succ]
          refine wpAnyH_take (i := 37) (oi := ?oiB37x) (v := ?vB37x) ?hiB37x (by kernel_rfl) (by kernel_rfl) (by kernel_rfl) ?hqB37x ?hyB37x (by assumption) ?restB37x
          case hiB37x => (simp only [List.getElem?_toArray, List.getElem?_cons_succ, List.getElem?_cons_zero] <;> rfl)
          case hqB37x => exact fun _ _ _ h => h
          case hyB37x => exact Or.inl ⟨by rfl, by (intro wS hSw; obtain ⟨c0, c1, c2⟩ := C0.out wS hSw; obtain ⟨d0, d1, d2⟩ := CA.out wS hSw; go_simp; try with_reducible rfl)⟩
          try simp only [Act.put, List.setIfInBounds_toArray, List.set_cons_zero, List.set_cons_succ]
          refine wpAnyH_take (i := 38) (oi := ?oiB38x) (v := ?vB38x) ?hiB38x (by kernel_rfl) (by kernel_rfl) (by kernel_rfl) ?hqB38x ?hyB38x (by assumption) ?restB38x
          case hiB38x => (simp only [List.getElem?_toArray, List.getElem?_cons_succ, List.getElem?_cons_zero] <;> rfl)
          case hqB38x => exact fun _ _ _ h => h
          case hyB38x => exact Or.inl ⟨by rfl, by (intro wS hSw; obtain ⟨c0, c1, c2⟩ := C0.out wS hSw; obtain ⟨d0, d1, d2⟩ := CA.out wS hSw; go_simp; try with_reducible rfl)⟩
          try simp only [Act.put, List.setIfInBounds_toArray, List.set_cons_zero, List.set_cons_succ]
          refine wpAnyH_take (i := 39) (oi := ?oiB39x) (v := ?vB39x) ?hiB39x (by kernel_rfl) (by kernel_rfl) (by kernel_rfl) ?hqB39x ?hyB39x (by assumption) ?restB39x
          case hiB39x => (simp only [List.getElem?_toArray, List.getElem?_cons_succ, List.getElem?_cons_zero] <;> rfl)
          case hqB39x => exact fun _ _ _ h => h
          case hyB39x => exact Or.inl ⟨by rfl, by (intro wS hSw; obtain ⟨c0, c1, c2⟩ := C0.out wS hSw; obtain ⟨d0, d1, d2⟩ := CA.out wS hSw; go_simp; try with_reducible rfl)⟩
          try simp only [Act.put, List.setIfInBounds_toArray, List.set_cons_zero, List.set_cons_succ]
          refine wpAnyH_take (i := 40) (oi := ?oiB40x) (v := ?vB40x) ?hiB40x (by kernel_rfl) (by kernel_rfl) (by kernel_rfl) ?hqB40x ?hyB40x (by assumption) ?restB40x
          case hiB40x => (simp only [List.getElem?_toArray, List.getElem?_cons_succ, List.getElem?_cons_zero] <;> rfl)
          case hqB40x => exact fun _ _ _ h => h
          case hyB40x => exact Or.inl ⟨by rfl, by (intro wS hSw; obtain ⟨c0, c1, c2⟩ := C0.out wS hSw; obtain ⟨d0, d1, d2⟩ := CA.out wS hSw; go_simp; try with_reducible rfl)⟩
          try simp only [Act.put, List.setIfInBounds_toArray, List.set_cons_zero, List.set_cons_succ]
          refine wpAnyH_take (i := 41) (oi := ?oiB41x) (v := ?vB41x) ?hiB41x (by kernel_rfl) (by kernel_rfl) (by kernel_rfl) ?hqB41x ?hyB41x (by assumption) ?restB41x
          case hiB41x => (simp only [List.getElem?_toArray, List.getElem?_cons_succ, List.getElem?_cons_zero] <;> rfl)
          case hqB41x => exact fun _ _ _ h => h
          case hyB41x => exact Or.inl ⟨by rfl, by (intro wS hSw; obtain ⟨c0, c1, c2⟩ := C0.out wS hSw; obtain ⟨d0, d1, d2⟩ := CA.out wS hSw; go_simp; try with_reducible rfl)⟩
          try simp only [Act.put, List.setIfInBounds_toArray, List.set_cons_zero, List.set_cons_succ]
          refine wpAnyH_take (i := 42) (oi := ?oiB42x) (v := ?vB42x) ?hiB42x (by kernel_rfl) (by kernel_rfl) (by kernel_rfl) ?hqB42x ?hyB42x (by assumption) ?restB42x
          case hiB42x => (simp only [List.getElem?_toArray, List.getElem?_cons_succ, List.getElem?_cons_zero] <;> rfl)
          case hqB42x => exact fun _ _ _ h => h
          case hyB42x => exact Or.inl ⟨by rfl, by (intro wS hSw; obtain ⟨c0, c1, c2⟩ := C0.out wS hSw; obtain ⟨d0, d1, d2⟩ := CA.out wS hSw; go_simp; try with_reducible rfl)⟩
          try simp only [Act.put, List.setIfInBounds_toArray, List.set_cons_zero, List.set_cons_succ]
          refine wpAnyH_done (by kernel_rfl) ?_ _
          refine NoPanic.normal ?_
          go_wp2_with fail
          go_ret
          exact ⟨rfl, BX.out.trans ((BZ.out.trans (hGy4.mono BZ.out.size)).mono BX.out.size)⟩
  · rw [decide_eq_false h1] at F1
    go_enter Tryd.func8, Tryd.ntmps8
    go_wp2_with fail
    rw [← HA.out]
    refine F1.out.mono ?_
    rintro e w1 ⟨rfl, b1⟩
    have B1 := Lib.hid b1
    clear b1
    go_wp2_with fail
    refine (alive10 w1 (HM.out.below B1.out)).mono ?_
    rintro e w2 ⟨rfl, b2⟩
    go_wp2_with fail
    go_ret
    exact ⟨rfl, BX.out.trans ((B1.out.trans (b2.mono B1.out.size)).mono BX.out.size)⟩
end Go.Proofs.YtgnffmlcjnnneaaDoor
