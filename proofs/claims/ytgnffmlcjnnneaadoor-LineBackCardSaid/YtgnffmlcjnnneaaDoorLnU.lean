/- Chapter 10: law LineBack. -/
import Derived.Test.YtgnffmlcjnnneaaDoorLnT
namespace Go.Proofs.YtgnffmlcjnnneaaDoor
open Go Go.RowKit Go.Sort Cg
theorem text_none (su ty : Int) (xs : List ByteArray) (h : isL su ty xs = false) : lineText su ty xs = ⟨#[]⟩ := by rw [lineText, h, if_neg (by decide)]
theorem same_nat {su ty : Int} {xs : List ByteArray} (h : isL su ty xs = true) : sameL ((su.toNat : Nat) : Int) ((ty.toNat : Nat) : Int) xs su ty xs = true := by
  obtain ⟨⟨a, _, b, _⟩, _⟩ := isL_parts h
  rw [show ((su.toNat : Nat) : Int) = su by omega, show ((ty.toNat : Nat) : Int) = ty by omega]
  exact same_self su ty xs
set_option maxRecDepth 100000 in
set_option maxHeartbeats 4000000 in
theorem law_lineBack (su ty : Int) (v : Value) (xs : List ByteArray) (s : ByteArray) (w : World) (h : RowAt Value.string w v xs) (hn : xs.length ≤ 4611686018427387904) (hm : Mx w) :
    Calls Tryd.prog 5 #[lineV su ty v, .string s] w fun e w' => e = .returned (.bool true) ∧ Below w.heap.size w w' := by
  obtain ⟨ao, cap, rfl⟩ := h.form
  obtain ⟨wx, hwx, bx, hz, hc⟩ := one_line w (.int .i64 su) (.int .i64 ty) (.slice ao xs.length cap)
  have HA := Lib.hid hwx
  have RX := Lib.hid (h.below bx)
  have HM := Lib.hid (hm.below bx)
  have BX := Lib.hid bx
  have HC := Lib.hid hc
  have Bwx := Lib.hid (Below.refl wx.heap.size wx)
  have F1 := Lib.hid (few_prog su ty (.slice ao xs.length cap) xs wx RX.out)
  clear h hm hwx bx hz hc
  by_cases h1 : xs.length ≤ 12
  · rw [decide_eq_true h1] at F1
    by_cases h2 : s.size ≤ 300
    · have d2 : decide (300 < s.size) = false := decide_eq_false (by omega)
      have d3 : decide (300 < (s.size : Int)) = false := decide_eq_false (by omega)
      have HTS := Lib.hid (text_some su ty xs)
      have HTZ := Lib.hid (text_size (su := su) (ty := ty) (xs := xs))
      have HPT := Lib.hid (@parse_text su ty xs)
      have HSN := Lib.hid (@same_nat su ty xs)
      have HT0 := Lib.hid (text_none su ty xs)
      have HSB := Lib.hid (space_behind (lineText su ty xs))
      have HSA := Lib.hid (space_ahead (lineText su ty xs))
      have HTP := Lib.hid (text_prog su ty (.slice ao xs.length cap) xs)
      obtain ⟨t, ht⟩ : ∃ t, t = lineText su ty xs := ⟨_, rfl⟩
      rw [← ht] at HTS HTZ HPT HT0 HSB HSA HTP
      clear ht
      have htz := HTZ.out
      have hcat1 : ¬ 9223372036854775807 < t.size + 1 := by omega
      have hcat2 : ¬ 9223372036854775807 < 1 + t.size := by omega
      have hsb : (t ++ ⟨#[32]⟩ : ByteArray).size ≤ 1000000 := by rw [ByteArray.size_append]; show t.size + 1 ≤ 1000000; omega
      have hsa : (⟨#[32]⟩ ++ t : ByteArray).size ≤ 1000000 := by rw [ByteArray.size_append]; show 1 + t.size ≤ 1000000; omega
      have HSBZ := Lib.hid hsb
      have HSAZ := Lib.hid hsa
      clear hsb hsa
      have HOK := Lib.hid (@parse_ok s)
      have HCD := Lib.hid (parse_code s)
      have HSUB := Lib.hid (parse_subs s)
      obtain ⟨⟨a, b, zs, c⟩, hr⟩ : ∃ r, r = parseL s := ⟨_, rfl⟩
      rw [← hr] at HOK HCD HSUB
      have HPL := Lib.hid hr.symm
      clear hr
      have hzl : zs.length ≤ 4611686018427387904 := Nat.le_trans HSUB.out (by show 4 ≤ _; omega)
      cases hv : isL su ty xs
      · have ht0 : t = ⟨#[]⟩ := HT0.out hv
        have HP := Lib.hid (show parseL t = (0, 0, [], 3) by rw [ht0]; exact parse_empty)
        have hte : t.toList.isEmpty = true := empty_iff.2 (by rw [ht0]; rfl)
        have HIV := Lib.hid hv
        clear hv ht0
        go_enter Tryd.func5, Tryd.ntmps5
        go_wp2_with fail
        rw [← HA.out]
        refine F1.out.mono ?_
        rintro e w1 ⟨rfl, bw1⟩
        have Bw1 := Lib.hid bw1
        clear bw1
        obtain ⟨c0, c1, c2⟩ := HC.out w1 Bw1.out
        go_wp2_with fail
        refine (HTP.out w1 (RX.out.below Bw1.out) hn (HM.out.below Bw1.out)).mono ?_
        rintro e w2 ⟨rfl, bw2⟩
        have Bw2 := Lib.hid (Bw1.out.trans (bw2.mono Bw1.out.size))
        clear bw2 c0 c1 c2
        go_wp2_with fail
        have HQ := Lib.hid (parse_prog t (by omega) w2 (HM.out.below Bw2.out))
        rw [HP.out] at HQ
        refine HQ.out.mono ?_
        rintro e w3 ⟨v3, rfl, rw3, bw3⟩
        obtain ⟨a3, k3, rfl⟩ := rw3.form
        have Bw3 := Lib.hid (Bw2.out.trans (bw3.mono Bw2.out.size))
        obtain ⟨wy, hwy, bwy, zwy, clwy⟩ := one_line w3 (.int .i64 0) (.int .i64 0) (.slice a3 0 k3)
        have Awy := Lib.hid hwy
        have CLwy := Lib.hid clwy
        have Rwy := Lib.hid (rw3.below bwy)
        have Bwy := Lib.hid (Bw3.out.trans (bwy.mono Bw3.out.size))
        clear hwy bwy zwy clwy rw3 bw3 HQ
        obtain ⟨c0, c1, c2⟩ := HC.out wy Bwy.out
        rw [Awy.out] at c0 c1 c2
        go_wp2_with fail
        try rw [← Awy.out]
        clear c0 c1 c2
        have By0 := Lib.hid (Below.refl wy.heap.size wy)
        have HQ := Lib.hid (isL_prog su ty (.slice ao xs.length cap) xs wy (RX.out.below Bwy.out) hn (HM.out.below Bwy.out))
        rw [HIV.out] at HQ
        refine HQ.out.mono ?_
        rintro e w4 ⟨rfl, bw4⟩
        have Bw4 := Lib.hid (Bwy.out.trans (bw4.mono Bwy.out.size))
        have Sw4 := Lib.hid bw4
        clear bw4 HQ
        obtain ⟨c0, c1, c2⟩ := HC.out w4 Bw4.out
        go_wp2_with fail
        clear c0 c1 c2
        have HQ := Lib.hid (isL_prog su ty (.slice ao xs.length cap) xs w4 (RX.out.below Bw4.out) hn (HM.out.below Bw4.out))
        rw [HIV.out] at HQ
        refine HQ.out.mono ?_
        rintro e w5 ⟨rfl, bw5⟩
        have Bw5 := Lib.hid (Bw4.out.trans (bw5.mono Bw4.out.size))
        have Sw5 := Lib.hid bw5
        clear bw5 HQ
        obtain ⟨c0, c1, c2⟩ := HC.out w5 Bw5.out
        go_wp2_with fail
        clear c0 c1 c2
        have HQ := Lib.hid (isL_prog su ty (.slice ao xs.length cap) xs w5 (RX.out.below Bw5.out) hn (HM.out.below Bw5.out))
        rw [HIV.out] at HQ
        refine HQ.out.mono ?_
        rintro e w6 ⟨rfl, bw6⟩
        have Bw6 := Lib.hid (Bw5.out.trans (bw6.mono Bw5.out.size))
        have Sw6 := Lib.hid bw6
        clear bw6 HQ
        go_wp2_with fail
        have HQ := Lib.hid (parse_prog (t ++ ⟨#[32]⟩) (HSBZ.out) w6 (HM.out.below Bw6.out))
        rw [HSB.out] at HQ
        refine HQ.out.mono ?_
        rintro e w11 ⟨v11, rfl, rw11, bw11⟩
        obtain ⟨a11, k11, rfl⟩ := rw11.form
        have Bw11 := Lib.hid (Bw6.out.trans (bw11.mono Bw6.out.size))
        obtain ⟨wb, hwb, bwb, zwb, clwb⟩ := one_line w11 (.int .i64 0) (.int .i64 0) (.slice a11 0 k11)
        have Awb := Lib.hid hwb
        have CLwb := Lib.hid clwb
        have Rwb := Lib.hid (rw11.below bwb)
        have Bwb := Lib.hid (Bw11.out.trans (bwb.mono Bw11.out.size))
        clear hwb bwb zwb clwb rw11 bw11 HQ
        go_wp2_with fail
        try rw [← Awb.out]
        have HQ := Lib.hid (parse_prog (⟨#[32]⟩ ++ t) (HSAZ.out) wb (HM.out.below Bwb.out))
        rw [HSA.out] at HQ
        refine HQ.out.mono ?_
        rintro e w12 ⟨v12, rfl, rw12, bw12⟩
        obtain ⟨a12, k12, rfl⟩ := rw12.form
        have Bw12 := Lib.hid (Bwb.out.trans (bw12.mono Bwb.out.size))
        obtain ⟨wc, hwc, bwc, zwc, clwc⟩ := one_line w12 (.int .i64 0) (.int .i64 0) (.slice a12 0 k12)
        have Awc := Lib.hid hwc
        have CLwc := Lib.hid clwc
        have Rwc := Lib.hid (rw12.below bwc)
        have Bwc := Lib.hid (Bw12.out.trans (bwc.mono Bw12.out.size))
        clear hwc bwc zwc clwc rw12 bw12 HQ
        go_wp2_with fail
        try rw [← Awc.out]
        have HQ := Lib.hid (parse_prog s (by omega) wc (HM.out.below Bwc.out))
        rw [HPL.out] at HQ
        refine HQ.out.mono ?_
        rintro e w13 ⟨v13, rfl, rw13, bw13⟩
        obtain ⟨a13, k13, rfl⟩ := rw13.form
        have Bw13 := Lib.hid (Bwc.out.trans (bw13.mono Bwc.out.size))
        obtain ⟨wd, hwd, bwd, zwd, clwd⟩ := one_line w13 (.int .i64 a) (.int .i64 b) (.slice a13 zs.length k13)
        have Awd := Lib.hid hwd
        have CLwd := Lib.hid clwd
        have Rwd := Lib.hid (rw13.below bwd)
        have Bwd := Lib.hid (Bw13.out.trans (bwd.mono Bw13.out.size))
        clear hwd bwd zwd clwd rw13 bw13 HQ
        go_wp2_with fail
        try rw [← Awd.out]
        rcases HCD.out with hc | hc
        · have hc : c = 0 := hc
          subst hc
          have Bd0 := Lib.hid (Below.refl wd.heap.size wd)
          refine (alive10 wd (HM.out.below Bwd.out)).mono ?_
          rintro e w14 ⟨rfl, b14⟩
          have Bd14 := Lib.hid b14
          have Bw14 := Lib.hid (Bwd.out.trans (b14.mono Bwd.out.size))
          clear b14
          obtain ⟨hok1, hok2⟩ := HOK.out rfl
          have hok1 : isL (a : Int) (b : Int) zs = true := hok1
          have hok2 : lineText (a : Int) (b : Int) zs = s := hok2
          have hss : (s.toList == s.toList) = true := same_true rfl
          have HI := Lib.hid (isL_prog a b (.slice a13 zs.length k13) zs w14 (Rwd.out.below Bd14.out) hzl (HM.out.below Bw14.out))
          rw [hok1] at HI
          have HX := Lib.hid (text_prog a b (.slice a13 zs.length k13) zs)
          rw [hok2] at HX
          clear hok1 hok2
          obtain ⟨e0, e1, e2⟩ := CLwd.out w14 Bd14.out
          go_wp2_with fail
          refine HI.out.mono ?_
          rintro e w15 ⟨rfl, b15⟩
          have Bd15 := Lib.hid (Bd14.out.trans (b15.mono Bd14.out.size))
          have Bw15 := Lib.hid (Bw14.out.trans (b15.mono Bw14.out.size))
          clear b15 e0 e1 e2
          obtain ⟨e0, e1, e2⟩ := CLwd.out w15 Bd15.out
          go_wp2_with fail
          refine (HX.out w15 (Rwd.out.below Bd15.out) hzl (HM.out.below Bw15.out)).mono ?_
          rintro e w16 ⟨rfl, b16⟩
          have Bw16 := Lib.hid (Bw15.out.trans (b16.mono Bw15.out.size))
          clear b16 e0 e1 e2
          go_wp2_with fail
          go_ret
          exact ⟨rfl, BX.out.trans (Bw16.out.mono BX.out.size)⟩
        · have hc : c = 3 := hc
          subst hc
          have Bd0 := Lib.hid (Below.refl wd.heap.size wd)
          refine (alive10 wd (HM.out.below Bwd.out)).mono ?_
          rintro e w14 ⟨rfl, b14⟩
          have Bd14 := Lib.hid b14
          have Bw14 := Lib.hid (Bwd.out.trans (b14.mono Bwd.out.size))
          clear b14
          go_wp2_with fail
          go_ret
          exact ⟨rfl, BX.out.trans (Bw14.out.mono BX.out.size)⟩
      · have HP := Lib.hid (HPT.out hv)
        have hte : t.toList.isEmpty = false := by rw [HTS.out, hv]; rfl
        have HSM := Lib.hid (HSN.out hv)
        have HIV := Lib.hid hv
        clear hv
        obtain ⟨na, hna⟩ : ∃ na, na = su.toNat := ⟨_, rfl⟩
        obtain ⟨nb, hnb⟩ : ∃ nb, nb = ty.toNat := ⟨_, rfl⟩
        rw [← hna, ← hnb] at HP HSM
        clear hna hnb
        go_enter Tryd.func5, Tryd.ntmps5
        go_wp2_with fail
        rw [← HA.out]
        refine F1.out.mono ?_
        rintro e w1 ⟨rfl, bw1⟩
        have Bw1 := Lib.hid bw1
        clear bw1
        obtain ⟨c0, c1, c2⟩ := HC.out w1 Bw1.out
        go_wp2_with fail
        refine (HTP.out w1 (RX.out.below Bw1.out) hn (HM.out.below Bw1.out)).mono ?_
        rintro e w2 ⟨rfl, bw2⟩
        have Bw2 := Lib.hid (Bw1.out.trans (bw2.mono Bw1.out.size))
        clear bw2 c0 c1 c2
        go_wp2_with fail
        have HQ := Lib.hid (parse_prog t (by omega) w2 (HM.out.below Bw2.out))
        rw [HP.out] at HQ
        refine HQ.out.mono ?_
        rintro e w3 ⟨v3, rfl, rw3, bw3⟩
        obtain ⟨a3, k3, rfl⟩ := rw3.form
        have Bw3 := Lib.hid (Bw2.out.trans (bw3.mono Bw2.out.size))
        obtain ⟨wy, hwy, bwy, zwy, clwy⟩ := one_line w3 (.int .i64 (na : Int)) (.int .i64 (nb : Int)) (.slice a3 xs.length k3)
        have Awy := Lib.hid hwy
        have CLwy := Lib.hid clwy
        have Rwy := Lib.hid (rw3.below bwy)
        have Bwy := Lib.hid (Bw3.out.trans (bwy.mono Bw3.out.size))
        clear hwy bwy zwy clwy rw3 bw3 HQ
        obtain ⟨c0, c1, c2⟩ := HC.out wy Bwy.out
        rw [Awy.out] at c0 c1 c2
        go_wp2_with fail
        try rw [← Awy.out]
        clear c0 c1 c2
        have By0 := Lib.hid (Below.refl wy.heap.size wy)
        have HQ := Lib.hid (isL_prog su ty (.slice ao xs.length cap) xs wy (RX.out.below Bwy.out) hn (HM.out.below Bwy.out))
        rw [HIV.out] at HQ
        refine HQ.out.mono ?_
        rintro e w4 ⟨rfl, bw4⟩
        have Bw4 := Lib.hid (Bwy.out.trans (bw4.mono Bwy.out.size))
        have Sw4 := Lib.hid bw4
        clear bw4 HQ
        obtain ⟨c0, c1, c2⟩ := HC.out w4 Bw4.out
        go_wp2_with fail
        clear c0 c1 c2
        have HQ := Lib.hid (isL_prog su ty (.slice ao xs.length cap) xs w4 (RX.out.below Bw4.out) hn (HM.out.below Bw4.out))
        rw [HIV.out] at HQ
        refine HQ.out.mono ?_
        rintro e w5 ⟨rfl, bw5⟩
        have Bw5 := Lib.hid (Bw4.out.trans (bw5.mono Bw4.out.size))
        have Sw5 := Lib.hid bw5
        clear bw5 HQ
        obtain ⟨c0, c1, c2⟩ := HC.out w5 Bw5.out
        go_wp2_with fail
        clear c0 c1 c2
        have HQ := Lib.hid (isL_prog su ty (.slice ao xs.length cap) xs w5 (RX.out.below Bw5.out) hn (HM.out.below Bw5.out))
        rw [HIV.out] at HQ
        refine HQ.out.mono ?_
        rintro e w6 ⟨rfl, bw6⟩
        have Bw6 := Lib.hid (Bw5.out.trans (bw6.mono Bw5.out.size))
        have Sw6 := Lib.hid bw6
        clear bw6 HQ
        have By6 := Lib.hid (show Below wy.heap.size wy w6 from Sw4.out.trans ((Sw5.out.trans (Sw6.out.mono Sw5.out.size)).mono Sw4.out.size))
        obtain ⟨c0, c1, c2⟩ := HC.out w6 Bw6.out
        obtain ⟨d0, d1, d2⟩ := CLwy.out w6 By6.out
        go_wp2_with fail
        have HQ := Lib.hid (sameL_prog na nb (.slice a3 xs.length k3) xs su ty (.slice ao xs.length cap) xs w6 (Rwy.out.below By6.out) (RX.out.below Bw6.out) hn hn)
        rw [HSM.out] at HQ
        refine HQ.out.mono ?_
        rintro e w7 ⟨rfl, bw7⟩
        have Bw7 := Lib.hid (Bw6.out.trans (bw7.mono Bw6.out.size))
        clear bw7 HQ c0 c1 c2 d0 d1 d2
        go_wp2_with fail
        have HQ := Lib.hid (parse_prog (t ++ ⟨#[32]⟩) (HSBZ.out) w7 (HM.out.below Bw7.out))
        rw [HSB.out] at HQ
        refine HQ.out.mono ?_
        rintro e w11 ⟨v11, rfl, rw11, bw11⟩
        obtain ⟨a11, k11, rfl⟩ := rw11.form
        have Bw11 := Lib.hid (Bw7.out.trans (bw11.mono Bw7.out.size))
        obtain ⟨wb, hwb, bwb, zwb, clwb⟩ := one_line w11 (.int .i64 0) (.int .i64 0) (.slice a11 0 k11)
        have Awb := Lib.hid hwb
        have CLwb := Lib.hid clwb
        have Rwb := Lib.hid (rw11.below bwb)
        have Bwb := Lib.hid (Bw11.out.trans (bwb.mono Bw11.out.size))
        clear hwb bwb zwb clwb rw11 bw11 HQ
        go_wp2_with fail
        try rw [← Awb.out]
        have HQ := Lib.hid (parse_prog (⟨#[32]⟩ ++ t) (HSAZ.out) wb (HM.out.below Bwb.out))
        rw [HSA.out] at HQ
        refine HQ.out.mono ?_
        rintro e w12 ⟨v12, rfl, rw12, bw12⟩
        obtain ⟨a12, k12, rfl⟩ := rw12.form
        have Bw12 := Lib.hid (Bwb.out.trans (bw12.mono Bwb.out.size))
        obtain ⟨wc, hwc, bwc, zwc, clwc⟩ := one_line w12 (.int .i64 0) (.int .i64 0) (.slice a12 0 k12)
        have Awc := Lib.hid hwc
        have CLwc := Lib.hid clwc
        have Rwc := Lib.hid (rw12.below bwc)
        have Bwc := Lib.hid (Bw12.out.trans (bwc.mono Bw12.out.size))
        clear hwc bwc zwc clwc rw12 bw12 HQ
        go_wp2_with fail
        try rw [← Awc.out]
        have HQ := Lib.hid (parse_prog s (by omega) wc (HM.out.below Bwc.out))
        rw [HPL.out] at HQ
        refine HQ.out.mono ?_
        rintro e w13 ⟨v13, rfl, rw13, bw13⟩
        obtain ⟨a13, k13, rfl⟩ := rw13.form
        have Bw13 := Lib.hid (Bwc.out.trans (bw13.mono Bwc.out.size))
        obtain ⟨wd, hwd, bwd, zwd, clwd⟩ := one_line w13 (.int .i64 a) (.int .i64 b) (.slice a13 zs.length k13)
        have Awd := Lib.hid hwd
        have CLwd := Lib.hid clwd
        have Rwd := Lib.hid (rw13.below bwd)
        have Bwd := Lib.hid (Bw13.out.trans (bwd.mono Bw13.out.size))
        clear hwd bwd zwd clwd rw13 bw13 HQ
        go_wp2_with fail
        try rw [← Awd.out]
        rcases HCD.out with hc | hc
        · have hc : c = 0 := hc
          subst hc
          have Bd0 := Lib.hid (Below.refl wd.heap.size wd)
          refine (alive10 wd (HM.out.below Bwd.out)).mono ?_
          rintro e w14 ⟨rfl, b14⟩
          have Bd14 := Lib.hid b14
          have Bw14 := Lib.hid (Bwd.out.trans (b14.mono Bwd.out.size))
          clear b14
          obtain ⟨hok1, hok2⟩ := HOK.out rfl
          have hok1 : isL (a : Int) (b : Int) zs = true := hok1
          have hok2 : lineText (a : Int) (b : Int) zs = s := hok2
          have hss : (s.toList == s.toList) = true := same_true rfl
          have HI := Lib.hid (isL_prog a b (.slice a13 zs.length k13) zs w14 (Rwd.out.below Bd14.out) hzl (HM.out.below Bw14.out))
          rw [hok1] at HI
          have HX := Lib.hid (text_prog a b (.slice a13 zs.length k13) zs)
          rw [hok2] at HX
          clear hok1 hok2
          obtain ⟨e0, e1, e2⟩ := CLwd.out w14 Bd14.out
          go_wp2_with fail
          refine HI.out.mono ?_
          rintro e w15 ⟨rfl, b15⟩
          have Bd15 := Lib.hid (Bd14.out.trans (b15.mono Bd14.out.size))
          have Bw15 := Lib.hid (Bw14.out.trans (b15.mono Bw14.out.size))
          clear b15 e0 e1 e2
          obtain ⟨e0, e1, e2⟩ := CLwd.out w15 Bd15.out
          go_wp2_with fail
          refine (HX.out w15 (Rwd.out.below Bd15.out) hzl (HM.out.below Bw15.out)).mono ?_
          rintro e w16 ⟨rfl, b16⟩
          have Bw16 := Lib.hid (Bw15.out.trans (b16.mono Bw15.out.size))
          clear b16 e0 e1 e2
          go_wp2_with fail
          go_ret
          exact ⟨rfl, BX.out.trans (Bw16.out.mono BX.out.size)⟩
        · have hc : c = 3 := hc
          subst hc
          have Bd0 := Lib.hid (Below.refl wd.heap.size wd)
          refine (alive10 wd (HM.out.below Bwd.out)).mono ?_
          rintro e w14 ⟨rfl, b14⟩
          have Bd14 := Lib.hid b14
          have Bw14 := Lib.hid (Bwd.out.trans (b14.mono Bwd.out.size))
          clear b14
          go_wp2_with fail
          go_ret
          exact ⟨rfl, BX.out.trans (Bw14.out.mono BX.out.size)⟩
    · have d2 : decide (300 < s.size) = true := decide_eq_true (by omega)
      have d3 : decide (300 < (s.size : Int)) = true := decide_eq_true (by omega)
      go_enter Tryd.func5, Tryd.ntmps5
      go_wp2_with fail
      rw [← HA.out]
      refine F1.out.mono ?_
      rintro e w1 ⟨rfl, bw1⟩
      have Bw1 := Lib.hid bw1
      clear bw1
      go_wp2_with fail
      refine (alive10 w1 (HM.out.below Bw1.out)).mono ?_
      rintro e w2 ⟨rfl, b2⟩
      go_wp2_with fail
      go_ret
      exact ⟨rfl, BX.out.trans ((Bw1.out.trans (b2.mono Bw1.out.size)).mono BX.out.size)⟩
  · rw [decide_eq_false h1] at F1
    go_enter Tryd.func5, Tryd.ntmps5
    go_wp2_with fail
    rw [← HA.out]
    refine F1.out.mono ?_
    rintro e w1 ⟨rfl, bw1⟩
    have Bw1 := Lib.hid bw1
    clear bw1
    go_wp2_with fail
    refine (alive10 w1 (HM.out.below Bw1.out)).mono ?_
    rintro e w2 ⟨rfl, b2⟩
    go_wp2_with fail
    go_ret
    exact ⟨rfl, BX.out.trans ((Bw1.out.trans (b2.mono Bw1.out.size)).mono BX.out.size)⟩
end Go.Proofs.YtgnffmlcjnnneaaDoor
