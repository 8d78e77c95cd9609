/- Chapter 10: few and alive. -/
import Derived.Test.YtgnffmlcjnnneaaDoorLnN
namespace Go.Proofs.YtgnffmlcjnnneaaDoor
open Go Go.RowKit Go.Sort Cg
theorem few_prog (su ty : Int) (v : Value) (xs : List ByteArray) (w : World) (h : RowAt Value.string w v xs) : Calls Tryd.prog 9 #[lineV su ty v] w fun e w' => e = .returned (.bool (decide (xs.length ≤ 12))) ∧ Below w.heap.size w w' := by
  obtain ⟨ao, cap, rfl⟩ := h.form
  have ba := (Below.refl w.heap.size w).alloc (Nat.le_refl _) (.cells #[.int .i64 su, .int .i64 ty, .slice ao xs.length cap] 24)
  have BA := Lib.hid ba
  have hd : decide ((xs.length : Int) ≤ 12) = decide (xs.length ≤ 12) := by by_cases hh : xs.length ≤ 12 <;> simp [hh] <;> omega
  have HD := Lib.hid hd
  clear ba h
  go_enter Tryd.func9, Tryd.ntmps9
  go_wp2_with fail
  go_ret
  exact ⟨by simp, BA.out⟩
set_option maxRecDepth 100000 in
set_option maxHeartbeats 1000000 in
theorem alive10 (w : World) (hm : Mx w) : Calls Tryd.prog 10 #[] w fun e w' => e = .returned (.bool true) ∧ Below w.heap.size w w' := by
  have HM := Lib.hid hm
  clear hm
  go_enter Tryd.func10, Tryd.ntmps10
  go_wp2_with fail
  refine (parse_prog ⟨#[117, 110, 105, 113, 117, 101, 32, 99, 114, 101, 97, 116, 117, 114, 101, 32, 102, 111, 120, 32, 104, 101, 114, 111]⟩ (by decide) _ HM.out).mono ?_
  rintro e w1 ⟨v1, rfl, r1, b1⟩
  rw [parse_a] at r1 ⊢
  obtain ⟨a1, k1, rfl⟩ := r1.form
  have bx := (Below.refl w1.heap.size w1).alloc (Nat.le_refl _) (.cells #[.int .i64 2, .int .i64 1, .slice a1 2 k1] 24)
  have LT := Lib.hid (show w1.heap.size < (w1.alloc (.cells #[.int .i64 2, .int .i64 1, .slice a1 2 k1] 24)).heap.size by show w1.heap.size < (w1.heap.push _).size; simp)
  obtain ⟨wx, hwx⟩ : ∃ wx, wx = w1.alloc (.cells #[.int .i64 2, .int .i64 1, .slice a1 2 k1] 24) := ⟨_, rfl⟩
  have HA := Lib.hid hwx
  have C0 := Lib.hid (show wx.cell? ⟨w1.heap.size, 0, none⟩ = some (.int .i64 2) by rw [hwx]; exact cell_of_row _ _ 0 _ _ (0, 0) (heap_alloc_new w1 _))
  have C1 := Lib.hid (show wx.cell? ⟨w1.heap.size, 1, none⟩ = some (.int .i64 1) by rw [hwx]; exact cell_of_row _ _ 1 _ _ (0, 0) (heap_alloc_new w1 _))
  have C2 := Lib.hid (show wx.cell? ⟨w1.heap.size, 2, none⟩ = some (.slice a1 2 k1) by rw [hwx]; exact cell_of_row _ _ 2 _ _ (0, 0) (heap_alloc_new w1 _))
  rw [← hwx] at bx LT
  have R1 := Lib.hid (r1.below bx)
  have B1 := Lib.hid (b1.trans (bx.mono b1.size))
  have HM1 := Lib.hid (HM.out.below B1.out)
  clear r1 b1 bx hwx
  go_wp2_with fail
  rw [← HA.out]
  refine (parse_prog ⟨#[105, 110, 115, 116, 97, 110, 116, 32, 99, 114, 101, 97, 116, 117, 114, 101]⟩ (by decide) _ HM1.out).mono ?_
  rintro e w2 ⟨v2, rfl, r2, b2⟩
  rw [parse_b] at r2 ⊢
  obtain ⟨a2, k2, rfl⟩ := r2.form
  have by_ := (Below.refl w2.heap.size w2).alloc (Nat.le_refl _) (.cells #[.int .i64 0, .int .i64 0, .slice a2 0 k2] 24)
  obtain ⟨wy, hwy⟩ : ∃ wy, wy = w2.alloc (.cells #[.int .i64 0, .int .i64 0, .slice a2 0 k2] 24) := ⟨_, rfl⟩
  have HA2 := Lib.hid hwy
  rw [← hwy] at by_
  have BX := Lib.hid (b2.trans (by_.mono b2.size))
  have HM2 := Lib.hid (HM1.out.below BX.out)
  clear r2 b2 by_ hwy
  go_wp2_with fail
  rw [← HA2.out]
  refine (parseTypes_prog ⟨#[99, 114, 101, 97, 116, 117, 114, 101, 43, 114, 101, 108, 105, 99]⟩ (by decide) _ HM2.out).mono ?_
  rintro e w3 ⟨rfl, b3⟩
  rw [parse_c]
  have BX3 := Lib.hid (BX.out.trans (b3.mono BX.out.size))
  have HM3 := Lib.hid (HM2.out.below b3)
  have R3 := Lib.hid (R1.out.below BX3.out)
  have c0 := (BX3.out.cell (p := ⟨w1.heap.size, 0, none⟩) LT.out).trans C0.out
  have c1 := (BX3.out.cell (p := ⟨w1.heap.size, 1, none⟩) LT.out).trans C1.out
  have c2 := (BX3.out.cell (p := ⟨w1.heap.size, 2, none⟩) LT.out).trans C2.out
  have HTX := Lib.hid (text_prog 2 1 (.slice a1 2 k1) _ w3 R3.out (by decide) HM3.out)
  rw [text_a] at HTX
  clear b3
  go_wp2_with fail
  refine HTX.out.mono ?_
  rintro e w4 ⟨rfl, b4⟩
  have HM4 := Lib.hid (HM3.out.below b4)
  have HS1 := Lib.hid (isSub_prog ⟨#[108, 97, 110, 100]⟩ w4 HM4.out)
  rw [sub_a] at HS1
  go_wp2_with fail
  refine HS1.out.mono ?_
  rintro e w5 ⟨rfl, b5⟩
  have HM5 := Lib.hid (HM4.out.below b5)
  have HS2 := Lib.hid (isSub_prog ⟨#[102, 111, 120]⟩ w5 HM5.out)
  rw [sub_b] at HS2
  go_wp2_with fail
  refine HS2.out.mono ?_
  rintro e w6 ⟨rfl, b6⟩
  have HT6 := Lib.hid (typesText_prog 0 w6)
  rw [tyText_not 0 (by decide)] at HT6
  go_wp2_with fail
  refine HT6.out.mono ?_
  rintro e w7 ⟨rfl, b7⟩
  go_wp2_with fail
  go_ret
  exact ⟨rfl, B1.out.trans ((BX3.out.trans ((b4.trans ((b5.trans ((b6.trans (b7.mono b6.size)).mono b5.size)).mono b4.size)).mono BX3.out.size)).mono B1.out.size)⟩
end Go.Proofs.YtgnffmlcjnnneaaDoor
