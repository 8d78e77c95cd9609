/- Chapter 10: lines as data, what makes one valid; the program's Is. -/
import Derived.Test.YtgnffmlcjnnneaaDoorLnE
import Derived.Sort.Walk0
namespace Go.Proofs.YtgnffmlcjnnneaaDoor
open Go Go.RowKit Go.Sort Cg
def ltL (a b : List UInt8) : Bool := Op.bytesLess a b
theorem ltL_dec (a b : List UInt8) : ltL a b = decide (a < b) := bytesLess_eq a b
theorem ltL_ord : Ord ltL where
  irrefl := fun a => by rw [ltL_dec]; exact decide_eq_false (List.lt_irrefl a)
  trans := fun a b c h1 h2 => by
    rw [ltL_dec, decide_eq_true_eq] at *
    exact List.lt_trans h1 h2
  conn := fun a b h1 h2 => by
    rw [ltL_dec, decide_eq_false_iff_not] at *
    exact List.le_antisymm (List.not_lt.1 h2) (List.not_lt.1 h1)
def ltS (a b : ByteArray) : Bool := Op.bytesLess a.toList b.toList
theorem ltS_ltL (a b : ByteArray) : ltS a b = ltL a.data.toList b.data.toList := by rw [ltS, ByteArray.toList_eq, ByteArray.toList_eq]; rfl
theorem ltS_ord : Ord ltS where
  irrefl := fun a => by rw [ltS_ltL]; exact ltL_ord.irrefl _
  trans := fun a b c h1 h2 => by rw [ltS_ltL] at *; exact ltL_ord.trans _ _ _ h1 h2
  conn := fun a b h1 h2 => by rw [ltS_ltL] at *; exact bytes_ext (ltL_ord.conn _ _ h1 h2)
/-- The subtypes below k are subtypes, each greater than the one before it. -/
def SubsOk (xs : List ByteArray) (k : Nat) : Prop := ∀ j, j < k → isSub (xs.getD j ByteArray.empty) = true ∧ (0 < j → ltS (xs.getD (j - 1) ByteArray.empty) (xs.getD j ByteArray.empty) = true)
instance (xs : List ByteArray) (k : Nat) : Decidable (SubsOk xs k) := by unfold SubsOk; infer_instance
theorem SubsOk.step {xs : List ByteArray} {k : Nat} (h : SubsOk xs k) (h1 : isSub (xs.getD k ByteArray.empty) = true) (h2 : 0 < k → ltS (xs.getD (k - 1) ByteArray.empty) (xs.getD k ByteArray.empty) = true) : SubsOk xs (k + 1) := fun j hj => by
  by_cases e : j = k
  · rw [e]; exact ⟨h1, h2⟩
  · exact h j (by omega)
def headOk (su ty : Int) (n : Nat) : Prop := 0 ≤ su ∧ su ≤ 3 ∧ 1 ≤ ty ∧ ty ≤ 63 ∧ comb ty.toNat = true ∧ n ≤ 4
instance (su ty : Int) (n : Nat) : Decidable (headOk su ty n) := by unfold headOk; infer_instance
def isL (su ty : Int) (xs : List ByteArray) : Bool := decide (headOk su ty xs.length ∧ SubsOk xs xs.length)
theorem isL_head {su ty : Int} {xs : List ByteArray} (h : ¬ headOk su ty xs.length) : isL su ty xs = false := decide_eq_false fun e => h e.1
theorem isL_bad {su ty : Int} {xs : List ByteArray} {k : Nat} (hk : k < xs.length) (h : ¬ (isSub (xs.getD k ByteArray.empty) = true ∧ (0 < k → ltS (xs.getD (k - 1) ByteArray.empty) (xs.getD k ByteArray.empty) = true))) : isL su ty xs = false := decide_eq_false fun e => h (e.2 k hk)
theorem isL_good {su ty : Int} {xs : List ByteArray} (h1 : headOk su ty xs.length) (h2 : SubsOk xs xs.length) : isL su ty xs = true := decide_eq_true ⟨h1, h2⟩
/-- The value of a line. -/
abbrev lineV (su ty : Int) (v : Value) : Value := .agg #[.int .i64 su, .int .i64 ty, v]
set_option maxRecDepth 100000 in
set_option maxHeartbeats 2000000 in
theorem isL_prog (su ty : Int) (v : Value) (xs : List ByteArray) (w : World) (h : RowAt Value.string w v xs) (hn : xs.length ≤ 4611686018427387904) (hm : Mx w) :
    Calls Tryd.prog 20 #[lineV su ty v] w fun e w' => e = .returned (.bool (isL su ty xs)) ∧ Below w.heap.size w w' := by
  have RX := Lib.hid h
  have HM := Lib.hid hm
  obtain ⟨ao, cap, rfl⟩ := h.form
  clear h hm
  have BA := Lib.hid ((Below.refl w.heap.size w).alloc (Nat.le_refl _) (.cells #[.int .i64 su, .int .i64 ty, .slice ao xs.length cap] 24))
  by_cases hh : headOk su ty xs.length
  · obtain ⟨h1, h2, h3, h4, h5, h6⟩ := hh
    have HH := Lib.hid (show headOk su ty xs.length from ⟨h1, h2, h3, h4, h5, h6⟩)
    obtain ⟨tn, rfl⟩ := Int.eq_ofNat_of_zero_le (show 0 ≤ ty by omega)
    have HC := Lib.hid h5
    rw [Int.toNat_natCast] at HC
    have hc2 := cells_new w [.int .i64 su, .int .i64 (tn : Int), .slice ao xs.length cap] 24 2 _ rfl
    have C2 := Lib.hid hc2
    clear h5 hc2
    go_enter Tryd.func20, Tryd.ntmps20
    go_wp2_with fail
    refine (comb_all _ tn (by omega)).mono ?_
    rintro e w1 ⟨rfl, rfl⟩
    rw [HC.out]
    have d6 : decide ((xs.length : Int) > 4) = false := decide_eq_false (by omega)
    go_wp2_with fail
    go_loopw [38] (fun i wr => ∃ k : Nat, k ≤ xs.length ∧ i = .int .i64 k ∧ Hid (SubsOk xs k) ∧ Hid (Below (w.alloc (.cells #[.int .i64 su, .int .i64 (tn : Int), .slice ao xs.length cap] 24)).heap.size (w.alloc (.cells #[.int .i64 su, .int .i64 (tn : Int), .slice ao xs.length cap] 24)) wr)) (fun i _ => xs.length - (intOf i).toNat)
    case atStart => exact ⟨0, by omega, rfl, Lib.hid fun j hj => by omega, Lib.hid (Below.refl _ _)⟩
    case round =>
      obtain ⟨k, hk, rfl, H, HB⟩ := hrel
      by_cases hlt : k < xs.length
      · have hsz : w.heap.size < (w.alloc (.cells #[.int .i64 su, .int .i64 (tn : Int), .slice ao xs.length cap] 24)).heap.size := by show w.heap.size < (w.heap.push _).size; simp
        have HBW := Lib.hid (BA.out.trans (HB.out.mono (Nat.le_of_lt hsz)))
        have HMW := Lib.hid (HM.out.below HBW.out)
        have RX1 := RX.out.below HBW.out
        obtain ⟨ao', cap', he, hcap, hx⟩ := RX1
        simp only [Value.slice.injEq, true_and] at he
        obtain ⟨rfl, rfl⟩ := he
        rcases hx with e | ⟨b, o, rfl, hb, hc⟩
        · rw [e] at hlt; simp at hlt
        have HSZ := Lib.hid hsz
        have g0 := hc k xs[k] (by simp)
        have gd0 := getS_at xs k hlt
        by_cases h0 : k = 0
        · subst h0
          obtain ⟨x, hxx⟩ : ∃ x, x = xs[0] := ⟨_, rfl⟩
          rw [← hxx] at g0 gd0
          rw [Nat.add_zero] at g0
          have GD := Lib.hid gd0
          clear hc hxx gd0 hsz hcap hb
          cases hs : isSub x
          · have HR := Lib.hid (isL_bad (su := su) (ty := (tn : Int)) hlt (by rw [GD.out, hs]; simp))
            have HS := Lib.hid hs
            clear hs
            go_wp2_with fail
            refine (isSub_prog x _ HMW.out).mono ?_
            rintro e w2 ⟨rfl, b2⟩
            rw [HS.out]
            go_wp2_with fail
            go_ret
            exact ⟨ret_bool HR.out.symm, HBW.out.trans (b2.mono HBW.out.size)⟩
          · have H2 := Lib.hid (H.out.step (by rw [GD.out]; exact hs) (fun h => by omega))
            have HS := Lib.hid hs
            clear hs H
            go_wp2_with fail
            refine (isSub_prog x _ HMW.out).mono ?_
            rintro e w2 ⟨rfl, b2⟩
            rw [HS.out]
            go_wp2_with fail
            go_roundw
            case rel => exact ⟨1, by omega, by go_num, H2, Lib.hid (HB.out.trans (b2.mono HB.out.size))⟩
            case measure => simp [intOf]; omega
        · obtain ⟨m, rfl⟩ : ∃ m, k = m + 1 := ⟨k - 1, by omega⟩
          have G1 := Lib.hid (hc m xs[m] (by simp))
          have gd1 := getS_at xs m (by omega)
          obtain ⟨x, hxx⟩ : ∃ x, x = xs[m + 1] := ⟨_, rfl⟩
          obtain ⟨y, hyy⟩ : ∃ y, y = xs[m] := ⟨_, rfl⟩
          rw [← hxx] at g0 gd0
          rw [← hyy] at G1 gd1
          have GD := Lib.hid gd0
          have GD1 := Lib.hid gd1
          have HBK := Lib.hid hb
          have i0 : (0 : Int) ≤ (m : Int) := by omega
          have i1 : (m : Int) < (xs.length : Int) := by omega
          have i2 : (m : Int) + 1 < (xs.length : Int) := by omega
          clear hc hxx hyy gd0 gd1 hsz hcap hb h0
          cases hs : isSub x
          · have HR := Lib.hid (isL_bad (su := su) (ty := (tn : Int)) hlt (by rw [GD.out, hs]; simp))
            have HS := Lib.hid hs
            clear hs
            go_wp2_with fail
            refine (isSub_prog x _ HMW.out).mono ?_
            rintro e w2 ⟨rfl, b2⟩
            rw [HS.out]
            go_wp2_with fail
            go_ret
            exact ⟨ret_bool HR.out.symm, HBW.out.trans (b2.mono HBW.out.size)⟩
          · have HS := Lib.hid hs
            cases hl : ltS y x
            · have HR := Lib.hid (isL_bad (su := su) (ty := (tn : Int)) hlt (by rw [show m + 1 - 1 = m by omega, GD.out, GD1.out, hl]; simp))
              have hbl : Op.bytesLess y.toList x.toList = false := hl
              clear hs hl
              go_wp2_with fail
              refine (isSub_prog x _ HMW.out).mono ?_
              rintro e w2 ⟨rfl, b2⟩
              rw [HS.out]
              have c2 := (b2.cell (p := ⟨w.heap.size, 2, none⟩) (Nat.lt_of_lt_of_le HSZ.out HB.out.size)).trans ((HB.out.cell (p := ⟨w.heap.size, 2, none⟩) HSZ.out).trans C2.out)
              have g1 := (b2.cell (p := ⟨b, o + m, none⟩) HBK.out).trans G1.out
              go_wp2_with fail
              go_ret
              exact ⟨ret_bool HR.out.symm, HBW.out.trans (b2.mono HBW.out.size)⟩
            · have H2 := Lib.hid (H.out.step (by rw [GD.out]; exact hs) (fun _ => by rw [show m + 1 - 1 = m by omega, GD.out, GD1.out]; exact hl))
              have hbl : Op.bytesLess y.toList x.toList = true := hl
              clear hs hl H
              go_wp2_with fail
              refine (isSub_prog x _ HMW.out).mono ?_
              rintro e w2 ⟨rfl, b2⟩
              rw [HS.out]
              have c2 := (b2.cell (p := ⟨w.heap.size, 2, none⟩) (Nat.lt_of_lt_of_le HSZ.out HB.out.size)).trans ((HB.out.cell (p := ⟨w.heap.size, 2, none⟩) HSZ.out).trans C2.out)
              have g1 := (b2.cell (p := ⟨b, o + m, none⟩) HBK.out).trans G1.out
              go_wp2_with fail
              go_roundw
              case rel => exact ⟨m + 1 + 1, by omega, by go_num, H2, Lib.hid (HB.out.trans (b2.mono HB.out.size))⟩
              case measure => simp [intOf]; omega
      · obtain rfl : k = xs.length := by omega
        have HR := Lib.hid (isL_good HH.out H.out)
        have hsz : w.heap.size ≤ (w.alloc (.cells #[.int .i64 su, .int .i64 (tn : Int), .slice ao xs.length cap] 24)).heap.size := by show w.heap.size ≤ (w.heap.push _).size; simp
        have HBW := Lib.hid (BA.out.trans (HB.out.mono hsz))
        clear hsz
        go_wp2_with fail
        go_ret
        exact ⟨ret_bool HR.out.symm, HBW.out⟩
  · have HR := Lib.hid (isL_head hh)
    by_cases h1 : 0 ≤ su
    · by_cases h2 : su ≤ 3
      · by_cases h3 : 1 ≤ ty
        · by_cases h4 : ty ≤ 63
          · obtain ⟨tn, rfl⟩ := Int.eq_ofNat_of_zero_le (show 0 ≤ ty by omega)
            cases h5 : comb tn
            · have HC := Lib.hid h5
              clear hh h5
              go_enter Tryd.func20, Tryd.ntmps20
              go_wp2_with fail
              refine (comb_all _ tn (by omega)).mono ?_
              rintro e w1 ⟨rfl, rfl⟩
              rw [HC.out]
              go_wp2_with fail
              go_ret
              exact ⟨ret_bool HR.out.symm, BA.out⟩
            · have HC := Lib.hid h5
              have h6 : 4 < xs.length := by
                refine Nat.not_le.1 fun h6 => hh ⟨h1, h2, h3, h4, ?_, h6⟩
                rw [Int.toNat_natCast]; exact h5
              have d6 : (4 : Int) < (xs.length : Int) := by omega
              clear hh h5
              go_enter Tryd.func20, Tryd.ntmps20
              go_wp2_with fail
              refine (comb_all _ tn (by omega)).mono ?_
              rintro e w1 ⟨rfl, rfl⟩
              rw [HC.out]
              go_wp2_with fail
              go_ret
              exact ⟨ret_bool HR.out.symm, BA.out⟩
          · have h4' : 63 < ty := by omega
            clear hh h4
            go_enter Tryd.func20, Tryd.ntmps20
            go_wp2_with fail
            go_ret
            exact ⟨ret_bool HR.out.symm, BA.out⟩
        · have h3' : ty < 1 := by omega
          clear hh h3
          go_enter Tryd.func20, Tryd.ntmps20
          go_wp2_with fail
          go_ret
          exact ⟨ret_bool HR.out.symm, BA.out⟩
      · have h2' : 3 < su := by omega
        clear hh h2
        go_enter Tryd.func20, Tryd.ntmps20
        go_wp2_with fail
        go_ret
        exact ⟨ret_bool HR.out.symm, BA.out⟩
    · have h1' : su < 0 := by omega
      clear hh h1
      go_enter Tryd.func20, Tryd.ntmps20
      go_wp2_with fail
      go_ret
      exact ⟨ret_bool HR.out.symm, BA.out⟩
end Go.Proofs.YtgnffmlcjnnneaaDoor
