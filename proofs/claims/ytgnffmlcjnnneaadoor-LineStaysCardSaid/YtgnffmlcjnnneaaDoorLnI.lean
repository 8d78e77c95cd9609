/- Walks of chapter 10: Same, the program's and the reference's. -/
import Derived.Test.YtgnffmlcjnnneaaDoorLnH
import Derived.BigQuiet
namespace Go.Proofs.YtgnffmlcjnnneaaDoor
open Go Go.RowKit Go.Sort Cg
theorem equal_s (v u : Value) (xs ys : List ByteArray) (w : World) (h : RowAt Value.string w v xs) (k : RowAt Value.string w u ys) (hn : xs.length ≤ 4611686018427387904) (hm : ys.length ≤ 4611686018427387904) :
    Calls Tryd.prog 44 #[v, u] w fun e w' => e = .returned (.bool (decide (xs = ys))) ∧ Below w.heap.size w w' := by
  by_cases hl : xs.length = ys.length
  · rcases h.cases with ⟨rfl, ao, cap, rfl⟩ | ⟨hx, b, o, cap, rfl, _, _, hc⟩
    · obtain ⟨au, cu, rfl⟩ := k.form
      have : ys = [] := List.eq_nil_of_length_eq_zero hl.symm
      subst this
      exact (Tryd.slices_Equal_string_empty ao au cap 0 cu w (by omega)).mono fun e w' ⟨h1, h2⟩ => ⟨by rw [h1]; rfl, h2 ▸ Below.refl _ _⟩
    · rcases k.cases with ⟨rfl, au, cu, rfl⟩ | ⟨_, b2, o2, cap2, rfl, _, _, hc2⟩
      · exact absurd (List.eq_nil_of_length_eq_zero hl) hx
      · exact (Tryd.slices_Equal_string b o xs.length cap b2 o2 ys.length cap2 xs ys w (Nat.le_refl _) (Nat.le_refl _) (by omega) (by omega) (cells_getD ByteArray.empty hc) (cells_getD ByteArray.empty hc2)).mono fun e w' ⟨h1, q, h2⟩ => ⟨by rw [h1]; simp only [List.take_length], h2 ▸ drewN_grow w q⟩
  · obtain ⟨a1, c1, rfl⟩ := h.form
    obtain ⟨a2, c2, rfl⟩ := k.form
    exact (Tryd.slices_Equal_string_lens a1 a2 _ c1 _ c2 w hl).mono fun e w' ⟨h1, h2⟩ => ⟨by rw [h1, decide_eq_false (fun e => hl (by rw [e]))], h2 ▸ Below.refl _ _⟩
def sameL (su ty : Int) (xs : List ByteArray) (su2 ty2 : Int) (ys : List ByteArray) : Bool := (su == su2) && ((ty == ty2) && decide (xs = ys))
theorem sameL_prog (su ty : Int) (v : Value) (xs : List ByteArray) (su2 ty2 : Int) (u : Value) (ys : List ByteArray) (w : World) (h : RowAt Value.string w v xs) (k : RowAt Value.string w u ys) (hn : xs.length ≤ 4611686018427387904) (hm : ys.length ≤ 4611686018427387904) :
    Calls Tryd.prog 21 #[lineV su ty v, lineV su2 ty2 u] w fun e w' => e = .returned (.bool (sameL su ty xs su2 ty2 ys)) ∧ Below w.heap.size w w' := by
  obtain ⟨ao, cap, rfl⟩ := h.form
  obtain ⟨au, cu, rfl⟩ := k.form
  have BA := Lib.hid (((Below.refl w.heap.size w).alloc (Nat.le_refl _) (.cells #[.int .i64 su, .int .i64 ty, .slice ao xs.length cap] 24)).alloc (by simp) (.cells #[.int .i64 su2, .int .i64 ty2, .slice au ys.length cu] 24))
  have RX := Lib.hid (h.below BA.out)
  have RY := Lib.hid (k.below BA.out)
  clear h k
  obtain ⟨r, hr⟩ : ∃ r, decide (xs = ys) = r := ⟨_, rfl⟩
  have HR := Lib.hid hr
  cases h1 : (su == su2)
  · have HS := Lib.hid (show sameL su ty xs su2 ty2 ys = false by rw [sameL, h1]; rfl)
    clear hr
    go_enter Tryd.func21, Tryd.ntmps21
    go_wp2_with fail
    go_ret
    exact ⟨ret_bool HS.out.symm, BA.out⟩
  · cases h2 : (ty == ty2)
    · have HS := Lib.hid (show sameL su ty xs su2 ty2 ys = false by rw [sameL, h1, h2]; rfl)
      clear hr
      go_enter Tryd.func21, Tryd.ntmps21
      go_wp2_with fail
      go_ret
      exact ⟨ret_bool HS.out.symm, BA.out⟩
    · have HS := Lib.hid (show sameL su ty xs su2 ty2 ys = r by rw [sameL, h1, h2, hr]; rfl)
      clear hr
      go_enter Tryd.func21, Tryd.ntmps21
      go_wp2_with fail
      refine (equal_s _ _ xs ys _ RX.out RY.out hn hm).mono ?_
      rintro e w1 ⟨rfl, b1⟩
      rw [HR.out]
      go_wp2_with fail
      go_ret
      exact ⟨ret_bool HS.out.symm, BA.out.trans (b1.mono BA.out.size)⟩
theorem list_ext_getS {xs ys : List ByteArray} (hl : xs.length = ys.length) (h : ∀ j, j < xs.length → xs.getD j ByteArray.empty = ys.getD j ByteArray.empty) : xs = ys := by
  apply List.ext_getElem hl
  intro j h1 h2
  have := h j h1
  rwa [getS_at _ _ h1, getS_at _ _ h2] at this
set_option maxHeartbeats 1000000 in
theorem sameL_ref (su ty : Int) (v : Value) (xs : List ByteArray) (su2 ty2 : Int) (u : Value) (ys : List ByteArray) (w : World) (h : RowAt Value.string w v xs) (k : RowAt Value.string w u ys) (hn : xs.length ≤ 4611686018427387904) :
    Calls Tryd.prog 15 #[lineV su ty v, lineV su2 ty2 u] w fun e w' => e = .returned (.bool (sameL su ty xs su2 ty2 ys)) ∧ Below w.heap.size w w' := by
  obtain ⟨ao, cap, rfl⟩ := h.form
  obtain ⟨au, cu, rfl⟩ := k.form
  have ba := ((Below.refl w.heap.size w).alloc (Nat.le_refl _) (.cells #[.int .i64 su, .int .i64 ty, .slice ao xs.length cap] 24)).alloc (by simp) (.cells #[.int .i64 su2, .int .i64 ty2, .slice au ys.length cu] 24)
  have BA := Lib.hid ba
  have RX := Lib.hid (h.below ba)
  have RY := Lib.hid (k.below ba)
  clear h k ba
  cases h1 : (su == su2)
  · have n1 : (su != su2) = true := by rw [bne, h1]; rfl
    have HS := Lib.hid (show sameL su ty xs su2 ty2 ys = false by rw [sameL, h1]; rfl)
    go_enter Tryd.func15, Tryd.ntmps15
    go_wp2_with fail
    go_ret
    exact ⟨ret_bool HS.out.symm, BA.out⟩
  · obtain rfl : su = su2 := by simpa using h1
    cases h2 : (ty == ty2)
    · have n2 : (ty != ty2) = true := by rw [bne, h2]; rfl
      have HS := Lib.hid (show sameL su ty xs su ty2 ys = false by rw [sameL, h1, h2]; rfl)
      go_enter Tryd.func15, Tryd.ntmps15
      go_wp2_with fail
      go_ret
      exact ⟨ret_bool HS.out.symm, BA.out⟩
    · obtain rfl : ty = ty2 := by simpa using h2
      by_cases hl : xs.length = ys.length
      · obtain ⟨n, hnn⟩ : ∃ n, xs.length = n := ⟨_, rfl⟩
        have hmm := hl.symm.trans hnn
        have HL := Lib.hid hnn
        have HM := Lib.hid hmm
        rw [hnn] at hn
        rw [hnn, hmm] at RX RY BA
        rw [hnn, hmm]
        clear hl hnn hmm
        have HSB := Lib.hid (show sameL su ty xs su ty ys = decide (xs = ys) by rw [sameL, h1, h2]; rfl)
        clear h1 h2
        go_enter Tryd.func15, Tryd.ntmps15
        go_wp2_with fail
        obtain ⟨wa, hwa⟩ : ∃ wa, wa = (w.alloc (.cells #[.int .i64 su, .int .i64 ty, .slice ao n cap] 24)).alloc (.cells #[.int .i64 su, .int .i64 ty, .slice au n cu] 24) := ⟨_, rfl⟩
        have c1 : wa.cell? ⟨w.heap.size, 2, none⟩ = some (.slice ao n cap) := by
          rw [hwa]
          exact (((Below.refl _ _).alloc (Nat.le_refl _) (.cells #[.int .i64 su, .int .i64 ty, .slice au n cu] 24)).cell (p := ⟨w.heap.size, 2, none⟩) (by show w.heap.size < (w.heap.push _).size; simp)).trans (cells_new w [.int .i64 su, .int .i64 ty, .slice ao n cap] 24 2 _ rfl)
        have c2 : wa.cell? ⟨w.heap.size + 1, 2, none⟩ = some (.slice au n cu) := by
          rw [hwa]
          have := cells_new (w.alloc (.cells #[.int .i64 su, .int .i64 ty, .slice ao n cap] 24)) [.int .i64 su, .int .i64 ty, .slice au n cu] 24 2 _ rfl
          rw [show (w.alloc (.cells #[.int .i64 su, .int .i64 ty, .slice ao n cap] 24)).heap.size = w.heap.size + 1 by simp] at this
          exact this
        rw [← hwa] at RX RY BA ⊢
        clear hwa
        go_loopw [5] (fun i wr => ∃ j : Nat, j ≤ n ∧ i = .int .i64 j ∧ Hid (∀ m, m < j → xs.getD m ByteArray.empty = ys.getD m ByteArray.empty) ∧ Hid (Below wa.heap.size wa wr) ∧ wr.cell? ⟨w.heap.size, 2, none⟩ = some (.slice ao n cap) ∧ wr.cell? ⟨w.heap.size + 1, 2, none⟩ = some (.slice au n cu)) (fun i _ => n - (intOf i).toNat)
        case atStart => exact ⟨0, by omega, rfl, Lib.hid fun m hm => by omega, Lib.hid (Below.refl _ _), c1, c2⟩
        case round =>
          obtain ⟨j, hj, rfl, H, HQ, cc1, cc2⟩ := hrel
          clear c1 c2
          by_cases hlt : j < n
          · have hk1 : j < xs.length := by rw [HL.out]; exact hlt
            have hk2 : j < ys.length := by rw [HM.out]; exact hlt
            obtain ⟨a', p', he, _, hx⟩ := RX.out
            obtain ⟨a2', p2', he2, _, hy⟩ := RY.out
            rw [HL.out] at he
            rw [HM.out] at he2
            simp only [Value.slice.injEq, true_and] at he he2
            obtain ⟨rfl, rfl⟩ := he
            obtain ⟨rfl, rfl⟩ := he2
            rcases hx with e | ⟨b, o, rfl, hb, hc⟩
            · rw [e] at hk1; simp at hk1
            rcases hy with e | ⟨b2, o2, rfl, hb2, hc2⟩
            · rw [e] at hk2; simp at hk2
            have g0 := (HQ.out.cell (p := ⟨b, o + j, none⟩) hb).trans (hc j xs[j] (by simp))
            have g1 := (HQ.out.cell (p := ⟨b2, o2 + j, none⟩) hb2).trans (hc2 j ys[j] (by simp))
            have h0 := getS_at xs j hk1
            have h1 := getS_at ys j hk2
            obtain ⟨y, hyy⟩ : ∃ y, y = xs[j] := ⟨_, rfl⟩
            obtain ⟨z, hzz⟩ : ∃ z, z = ys[j] := ⟨_, rfl⟩
            rw [← hyy] at g0 h0
            rw [← hzz] at g1 h1
            have H0 := Lib.hid h0
            have H1 := Lib.hid h1
            clear h0 h1 hc hc2 hyy hzz hk1 hk2 hb hb2
            have i0 : (0 : Int) ≤ (j : Int) := by omega
            have i1 : (j : Int) < (n : Int) := by omega
            by_cases he : y = z
            · have ht := same_true he
              have H2 : Hid (∀ m, m < j + 1 → xs.getD m ByteArray.empty = ys.getD m ByteArray.empty) := Lib.hid fun m hm => by
                by_cases e : m = j
                · rw [e, H0.out, H1.out]; exact he
                · exact H.out m (by omega)
              clear he
              go_wp2_with fail
              go_quiet (fail)
              go_wp2_with fail
              go_roundw
              case rel => exact ⟨j + 1, by omega, by go_num, H2, Lib.hid (below_drewN HQ.out _), cc1, cc2⟩
              case measure => simp [intOf]; omega
            · have ht := same_false he
              have HR := Lib.hid (show sameL su ty xs su ty ys = false by rw [HSB.out]; exact decide_eq_false fun e => he (by rw [← H0.out, ← H1.out, e]))
              clear he
              go_wp2_with fail
              go_quiet (fail)
              go_wp2_with fail
              go_ret
              exact ⟨ret_bool HR.out.symm, below_drewN (BA.out.trans (HQ.out.mono BA.out.size)) _⟩
          · obtain rfl : j = n := by omega
            have HR := Lib.hid (show sameL su ty xs su ty ys = true by rw [HSB.out]; exact decide_eq_true (list_ext_getS (by rw [HL.out, HM.out]) (by rw [HL.out]; exact H.out)))
            go_wp2_with fail
            go_ret
            exact ⟨ret_bool HR.out.symm, BA.out.trans (HQ.out.mono BA.out.size)⟩
      · have ht : ((xs.length : Int) == (ys.length : Int)) = false := beq_eq_false_iff_ne.2 (by omega)
        have ht2 : ((xs.length : Int) != (ys.length : Int)) = true := by rw [bne, ht]; rfl
        have HR := Lib.hid (show sameL su ty xs su ty ys = false by rw [sameL, h1, h2, decide_eq_false (fun e => hl (by rw [e]))]; rfl)
        go_enter Tryd.func15, Tryd.ntmps15
        go_wp2_with fail
        go_ret
        exact ⟨ret_bool HR.out.symm, BA.out⟩
end Go.Proofs.YtgnffmlcjnnneaaDoor
