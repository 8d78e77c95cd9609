/- The walks of the five laws of chapter 09: each returns true and changes nothing that was there. -/
import Derived.Test.YteiiponfgjabeaaDoorColB
import Derived.Deep.RegionHeld3
import Derived.Deep.DrawnRows
namespace Go.Proofs.YteiiponfgjabeaaDoor
open Go Go.RowKit Cg
attribute [local go_sem ↓] Go.wp_at_zero Go.wp_at_succ
theorem law_masks (n : Int) (w : World) (ht : Tab w) : Calls Tryd.prog 3 #[.int .i64 n] w fun e w' => e = .returned (.bool true) ∧ Below w.heap.size w w' := by
  have HT := Lib.hid ht
  clear ht
  go_enter Tryd.func3, Tryd.ntmps3
  go_wp2_with (first
    | (go_at_call 8; refine (is_prog _ _).mono ?_; rintro e w' ⟨rfl, rfl⟩)
    | (go_at_call 9; refine (is_ref _ _).mono ?_; rintro e w' ⟨rfl, rfl⟩)
    | (go_at_call 10; refine (name_prog _ _ HT.out).mono ?_; rintro e w' ⟨rfl, rfl⟩)
    | (go_at_call 11; refine (name_ref _ _).mono ?_; rintro e w' ⟨rfl, rfl⟩)
    | (go_at_call 12; refine (count_prog _ _).mono ?_; rintro e w' ⟨rfl, rfl⟩)
    | (go_at_call 13; refine (count_ref _ _).mono ?_; rintro e w' ⟨rfl, rfl⟩)
    | (go_at_call 14; refine (alive _ HT.out).mono ?_; rintro e w' ⟨rfl, hbel⟩))
  go_ret
  exact ⟨rfl, hbel⟩
theorem law_text (n : Int) (w : World) (ht : Tab w) : Calls Tryd.prog 4 #[.int .i64 n] w fun e w' => e = .returned (.bool true) ∧ Below w.heap.size w w' := by
  have HT := Lib.hid ht
  clear ht
  go_enter Tryd.func4, Tryd.ntmps4
  go_wp2_with (first
    | (go_at_call 15; refine (text_prog _ _ HT.out).mono ?_; rintro e w' ⟨rfl, hbel⟩; have HT1 := Lib.hid (HT.out.below hbel))
    | (go_at_call 16; refine (text_ref _ _).mono ?_; rintro e w' ⟨rfl, rfl⟩)
    | (go_at_call 14; refine (alive _ HT1.out).mono ?_; rintro e w' ⟨rfl, hbel2⟩))
  go_ret
  exact ⟨rfl, hbel.trans (hbel2.mono hbel.size)⟩
theorem law_parse (s : ByteArray) (w : World) (hs : s.size ≤ 9223372036854775807) (ht : Tab w) : Calls Tryd.prog 5 #[.string s] w fun e w' => e = .returned (.bool true) ∧ Below w.heap.size w w' := by
  have HT := Lib.hid ht
  clear ht
  by_cases hl : s.size ≤ 200
  · go_enter Tryd.func5, Tryd.ntmps5
    go_wp2_with (first
      | (go_at_call 17; refine (parse_prog _ _ HT.out).mono ?_; rintro e w' ⟨rfl, hbel⟩; have HT1 := Lib.hid (HT.out.below hbel))
      | (go_at_call 18; refine (parse_ref _ _).mono ?_; rintro e w' ⟨rfl, rfl⟩)
      | (go_at_call 14; refine (alive _ HT1.out).mono ?_; rintro e w' ⟨rfl, hbel2⟩))
    go_ret
    exact ⟨rfl, hbel.trans (hbel2.mono hbel.size)⟩
  · go_enter Tryd.func5, Tryd.ntmps5
    go_wp2_with (go_at_call 14; refine (alive _ HT.out).mono ?_; rintro e w' ⟨rfl, hbel2⟩)
    go_ret
    exact ⟨rfl, hbel2⟩
theorem prs_back (s : ByteArray) (h : (prs s).2 = 0) : txt (prs s).1 = s := by
  unfold prs at h ⊢
  split at h
  · rename_i m hm
    rw [List.find?_range_eq_some] at hm
    have h1 := of_decide_eq_true hm.1
    have h2 : m < 32 := by simpa using hm.2.1
    exact (txt_nat m h2).trans h1
  · simp at h
theorem prs_txt : ∀ n, n < 32 → prs (txtN n) = (n, 0) := by decide +kernel
theorem prs_empty : prs ⟨#[]⟩ = (0, 3) := by decide +kernel
theorem prs_codes (s : ByteArray) : (prs s).2 = 0 ∨ (prs s).2 = 3 := by
  unfold prs
  split <;> simp
theorem law_back_tail (n : Int) : (okMask n = true → prs (txt n) = (n.toNat, 0) ∧ 0 ≤ n) ∧ (okMask n = false → prs (txt n) = (0, 3) ∧ txt n = ⟨#[]⟩) := by
  constructor
  · intro ho
    have hb : 0 ≤ n ∧ n ≤ 31 := by simpa [okMask] using ho
    have e : txt n = txtN n.toNat := by rw [txt, ho]; rfl
    rw [e]
    exact ⟨prs_txt _ (by omega), hb.1⟩
  · intro ho
    have e : txt n = ⟨#[]⟩ := by rw [txt, ho]; rfl
    rw [e]
    exact ⟨prs_empty, rfl⟩
def Good (w0 w : World) : Prop := Tab w ∧ Below w0.heap.size w0 w
theorem Good.step {w0 w w' : World} (h : Good w0 w) (hb : Below w.heap.size w w') : Good w0 w' := ⟨h.1.below hb, h.2.trans (hb.mono h.2.size)⟩
theorem Good.drew {w0 w : World} (h : Good w0 w) : Good w0 w.drew := ⟨h.1, h.2.drew⟩
theorem text_g {w0 w : World} {n : Int} (h : Good w0 w) : Calls Tryd.prog 15 #[.int .i64 n] w fun e w' => e = .returned (.string (txt n)) ∧ Good w0 w' := (text_prog n w h.1).mono fun _ _ ⟨a, b⟩ => ⟨a, h.step b⟩
theorem parse_g {w0 w : World} {s : ByteArray} (h : Good w0 w) : Calls Tryd.prog 17 #[.string s] w fun e w' => e = .returned (.tuple #[.int .i64 (prs s).1, .int .i64 (prs s).2]) ∧ Good w0 w' := (parse_prog s w h.1).mono fun _ _ ⟨a, b⟩ => ⟨a, h.step b⟩
theorem name_g {w0 w : World} {n : Int} (h : Good w0 w) : Calls Tryd.prog 10 #[.int .i64 n] w fun e w' => e = .returned (.string (nmI n)) ∧ w = w' := name_prog n w h.1
theorem alive_g {w0 w : World} (h : Good w0 w) : Calls Tryd.prog 14 #[] w fun e w' => e = .returned (.bool true) ∧ Good w0 w' := (alive w h.1).mono fun _ _ ⟨a, b⟩ => ⟨a, h.step b⟩
theorem law_back (n : Int) (s : ByteArray) (w : World) (hs : s.size ≤ 9223372036854775807) (ht : Tab w) : Calls Tryd.prog 6 #[.int .i64 n, .string s] w fun e w' => e = .returned (.bool true) ∧ Below w.heap.size w w' := by
  have G0 : Good w w := ⟨ht, Below.refl _ _⟩
  clear ht
  by_cases hl : s.size ≤ 200
  · rcases hp : prs s with ⟨m, c⟩
    have hc := prs_codes s
    have hb := prs_back s
    rw [hp] at hc hb
    simp only at hc hb
    have HP := Lib.hid hp
    clear hp
    by_cases hc0 : c = 0
    · subst hc0
      have HB := Lib.hid (hb rfl)
      clear hb hc
      have hn0 : (!(s.toList == s.toList)) = false := by simp
      cases ho : okMask n
      · obtain ⟨_, h2⟩ := (law_back_tail n).2 ho
        have h1 := prs_empty
        have HO := Lib.hid ho
        have H1 := Lib.hid h1
        have H2 := Lib.hid h2
        clear ho h1 h2
        go_enter Tryd.func6, Tryd.ntmps6
        go_wp2_with (first
          | (go_at_call 17; refine (parse_g (w0 := w) (by assumption)).mono ?_; rintro e w' ⟨rfl, hG⟩; first | rw [HP.out] | rw [H1.out])
          | (go_at_call 15; refine (text_g (w0 := w) (by assumption)).mono ?_; rintro e w' ⟨rfl, hG⟩; first | rw [HB.out] | rw [H2.out] | skip)
          | (go_at_call 8; refine (is_prog _ _).mono ?_; rintro e w' ⟨rfl, rfl⟩; rw [HO.out])
          | (go_at_call 14; refine (alive_g (w0 := w) (by assumption)).mono ?_; rintro e w' ⟨rfl, hG⟩))
        go_ret
        exact ⟨rfl, hG.2⟩
      · obtain ⟨h1, h2⟩ := (law_back_tail n).1 ho
        obtain ⟨k, rfl⟩ := Int.eq_ofNat_of_zero_le h2
        have HO := Lib.hid ho
        have H1 := Lib.hid h1
        clear ho h1 h2
        go_enter Tryd.func6, Tryd.ntmps6
        go_wp2_with (first
          | (go_at_call 17; refine (parse_g (w0 := w) (by assumption)).mono ?_; rintro e w' ⟨rfl, hG⟩; first | rw [HP.out] | rw [H1.out])
          | (go_at_call 15; refine (text_g (w0 := w) (by assumption)).mono ?_; rintro e w' ⟨rfl, hG⟩; first | rw [HB.out] | rw [H2.out] | skip)
          | (go_at_call 8; refine (is_prog _ _).mono ?_; rintro e w' ⟨rfl, rfl⟩; rw [HO.out])
          | (go_at_call 14; refine (alive_g (w0 := w) (by assumption)).mono ?_; rintro e w' ⟨rfl, hG⟩))
        go_ret
        exact ⟨rfl, hG.2⟩
    · obtain rfl : c = 3 := by omega
      clear hb hc hc0
      cases ho : okMask n
      · obtain ⟨_, h2⟩ := (law_back_tail n).2 ho
        have h1 := prs_empty
        have HO := Lib.hid ho
        have H1 := Lib.hid h1
        have H2 := Lib.hid h2
        clear ho h1 h2
        go_enter Tryd.func6, Tryd.ntmps6
        go_wp2_with (first
          | (go_at_call 17; refine (parse_g (w0 := w) (by assumption)).mono ?_; rintro e w' ⟨rfl, hG⟩; first | rw [HP.out] | rw [H1.out])
          | (go_at_call 15; refine (text_g (w0 := w) (by assumption)).mono ?_; rintro e w' ⟨rfl, hG⟩; first | rw [HB.out] | rw [H2.out] | skip)
          | (go_at_call 8; refine (is_prog _ _).mono ?_; rintro e w' ⟨rfl, rfl⟩; rw [HO.out])
          | (go_at_call 14; refine (alive_g (w0 := w) (by assumption)).mono ?_; rintro e w' ⟨rfl, hG⟩))
        go_ret
        exact ⟨rfl, hG.2⟩
      · obtain ⟨h1, h2⟩ := (law_back_tail n).1 ho
        obtain ⟨k, rfl⟩ := Int.eq_ofNat_of_zero_le h2
        have HO := Lib.hid ho
        have H1 := Lib.hid h1
        clear ho h1 h2
        go_enter Tryd.func6, Tryd.ntmps6
        go_wp2_with (first
          | (go_at_call 17; refine (parse_g (w0 := w) (by assumption)).mono ?_; rintro e w' ⟨rfl, hG⟩; first | rw [HP.out] | rw [H1.out])
          | (go_at_call 15; refine (text_g (w0 := w) (by assumption)).mono ?_; rintro e w' ⟨rfl, hG⟩; first | rw [HB.out] | rw [H2.out] | skip)
          | (go_at_call 8; refine (is_prog _ _).mono ?_; rintro e w' ⟨rfl, rfl⟩; rw [HO.out])
          | (go_at_call 14; refine (alive_g (w0 := w) (by assumption)).mono ?_; rintro e w' ⟨rfl, hG⟩))
        go_ret
        exact ⟨rfl, hG.2⟩
  · go_enter Tryd.func6, Tryd.ntmps6
    go_wp2_with (go_at_call 14; refine (alive_g (w0 := w) (by assumption)).mono ?_; rintro e w' ⟨rfl, hG⟩)
    go_ret
    exact ⟨rfl, hG.2⟩
theorem law_names_any (i k a b : Int) (hi : 0 ≤ i) (hik : i < k) (hk : k ≤ 4) (w : World) (G0 : Good w w) (e1 : IntKind.i64.wrap (2 ^ i.toNat) = a) (e2 : IntKind.i64.wrap (2 ^ k.toNat) = b)
    (e3 : IntKind.i64.wrap (a + b) = a + b) (H1 : Hid (txt a = nmI i)) (H2 : Hid (txt (a + b) = nmI i ++ ⟨#[43]⟩ ++ nmI k)) (H3 : Hid (cntI (a + b) = 2)) :
    Calls Tryd.prog 7 #[.int .i64 i, .int .i64 k] w fun e w' => e = .returned (.bool true) ∧ Below w.heap.size w w' := by
  have s1 : ¬ 9223372036854775807 < (nmI i).size + 1 := by have n1 := nmI_small i; omega
  have s2 : ¬ 9223372036854775807 < (nmI i).size + 1 + (nmI k).size := by have n1 := nmI_small i; have n2 := nmI_small k; omega
  go_enter Tryd.func7, Tryd.ntmps7
  go_wp2_with fail
  go_region_held3 (fun w' => Good w w') (first | assumption | exact Good.drew (by assumption)) (first
    | (go_at_call 15; refine (text_g (w0 := w) (by assumption)).mono ?_; rintro e w' ⟨rfl, hG⟩; first | rw [H1.out] | rw [H2.out])
    | (go_at_call 10; refine (name_g (w0 := w) (by assumption)).mono ?_; rintro e w' ⟨rfl, rfl⟩)
    | (go_at_call 12; refine (count_prog _ _).mono ?_; rintro e w' ⟨rfl, rfl⟩; rw [H3.out])
    | (go_at_call 14; refine (alive_g (w0 := w) (by assumption)).mono ?_; rintro e w' ⟨rfl, hG⟩))
  go_wp2_with fail
  go_ret
  exact ⟨rfl, hG.2⟩
theorem law_names (i k : Int) (w : World) (ht : Tab w) : Calls Tryd.prog 7 #[.int .i64 i, .int .i64 k] w fun e w' => e = .returned (.bool true) ∧ Below w.heap.size w w' := by
  have G0 : Good w w := ⟨ht, Below.refl _ _⟩
  clear ht
  by_cases h1 : i < 0
  · go_enter Tryd.func7, Tryd.ntmps7
    go_wp2_with (go_at_call 14; refine (alive_g (w0 := w) (by assumption)).mono ?_; rintro e w' ⟨rfl, hG⟩)
    go_ret
    exact ⟨rfl, hG.2⟩
  by_cases h2 : k ≤ i
  · go_enter Tryd.func7, Tryd.ntmps7
    go_wp2_with (go_at_call 14; refine (alive_g (w0 := w) (by assumption)).mono ?_; rintro e w' ⟨rfl, hG⟩)
    go_ret
    exact ⟨rfl, hG.2⟩
  by_cases h3 : 4 < k
  · go_enter Tryd.func7, Tryd.ntmps7
    go_wp2_with (go_at_call 14; refine (alive_g (w0 := w) (by assumption)).mono ?_; rintro e w' ⟨rfl, hG⟩)
    go_ret
    exact ⟨rfl, hG.2⟩
  have key : ∀ k : Nat, k < 5 → ∀ i : Nat, i < k → IntKind.i64.wrap (2 ^ i) = 2 ^ i ∧ IntKind.i64.wrap (2 ^ k) = 2 ^ k ∧ IntKind.i64.wrap (2 ^ i + 2 ^ k) = 2 ^ i + 2 ^ k ∧ txt (2 ^ i) = nmI i ∧ txt (2 ^ i + 2 ^ k) = nmI i ++ ⟨#[43]⟩ ++ nmI k ∧ cntI (2 ^ i + 2 ^ k) = 2 := by decide +kernel
  obtain ⟨a, rfl⟩ := Int.eq_ofNat_of_zero_le (show 0 ≤ i by omega)
  obtain ⟨b, rfl⟩ := Int.eq_ofNat_of_zero_le (show 0 ≤ k by omega)
  obtain ⟨e1, e2, e3, f1, f2, f3⟩ := key b (by omega) a (by omega)
  exact law_names_any a b (2 ^ a) (2 ^ b) (by omega) (by omega) (by omega) w G0 e1 e2 e3 f1 f2 f3
end Go.Proofs.YteiiponfgjabeaaDoor
