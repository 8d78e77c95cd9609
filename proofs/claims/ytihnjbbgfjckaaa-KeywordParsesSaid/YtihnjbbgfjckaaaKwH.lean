/- Chapter 11: the fixed examples, and the walk of the law KeywordTexts. -/
import Derived.Test.YtihnjbbgfjckaaaKwF
import Derived.Deep.RegionHeld3
import Derived.Deep.DrawnRows
namespace Go.Proofs.Ytihnjbbgfjckaaa
open Go Go.RowKit Cg
attribute [local go_sem ↓] Go.wp_at_zero Go.wp_at_succ
/-- Of what was there when the call began nothing has turned. -/
def Kw (w0 w : World) : Prop := Below w0.heap.size w0 w
theorem Kw.drew {w0 w : World} (h : Kw w0 w) : Kw w0 w.drew := Below.drew h
theorem Kw.step {w0 w w' : World} (h : Kw w0 w) (hb : Below w.heap.size w w') : Kw w0 w' := Below.trans h (hb.mono (Below.size h))
theorem ktext_p {w0 w : World} (hg : Kw w0 w) (n : Int) : Calls Try.prog 29 #[.int .i64 n] w fun e w' => e = .returned (.string (ktext n)) ∧ Kw w0 w' :=
  (text_prog n w).mono fun _ _ ⟨h1, h2⟩ => ⟨h1, hg.step h2⟩
theorem ktext_r {w0 w : World} (hg : Kw w0 w) (n : Int) : Calls Try.prog 30 #[.int .i64 n] w fun e w' => e = .returned (.string (ktext n)) ∧ Kw w0 w' :=
  (text_ref n w).mono fun _ _ ⟨h1, h2⟩ => ⟨h1, hg.step h2⟩
theorem kname_p {w0 w : World} (hg : Kw w0 w) (n : Int) : Calls Try.prog 27 #[.int .i64 n] w fun e w' => e = .returned (.string (knI n)) ∧ Kw w0 w' :=
  (kname_prog n w).mono fun _ _ ⟨h1, h2⟩ => ⟨h1, hg.step h2⟩
theorem kname_r {w0 w : World} (hg : Kw w0 w) (n : Int) : Calls Try.prog 28 #[.int .i64 n] w fun e w' => e = .returned (.string (knI n)) ∧ Kw w0 w' :=
  (kname_ref n w).mono fun _ _ ⟨h1, h2⟩ => ⟨h1, hg.step h2⟩
theorem kis_p {w0 w : World} (hg : Kw w0 w) (n : Int) : Calls Try.prog 25 #[.int .i64 n] w fun e w' => e = .returned (.bool (okK n)) ∧ Kw w0 w' :=
  (kis_prog n w).mono fun _ _ ⟨h1, h2⟩ => ⟨h1, h2 ▸ hg⟩
theorem kis_r {w0 w : World} (hg : Kw w0 w) (n : Int) : Calls Try.prog 26 #[.int .i64 n] w fun e w' => e = .returned (.bool (okK n)) ∧ Kw w0 w' :=
  (kis_ref n w).mono fun _ _ ⟨h1, h2⟩ => ⟨h1, h2 ▸ hg⟩
theorem alive11 {w0 w : World} (hg : Kw w0 w) : Calls Try.prog 31 #[] w fun e w' => e = .returned (.bool true) ∧ Kw w0 w' := by
  have H1 := Lib.hid (show pres ⟨#[102, 108, 121, 105, 110, 103, 43, 104, 97, 115, 116, 101]⟩ = (5, 0) by decide +kernel)
  have H2 := Lib.hid (show ktext 5 = ⟨#[102, 108, 121, 105, 110, 103, 43, 104, 97, 115, 116, 101]⟩ by decide +kernel)
  have H3 := Lib.hid (show ktext 0 = ⟨#[110, 111, 110, 101]⟩ by decide +kernel)
  have H4 := Lib.hid (show knI 16 = ⟨#[109, 117, 115, 116, 45, 97, 116, 116, 97, 99, 107]⟩ by decide +kernel)
  go_enter Try.func31, Try.ntmps31
  go_wp2_with fail
  refine (parse_prog _ (by decide) _).mono ?_
  rintro e w1 ⟨rfl, b1⟩
  have G1 : Kw w0 w1 := hg.step b1
  clear hg b1
  rw [H1.out]
  go_wp2_with (first
    | (go_at_call 29; refine (ktext_p (w0 := w0) (by assumption) _).mono ?_; rintro e w' ⟨rfl, hG⟩; first | rw [H2.out] | rw [H3.out])
    | (go_at_call 27; refine (kname_p (w0 := w0) (by assumption) _).mono ?_; rintro e w' ⟨rfl, hG⟩; rw [H4.out]))
  go_ret
  exact ⟨rfl, by assumption⟩
theorem law_keywordTexts (n : Int) (w : World) : Calls Try.prog 7 #[.int .i64 n] w fun e w' => e = .returned (.bool true) ∧ Below w.heap.size w w' := by
  have G0 : Kw w w := Below.refl _ _
  obtain ⟨o, ho⟩ : ∃ o, okK n = o := ⟨_, rfl⟩
  obtain ⟨a, ha⟩ : ∃ a, knI n = a := ⟨_, rfl⟩
  obtain ⟨t, ht⟩ : ∃ t, ktext n = t := ⟨_, rfl⟩
  have HO := Lib.hid ho
  have HA := Lib.hid ha
  have HT := Lib.hid ht
  clear ho ha ht
  have f1 : (o == o) = true := by simp
  have f2 : (a.toList == a.toList) = true := by simp
  have f3 : (t.toList == t.toList) = true := by simp
  go_enter Try.func7, Try.ntmps7
  go_wp2_with (first
    | (go_at_call 25; refine (kis_p (w0 := w) (by assumption) _).mono ?_; rintro e w' ⟨rfl, hG⟩; rw [HO.out])
    | (go_at_call 26; refine (kis_r (w0 := w) (by assumption) _).mono ?_; rintro e w' ⟨rfl, hG⟩; rw [HO.out])
    | (go_at_call 29; refine (ktext_p (w0 := w) (by assumption) _).mono ?_; rintro e w' ⟨rfl, hG⟩; rw [HT.out])
    | (go_at_call 30; refine (ktext_r (w0 := w) (by assumption) _).mono ?_; rintro e w' ⟨rfl, hG⟩; rw [HT.out])
    | (go_at_call 27; refine (kname_p (w0 := w) (by assumption) _).mono ?_; rintro e w' ⟨rfl, hG⟩; rw [HA.out])
    | (go_at_call 28; refine (kname_r (w0 := w) (by assumption) _).mono ?_; rintro e w' ⟨rfl, hG⟩; rw [HA.out])
    | (go_at_call 31; refine (alive11 (w0 := w) (by assumption)).mono ?_; rintro e w' ⟨rfl, hG⟩))
  go_ret
  exact ⟨rfl, by assumption⟩
end Go.Proofs.Ytihnjbbgfjckaaa
