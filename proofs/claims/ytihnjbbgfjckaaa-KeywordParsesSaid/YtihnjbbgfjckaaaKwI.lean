/- Chapter 11: the walk of the law KeywordParses. -/
import Derived.Test.YtihnjbbgfjckaaaKwG
import Derived.Test.YtihnjbbgfjckaaaKwH
namespace Go.Proofs.Ytihnjbbgfjckaaa
open Go Go.RowKit Cg
theorem law_keywordParses (s : ByteArray) (w : World) : Calls Try.prog 8 #[.string s] w fun e w' => e = .returned (.bool true) ∧ Below w.heap.size w w' := by
  have G0 : Kw w w := Below.refl _ _
  by_cases hs : s.size ≤ 1000
  · obtain ⟨a, ha⟩ : ∃ a, (pres s).1 = a := ⟨_, rfl⟩
    obtain ⟨b, hb⟩ : ∃ b, (pres s).2 = b := ⟨_, rfl⟩
    have HA := Lib.hid ha
    have HB := Lib.hid hb
    clear ha hb
    go_enter Try.func8, Try.ntmps8
    go_wp2_with fail
    refine (parse_prog s (by omega) _).mono ?_
    rintro e w1 ⟨rfl, b1⟩
    rw [HA.out, HB.out]
    have G1 : Kw w w1 := G0.step b1
    clear G0 b1
    go_wp2_with fail
    refine (parse_ref s (by omega) _).mono ?_
    rintro e w2 ⟨rfl, b2⟩
    rw [HA.out, HB.out]
    have G2 : Kw w w2 := G1.step b2
    clear G1 b2
    go_wp2_with (go_at_call 31; refine (alive11 (w0 := w) (by assumption)).mono ?_; rintro e w' ⟨rfl, hG⟩)
    go_ret
    exact ⟨rfl, by assumption⟩
  · go_enter Try.func8, Try.ntmps8
    go_wp2_with (go_at_call 31; refine (alive11 (w0 := w) (by assumption)).mono ?_; rintro e w' ⟨rfl, hG⟩)
    go_ret
    exact ⟨rfl, by assumption⟩
end Go.Proofs.Ytihnjbbgfjckaaa
