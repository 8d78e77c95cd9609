/- Chapter 11: the walk of the law KeywordBack. -/
import Derived.Test.YtihnjbbgfjckaaaKwH
namespace Go.Proofs.Ytihnjbbgfjckaaa
open Go Go.RowKit Cg
attribute [local go_sem ↓] Go.wp_at_zero Go.wp_at_succ
theorem ktx_size (m : Nat) : (ktx m).size ≤ 238 := by
  rw [ktx]
  split
  · decide
  · exact kacc_size m 17
theorem ktx_some (m : Nat) : (ktx m).toList.isEmpty = false := by
  rw [ktx]
  split
  · rw [ByteArray.toList_eq]; rfl
  · rename_i h
    rw [Bool.eq_false_iff]
    exact fun e => h ((kacc_empty m 17 (Nat.le_refl _)).1 e)
theorem parse_p {w0 w : World} (hg : Kw w0 w) (s : ByteArray) (hs : s.size ≤ 1000000) : Calls Try.prog 32 #[.string s] w fun e w' => e = .returned (.tuple #[.int .i64 ((pres s).1 : Nat), .int .i64 ((pres s).2 : Nat)]) ∧ Kw w0 w' :=
  (parse_prog s hs w).mono fun _ _ ⟨h1, h2⟩ => ⟨h1, hg.step h2⟩
theorem law_keywordBack (n : Int) (w : World) : Calls Try.prog 9 #[.int .i64 n] w fun e w' => e = .returned (.bool true) ∧ Below w.heap.size w w' := by
  have G0 : Kw w w := Below.refl _ _
  cases ho : okK n
  · have HT := Lib.hid (ktext_not n ho)
    have HP := Lib.hid (show pres ⟨#[]⟩ = (0, 3) by decide +kernel)
    have hc : n < 0 ∨ 131071 < n := by
      by_cases h0 : 0 ≤ n
      · right
        refine Int.not_le.1 fun h => ?_
        rw [(okK_iff n).2 ⟨h0, h⟩] at ho
        cases ho
      · left; omega
    clear ho
    rcases hc with hc | hc
    · go_enter Try.func9, Try.ntmps9
      go_wp2_with (first
        | (go_at_call 29; refine (ktext_p (w0 := w) (by assumption) _).mono ?_; rintro e w' ⟨rfl, hG⟩; rw [HT.out])
        | (go_at_call 32; refine (parse_p (w0 := w) (by assumption) _ (by decide)).mono ?_; rintro e w' ⟨rfl, hG⟩; rw [HP.out])
        | (go_at_call 31; refine (alive11 (w0 := w) (by assumption)).mono ?_; rintro e w' ⟨rfl, hG⟩))
      go_ret
      exact ⟨rfl, by assumption⟩
    · have h0 : (0 : Int) ≤ n := by omega
      go_enter Try.func9, Try.ntmps9
      go_wp2_with (first
        | (go_at_call 29; refine (ktext_p (w0 := w) (by assumption) _).mono ?_; rintro e w' ⟨rfl, hG⟩; rw [HT.out])
        | (go_at_call 32; refine (parse_p (w0 := w) (by assumption) _ (by decide)).mono ?_; rintro e w' ⟨rfl, hG⟩; rw [HP.out])
        | (go_at_call 31; refine (alive11 (w0 := w) (by assumption)).mono ?_; rintro e w' ⟨rfl, hG⟩))
      go_ret
      exact ⟨rfl, by assumption⟩
  · obtain ⟨h0, h1⟩ := (okK_iff n).1 ho
    obtain ⟨m, rfl⟩ := Int.eq_ofNat_of_zero_le h0
    have hm : m < 131072 := by omega
    have hs := ktx_size m
    have hemp := ktx_some m
    have HT := Lib.hid (ktext_ktx m hm)
    have HP := Lib.hid (pres_ktx m hm)
    obtain ⟨t, ht⟩ : ∃ t, ktx m = t := ⟨_, rfl⟩
    rw [ht] at hs hemp HT HP
    clear ht ho
    go_enter Try.func9, Try.ntmps9
    go_wp2_with (first
      | (go_at_call 29; refine (ktext_p (w0 := w) (by assumption) _).mono ?_; rintro e w' ⟨rfl, hG⟩; rw [HT.out])
      | (go_at_call 32; refine (parse_p (w0 := w) (by assumption) _ (by omega)).mono ?_; rintro e w' ⟨rfl, hG⟩; rw [HP.out])
      | (go_at_call 31; refine (alive11 (w0 := w) (by assumption)).mono ?_; rintro e w' ⟨rfl, hG⟩))
    go_ret
    exact ⟨rfl, by assumption⟩
end Go.Proofs.Ytihnjbbgfjckaaa
