/- Chapter 11: the walk of the law KeywordHas. -/
import Derived.Test.YtihnjbbgfjckaaaKwH
import Derived.Test.YtihnjbbgfjckaaaBit
namespace Go.Proofs.Ytihnjbbgfjckaaa
open Go Go.RowKit Cg
/-- The law's flag after i rounds. -/
def hk (m k : Int) : Nat → Bool
  | 0 => true
  | i + 1 => hk m k i && (decide (k / 2 ^ i % 2 = 0) || decide (m / 2 ^ i % 2 = 1))
theorem hk_off (m k : Int) (i : Nat) (h : hk m k i = false) : hk m k (i + 1) = false := by rw [hk, h]; rfl
theorem hk_zero (m k : Int) (i : Nat) (h : hk m k i = true) (h2 : k / 2 ^ i % 2 = 0) : hk m k (i + 1) = true := by rw [hk, h, decide_eq_true h2]; rfl
theorem hk_one (m k : Int) (i : Nat) (h : hk m k i = true) (h2 : m / 2 ^ i % 2 = 1) : hk m k (i + 1) = true := by rw [hk, h, decide_eq_true h2]; simp
theorem hk_not (m k : Int) (i : Nat) (h1 : ¬ k / 2 ^ i % 2 = 0) (h2 : ¬ m / 2 ^ i % 2 = 1) : hk m k (i + 1) = false := by rw [hk, decide_eq_false h1, decide_eq_false h2]; simp
theorem hk_all (m k : Int) : ∀ n, hk m k n = true ↔ ∀ i, i < n → k / 2 ^ i % 2 = 0 ∨ m / 2 ^ i % 2 = 1
  | 0 => by simp [hk]
  | n + 1 => by
    rw [hk, Bool.and_eq_true, hk_all m k n, Bool.or_eq_true, decide_eq_true_eq, decide_eq_true_eq]
    constructor
    · rintro ⟨h1, h2⟩ i hi
      by_cases e : i = n
      · rw [e]; exact h2
      · exact h1 i (by omega)
    · exact fun h => ⟨fun i hi => h i (by omega), h n (by omega)⟩
theorem has_eq (m k : Int) (m1 : -9223372036854775808 ≤ m) (m2 : m ≤ 9223372036854775807) (k1 : -9223372036854775808 ≤ k) (k2 : k ≤ 9223372036854775807) (r : Bool)
    (h : (hk m k 63 && (decide (0 ≤ k) || decide (m < 0))) = r) : (bits .and .i64 m k == k) = r := by
  rw [← h, Bool.eq_iff_iff, beq_iff_eq, bits_has m k m1 m2 k1 k2, Bool.and_eq_true, hk_all, Bool.or_eq_true, decide_eq_true_eq, decide_eq_true_eq]
theorem khas_p {w0 w : World} (hg : Kw w0 w) (m n : Int) : Calls Try.prog 34 #[.int .i64 m, .int .i64 n] w fun e w' => e = .returned (.bool (bits .and .i64 m n == n)) ∧ Kw w0 w' :=
  (khas_prog m n w).mono fun _ _ ⟨h1, h2⟩ => ⟨h1, h2 ▸ hg⟩
theorem khas_r {w0 w : World} (hg : Kw w0 w) (m n : Int) : Calls Try.prog 35 #[.int .i64 m, .int .i64 n] w fun e w' => e = .returned (.bool (bits .and .i64 m n == n)) ∧ Kw w0 w' :=
  (khas_ref m n w).mono fun _ _ ⟨h1, h2⟩ => ⟨h1, h2 ▸ hg⟩
set_option maxHeartbeats 1000000 in
theorem law_keywordHas (m k : Int) (m1 : -9223372036854775808 ≤ m) (m2 : m ≤ 9223372036854775807) (k1 : -9223372036854775808 ≤ k) (k2 : k ≤ 9223372036854775807) (w : World) :
    Calls Try.prog 10 #[.int .i64 m, .int .i64 k] w fun e w' => e = .returned (.bool true) ∧ Below w.heap.size w w' := by
  have G0 : Kw w w := Below.refl _ _
  have HE := Lib.hid (has_eq m k m1 m2 k1 k2)
  clear m1 m2 k1 k2
  go_enter Try.func10, Try.ntmps10
  go_wp2_with fail
  go_loop [5, 7] (fun a i => ∃ j : Nat, j ≤ 63 ∧ i = .int .i64 j ∧ a = .bool (hk m k j)) (fun _ i => 63 - (intOf i).toNat)
  case atStart => exact ⟨0, by omega, rfl, rfl⟩
  case round =>
    obtain ⟨j, hj, rfl, rfl⟩ := hrel
    by_cases hlt : j < 63
    · cases ha : hk m k j
      · have HH := Lib.hid (hk_off m k j ha)
        clear ha
        go_wp2_with fail
        go_round
        case rel => exact ⟨j + 1, by omega, by go_num, by rw [HH.out]⟩
        case measure => simp [intOf]; omega
      · obtain ⟨q, hq⟩ : ∃ q, k / 2 ^ j = q := ⟨_, rfl⟩
        obtain ⟨p, hp⟩ : ∃ p, m / 2 ^ j = p := ⟨_, rfl⟩
        by_cases hz : q % 2 = 0
        · have HH := Lib.hid (hk_zero m k j ha (by rw [hq]; exact hz))
          have hand : bits .and .i64 q 1 = 0 := by rw [bits_and_one, hz]
          clear ha hz hp
          go_wp2_with fail
          go_round
          case rel => exact ⟨j + 1, by omega, by go_num, by rw [HH.out]⟩
          case measure => simp [intOf]; omega
        · have hand : bits .and .i64 q 1 = 1 := by rw [bits_and_one]; omega
          by_cases h1 : p % 2 = 1
          · have HH := Lib.hid (hk_one m k j ha (by rw [hp]; exact h1))
            have hand2 : bits .and .i64 p 1 = 1 := by rw [bits_and_one, h1]
            clear ha hz h1
            go_wp2_with fail
            go_round
            case rel => exact ⟨j + 1, by omega, by go_num, by rw [HH.out]⟩
            case measure => simp [intOf]; omega
          · have HH := Lib.hid (hk_not m k j (by rw [hq]; exact hz) (by rw [hp]; exact h1))
            have hand2 : bits .and .i64 p 1 = 0 := by rw [bits_and_one]; omega
            clear ha hz h1
            go_wp2_with fail
            go_round
            case rel => exact ⟨j + 1, by omega, by go_num, by rw [HH.out]⟩
            case measure => simp [intOf]; omega
    · obtain rfl : j = 63 := by omega
      clear hlt hj
      cases ha : hk m k 63
      · have HB := Lib.hid (HE.out false (by rw [ha]; rfl))
        clear ha
        go_wp2_with (first
          | (go_at_call 34; refine (khas_p (w0 := w) (by assumption) _ _).mono ?_; rintro e w' ⟨rfl, hG⟩; rw [HB.out])
          | (go_at_call 35; refine (khas_r (w0 := w) (by assumption) _ _).mono ?_; rintro e w' ⟨rfl, hG⟩; rw [HB.out])
          | (go_at_call 31; refine (alive11 (w0 := w) (by assumption)).mono ?_; rintro e w' ⟨rfl, hG⟩))
        go_ret
        exact ⟨rfl, by assumption⟩
      · by_cases hk0 : 0 ≤ k
        · have HB := Lib.hid (HE.out true (by rw [ha, decide_eq_true hk0]; rfl))
          clear ha
          go_wp2_with (first
            | (go_at_call 34; refine (khas_p (w0 := w) (by assumption) _ _).mono ?_; rintro e w' ⟨rfl, hG⟩; rw [HB.out])
            | (go_at_call 35; refine (khas_r (w0 := w) (by assumption) _ _).mono ?_; rintro e w' ⟨rfl, hG⟩; rw [HB.out])
            | (go_at_call 31; refine (alive11 (w0 := w) (by assumption)).mono ?_; rintro e w' ⟨rfl, hG⟩))
          go_ret
          exact ⟨rfl, by assumption⟩
        · have hkn : k < 0 := by omega
          by_cases hm0 : m < 0
          · have HB := Lib.hid (HE.out true (by rw [ha, decide_eq_true hm0]; simp))
            clear ha
            go_wp2_with (first
              | (go_at_call 34; refine (khas_p (w0 := w) (by assumption) _ _).mono ?_; rintro e w' ⟨rfl, hG⟩; rw [HB.out])
              | (go_at_call 35; refine (khas_r (w0 := w) (by assumption) _ _).mono ?_; rintro e w' ⟨rfl, hG⟩; rw [HB.out])
              | (go_at_call 31; refine (alive11 (w0 := w) (by assumption)).mono ?_; rintro e w' ⟨rfl, hG⟩))
            go_ret
            exact ⟨rfl, by assumption⟩
          · have HB := Lib.hid (HE.out false (by rw [ha, decide_eq_false hm0, decide_eq_false hk0]; rfl))
            have d1 : decide (0 ≤ k) = false := decide_eq_false hk0
            have d2 : decide (m < 0) = false := decide_eq_false hm0
            clear ha
            go_wp2_with (first
              | (go_at_call 34; refine (khas_p (w0 := w) (by assumption) _ _).mono ?_; rintro e w' ⟨rfl, hG⟩; rw [HB.out])
              | (go_at_call 35; refine (khas_r (w0 := w) (by assumption) _ _).mono ?_; rintro e w' ⟨rfl, hG⟩; rw [HB.out])
              | (go_at_call 31; refine (alive11 (w0 := w) (by assumption)).mono ?_; rintro e w' ⟨rfl, hG⟩))
            go_ret
            exact ⟨rfl, by assumption⟩
end Go.Proofs.Ytihnjbbgfjckaaa
