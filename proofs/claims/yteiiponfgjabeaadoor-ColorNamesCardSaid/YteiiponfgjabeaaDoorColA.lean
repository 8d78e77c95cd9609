/- The functions of the reference (chapter 09) compute what the Lean functions of this text say. -/
import Derived.Test.YteiiponfgjabeaaDoorProg
import Derived.Test.YteiiponfgjabeaaDoorBase
import Derived.WalkKit
import Derived.WalkLawsBesides
import Derived.WalkSpells
import Derived.Lib.Hide
namespace Go.Proofs.YteiiponfgjabeaaDoor
open Go Go.RowKit Cg
def okMask (n : Int) : Bool := decide (0 ≤ n) && decide (n ≤ 31)
def nm : Nat → ByteArray
  | 0 => ⟨#[97, 109, 98, 101, 114]⟩
  | 1 => ⟨#[99, 111, 98, 97, 108, 116]⟩
  | 2 => ⟨#[106, 101, 116]⟩
  | 3 => ⟨#[114, 117, 98, 121]⟩
  | 4 => ⟨#[101, 109, 101, 114, 97, 108, 100]⟩
  | _ => ⟨#[]⟩
def nmI (n : Int) : ByteArray := if 0 ≤ n then nm n.toNat else ⟨#[]⟩
/-- The text of a mask, by the reference's own loop: after k rounds. -/
def acc (n : Nat) : Nat → ByteArray
  | 0 => ⟨#[]⟩
  | k + 1 => if n / 2 ^ k % 2 = 1 then (if (acc n k).toList.isEmpty then acc n k ++ nm k else acc n k ++ ⟨#[43]⟩ ++ nm k) else acc n k
def cnt (n : Nat) : Nat → Nat
  | 0 => 0
  | k + 1 => cnt n k + n / 2 ^ k % 2
def txtN (n : Nat) : ByteArray := if n = 0 then ⟨#[110, 111, 110, 101]⟩ else acc n 5
def txt (n : Int) : ByteArray := if okMask n then txtN n.toNat else ⟨#[]⟩
def cntI (n : Int) : Int := if okMask n then cnt n.toNat 5 else 0
theorem acc_small : ∀ n, n < 32 → ∀ k, k < 6 → (acc n k).size ≤ 100 := by decide +kernel
theorem acc_hit (n k : Nat) (h : n / 2 ^ k % 2 = 1) (he : (acc n k).toList.isEmpty = true) : acc n (k + 1) = acc n k ++ nm k := by
  rw [acc, if_pos h, if_pos he]
theorem acc_more (n k : Nat) (h : n / 2 ^ k % 2 = 1) (he : (acc n k).toList.isEmpty = false) : acc n (k + 1) = acc n k ++ ⟨#[43]⟩ ++ nm k := by
  rw [acc, if_pos h, if_neg (by simp [he])]
theorem acc_miss (n k : Nat) (h : ¬ n / 2 ^ k % 2 = 1) : acc n (k + 1) = acc n k := by
  rw [acc, if_neg h]
theorem cnt_small (n : Nat) : ∀ k, cnt n k ≤ k
  | 0 => Nat.le_refl _
  | k + 1 => by
    have := cnt_small n k
    rw [cnt]
    omega
theorem cnt_hit (n k : Nat) (h : n / 2 ^ k % 2 = 1) : cnt n (k + 1) = cnt n k + 1 := by rw [cnt, h]
theorem cnt_miss (n k : Nat) (h : ¬ n / 2 ^ k % 2 = 1) : cnt n (k + 1) = cnt n k := by rw [cnt]; omega
theorem nmI_of (k : Nat) : nmI (k : Int) = nm k := by unfold nmI; rw [if_pos (by omega)]; rfl
theorem nm_small (k : Nat) : (nm k).size ≤ 7 := by unfold nm; split <;> decide
theorem nmI_small (k : Int) : (nmI k).size ≤ 7 := by unfold nmI; split; exact nm_small _; decide
theorem is_ref (n : Int) (w : World) : Calls Tryd.prog 9 #[.int .i64 n] w fun e w' => e = .returned (.bool (okMask n)) ∧ w = w' := by
  by_cases h : 0 ≤ n
  · by_cases h2 : n ≤ 31
    · go_enter Tryd.func9, Tryd.ntmps9
      go_wp2
      go_ret
      exact ⟨by simp [okMask, h, h2], rfl⟩
    · go_enter Tryd.func9, Tryd.ntmps9
      go_wp2
      go_ret
      exact ⟨by simp [okMask, h, h2], rfl⟩
  · have e : okMask n = false := by simp [okMask, h]
    rw [e]
    go_enter Tryd.func9, Tryd.ntmps9
    go_wp2
    go_ret
    exact ⟨rfl, rfl⟩
theorem is_prog (n : Int) (w : World) : Calls Tryd.prog 8 #[.int .i64 n] w fun e w' => e = .returned (.bool (okMask n)) ∧ w = w' := by
  by_cases h : 0 ≤ n
  · by_cases h2 : n ≤ 31
    · go_enter Tryd.func8, Tryd.ntmps8
      go_wp2
      go_ret
      exact ⟨by simp [okMask, h, h2], rfl⟩
    · go_enter Tryd.func8, Tryd.ntmps8
      go_wp2
      go_ret
      exact ⟨by simp [okMask, h, h2], rfl⟩
  · have e : okMask n = false := by simp [okMask, h]
    rw [e]
    go_enter Tryd.func8, Tryd.ntmps8
    go_wp2
    go_ret
    exact ⟨rfl, rfl⟩
theorem nmI_out (n : Int) (h : n < 0 ∨ 5 ≤ n) : nmI n = ⟨#[]⟩ := by
  unfold nmI
  split
  · obtain ⟨k, hk⟩ : ∃ k, n.toNat = k + 5 := ⟨n.toNat - 5, by omega⟩
    rw [hk]; rfl
  · rfl
theorem name_ref (n : Int) (w : World)  : Calls Tryd.prog 11 #[.int .i64 n] w fun e w' => e = .returned (.string (nmI n)) ∧ w = w' := by
  by_cases h0 : n = 0
  · subst h0; go_enter Tryd.func11, Tryd.ntmps11; go_wp2; go_ret; exact ⟨rfl, rfl⟩
  by_cases h1 : n = 1
  · subst h1; go_enter Tryd.func11, Tryd.ntmps11; go_wp2; go_ret; exact ⟨rfl, rfl⟩
  by_cases h2 : n = 2
  · subst h2; go_enter Tryd.func11, Tryd.ntmps11; go_wp2; go_ret; exact ⟨rfl, rfl⟩
  by_cases h3 : n = 3
  · subst h3; go_enter Tryd.func11, Tryd.ntmps11; go_wp2; go_ret; exact ⟨rfl, rfl⟩
  by_cases h4 : n = 4
  · subst h4; go_enter Tryd.func11, Tryd.ntmps11; go_wp2; go_ret; exact ⟨rfl, rfl⟩
  rw [nmI_out n (by omega)]
  have b0 := beq_eq_false_iff_ne.2 h0
  have b1 := beq_eq_false_iff_ne.2 h1
  have b2 := beq_eq_false_iff_ne.2 h2
  have b3 := beq_eq_false_iff_ne.2 h3
  have b4 := beq_eq_false_iff_ne.2 h4
  clear h0 h1 h2 h3 h4
  go_enter Tryd.func11, Tryd.ntmps11
  go_wp2
  go_ret
  exact ⟨rfl, rfl⟩
theorem text_ref_in (n : Nat) (hn : n ≤ 31) (w : World) : Calls Tryd.prog 16 #[.int .i64 n] w fun e w' => e = .returned (.string (txtN n)) ∧ w = w' := by
  have ho : okMask n = true := by simp [okMask]; omega
  have HO := Lib.hid ho
  clear ho
  by_cases h0 : n = 0
  · subst h0
    go_enter Tryd.func16, Tryd.ntmps16
    go_wp2_with (go_at_call 9; refine (is_ref _ _).mono ?_; rintro e w' ⟨rfl, rfl⟩; rw [show okMask (0 : Int) = true from rfl])
    go_ret
    exact ⟨rfl, rfl⟩
  have hb : ((n : Int) == 0) = false := beq_eq_false_iff_ne.2 (by omega)
  unfold txtN
  rw [if_neg h0]
  clear h0
  go_enter Tryd.func16, Tryd.ntmps16
  go_wp2_with (go_at_call 9; refine (is_ref _ _).mono ?_; rintro e w' ⟨rfl, rfl⟩; rw [HO.out])
  go_loop [3, 4] (fun s i => ∃ k : Nat, k ≤ 5 ∧ i = .int .i64 k ∧ s = .string (acc n k)) (fun _ i => 5 - (intOf i).toNat)
  case atStart => exact ⟨0, by omega, rfl, rfl⟩
  case round =>
    obtain ⟨k, hk, rfl, rfl⟩ := hrel
    by_cases hlt : k < 5
    · have hsz := acc_small n (by omega) k (by omega)
      have H1 := Lib.hid (acc_hit n k)
      have H2 := Lib.hid (acc_more n k)
      have H3 := Lib.hid (acc_miss n k)
      obtain ⟨s, hs⟩ : ∃ s, s = acc n k := ⟨_, rfl⟩
      rw [← hs] at hsz H1 H2 H3 ⊢
      have hnm := nmI_small (k : Int)
      have HN := Lib.hid (nmI_of k)
      clear hs
      rcases (show k = 0 ∨ k = 1 ∨ k = 2 ∨ k = 3 ∨ k = 4 by omega) with rfl | rfl | rfl | rfl | rfl
      all_goals simp only [Int.cast_ofNat_Int] at hnm
      · have e0 : ((n : Int) / 1 % 2) = ((n / 2 ^ 0 % 2 : Nat) : Int) := by simp
        by_cases hb1 : n / 2 ^ 0 % 2 = 1
        · have t1 : ((n : Int) % 2 == 1) = true := by rw [beq_iff_eq]; omega
          clear e0
          by_cases he : s.toList.isEmpty = true
          · have t2 : (!s.toList.isEmpty) = false := by simp [he]
            have H := Lib.hid (H1.out hb1 he)
            clear hb1 he
            go_wp2_with (go_at_call 11; refine (name_ref _ _).mono ?_; rintro e w' ⟨rfl, rfl⟩)
            go_round
            case rel => exact ⟨0 + 1, by omega, rfl, str_eq (by rw [H.out]; rfl)⟩
            case measure => simp [intOf]
          · have he' : s.toList.isEmpty = false := by simpa using he
            have t2 : (!s.toList.isEmpty) = true := by rw [he']; rfl
            have H := Lib.hid (H2.out hb1 he')
            clear hb1 he he'
            go_wp2_with (go_at_call 11; refine (name_ref _ _).mono ?_; rintro e w' ⟨rfl, rfl⟩)
            go_round
            case rel => exact ⟨0 + 1, by omega, rfl, str_eq (by rw [H.out]; rfl)⟩
            case measure => simp [intOf]
        · have t1 : ((n : Int) % 2 == 1) = false := by rw [beq_eq_false_iff_ne]; omega
          have H := Lib.hid (H3.out hb1)
          clear e0 hb1
          go_wp2
          go_round
          case rel => exact ⟨0 + 1, by omega, rfl, str_eq (by rw [H.out])⟩
          case measure => simp [intOf]
      · have e0 : ((n : Int) / 2 % 2) = ((n / 2 ^ 1 % 2 : Nat) : Int) := by simp
        by_cases hb1 : n / 2 ^ 1 % 2 = 1
        · have t1 : ((n : Int) / 2 % 2 == 1) = true := by rw [beq_iff_eq]; omega
          clear e0
          by_cases he : s.toList.isEmpty = true
          · have t2 : (!s.toList.isEmpty) = false := by simp [he]
            have H := Lib.hid (H1.out hb1 he)
            clear hb1 he
            go_wp2_with (go_at_call 11; refine (name_ref _ _).mono ?_; rintro e w' ⟨rfl, rfl⟩)
            go_round
            case rel => exact ⟨1 + 1, by omega, rfl, str_eq (by rw [H.out]; rfl)⟩
            case measure => simp [intOf]
          · have he' : s.toList.isEmpty = false := by simpa using he
            have t2 : (!s.toList.isEmpty) = true := by rw [he']; rfl
            have H := Lib.hid (H2.out hb1 he')
            clear hb1 he he'
            go_wp2_with (go_at_call 11; refine (name_ref _ _).mono ?_; rintro e w' ⟨rfl, rfl⟩)
            go_round
            case rel => exact ⟨1 + 1, by omega, rfl, str_eq (by rw [H.out]; rfl)⟩
            case measure => simp [intOf]
        · have t1 : ((n : Int) / 2 % 2 == 1) = false := by rw [beq_eq_false_iff_ne]; omega
          have H := Lib.hid (H3.out hb1)
          clear e0 hb1
          go_wp2
          go_round
          case rel => exact ⟨1 + 1, by omega, rfl, str_eq (by rw [H.out])⟩
          case measure => simp [intOf]
      · have e0 : ((n : Int) / 4 % 2) = ((n / 2 ^ 2 % 2 : Nat) : Int) := by simp
        by_cases hb1 : n / 2 ^ 2 % 2 = 1
        · have t1 : ((n : Int) / 4 % 2 == 1) = true := by rw [beq_iff_eq]; omega
          clear e0
          by_cases he : s.toList.isEmpty = true
          · have t2 : (!s.toList.isEmpty) = false := by simp [he]
            have H := Lib.hid (H1.out hb1 he)
            clear hb1 he
            go_wp2_with (go_at_call 11; refine (name_ref _ _).mono ?_; rintro e w' ⟨rfl, rfl⟩)
            go_round
            case rel => exact ⟨2 + 1, by omega, rfl, str_eq (by rw [H.out]; rfl)⟩
            case measure => simp [intOf]
          · have he' : s.toList.isEmpty = false := by simpa using he
            have t2 : (!s.toList.isEmpty) = true := by rw [he']; rfl
            have H := Lib.hid (H2.out hb1 he')
            clear hb1 he he'
            go_wp2_with (go_at_call 11; refine (name_ref _ _).mono ?_; rintro e w' ⟨rfl, rfl⟩)
            go_round
            case rel => exact ⟨2 + 1, by omega, rfl, str_eq (by rw [H.out]; rfl)⟩
            case measure => simp [intOf]
        · have t1 : ((n : Int) / 4 % 2 == 1) = false := by rw [beq_eq_false_iff_ne]; omega
          have H := Lib.hid (H3.out hb1)
          clear e0 hb1
          go_wp2
          go_round
          case rel => exact ⟨2 + 1, by omega, rfl, str_eq (by rw [H.out])⟩
          case measure => simp [intOf]
      · have e0 : ((n : Int) / 8 % 2) = ((n / 2 ^ 3 % 2 : Nat) : Int) := by simp
        by_cases hb1 : n / 2 ^ 3 % 2 = 1
        · have t1 : ((n : Int) / 8 % 2 == 1) = true := by rw [beq_iff_eq]; omega
          clear e0
          by_cases he : s.toList.isEmpty = true
          · have t2 : (!s.toList.isEmpty) = false := by simp [he]
            have H := Lib.hid (H1.out hb1 he)
            clear hb1 he
            go_wp2_with (go_at_call 11; refine (name_ref _ _).mono ?_; rintro e w' ⟨rfl, rfl⟩)
            go_round
            case rel => exact ⟨3 + 1, by omega, rfl, str_eq (by rw [H.out]; rfl)⟩
            case measure => simp [intOf]
          · have he' : s.toList.isEmpty = false := by simpa using he
            have t2 : (!s.toList.isEmpty) = true := by rw [he']; rfl
            have H := Lib.hid (H2.out hb1 he')
            clear hb1 he he'
            go_wp2_with (go_at_call 11; refine (name_ref _ _).mono ?_; rintro e w' ⟨rfl, rfl⟩)
            go_round
            case rel => exact ⟨3 + 1, by omega, rfl, str_eq (by rw [H.out]; rfl)⟩
            case measure => simp [intOf]
        · have t1 : ((n : Int) / 8 % 2 == 1) = false := by rw [beq_eq_false_iff_ne]; omega
          have H := Lib.hid (H3.out hb1)
          clear e0 hb1
          go_wp2
          go_round
          case rel => exact ⟨3 + 1, by omega, rfl, str_eq (by rw [H.out])⟩
          case measure => simp [intOf]
      · have e0 : ((n : Int) / 16 % 2) = ((n / 2 ^ 4 % 2 : Nat) : Int) := by simp
        by_cases hb1 : n / 2 ^ 4 % 2 = 1
        · have t1 : ((n : Int) / 16 % 2 == 1) = true := by rw [beq_iff_eq]; omega
          clear e0
          by_cases he : s.toList.isEmpty = true
          · have t2 : (!s.toList.isEmpty) = false := by simp [he]
            have H := Lib.hid (H1.out hb1 he)
            clear hb1 he
            go_wp2_with (go_at_call 11; refine (name_ref _ _).mono ?_; rintro e w' ⟨rfl, rfl⟩)
            go_round
            case rel => exact ⟨4 + 1, by omega, rfl, str_eq (by rw [H.out]; rfl)⟩
            case measure => simp [intOf]
          · have he' : s.toList.isEmpty = false := by simpa using he
            have t2 : (!s.toList.isEmpty) = true := by rw [he']; rfl
            have H := Lib.hid (H2.out hb1 he')
            clear hb1 he he'
            go_wp2_with (go_at_call 11; refine (name_ref _ _).mono ?_; rintro e w' ⟨rfl, rfl⟩)
            go_round
            case rel => exact ⟨4 + 1, by omega, rfl, str_eq (by rw [H.out]; rfl)⟩
            case measure => simp [intOf]
        · have t1 : ((n : Int) / 16 % 2 == 1) = false := by rw [beq_eq_false_iff_ne]; omega
          have H := Lib.hid (H3.out hb1)
          clear e0 hb1
          go_wp2
          go_round
          case rel => exact ⟨4 + 1, by omega, rfl, str_eq (by rw [H.out])⟩
          case measure => simp [intOf]
    · obtain rfl : k = 5 := by omega
      go_wp2
      go_ret
      exact ⟨rfl, rfl⟩
theorem text_ref (n : Int) (w : World) : Calls Tryd.prog 16 #[.int .i64 n] w fun e w' => e = .returned (.string (txt n)) ∧ w = w' := by
  cases ho : okMask n
  · have e : txt n = ⟨#[]⟩ := by rw [txt, ho]; rfl
    rw [e]
    have HO := Lib.hid ho
    clear ho e
    go_enter Tryd.func16, Tryd.ntmps16
    go_wp2_with (go_at_call 9; refine (is_ref _ _).mono ?_; rintro e w' ⟨rfl, rfl⟩; rw [HO.out])
    go_ret
    exact ⟨rfl, rfl⟩
  · have e : txt n = txtN n.toNat := by rw [txt, ho]; rfl
    have hb : 0 ≤ n ∧ n ≤ 31 := by simpa [okMask] using ho
    obtain ⟨k, rfl⟩ := Int.eq_ofNat_of_zero_le hb.1
    rw [e]
    exact text_ref_in k (by omega) w
/-- The mask with a text: the first one, and the error's number. -/
def prs (s : ByteArray) : Nat × Nat := match (List.range 32).find? (fun m => decide (txtN m = s)) with
  | some m => (m, 0)
  | none => (0, 3)
theorem prs_some (s : ByteArray) (m : Nat) (hm : m < 32) (h : txtN m = s) (hl : ∀ k, k < m → txtN k ≠ s) : prs s = (m, 0) := by
  have : (List.range 32).find? (fun m => decide (txtN m = s)) = some m := by
    rw [List.find?_range_eq_some]
    exact ⟨by simpa using h, by simpa using hm, fun j hj => by simpa using hl j hj⟩
  rw [prs, this]
theorem prs_none (s : ByteArray) (hl : ∀ k, k < 32 → txtN k ≠ s) : prs s = (0, 3) := by
  have : (List.range 32).find? (fun m => decide (txtN m = s)) = none := by
    rw [List.find?_eq_none]
    intro x hx
    simpa using hl x (by simpa using hx)
  rw [prs, this]
theorem txt_nat (k : Nat) (hk : k < 32) : txt (k : Int) = txtN k := by
  have ho : okMask (k : Int) = true := by simp [okMask]; omega
  rw [txt, ho]; rfl
def NoneBelow (s : ByteArray) (k : Nat) : Prop := ∀ m, m < k → txtN m ≠ s
theorem NoneBelow.step {s : ByteArray} {k : Nat} (h : NoneBelow s k) (h2 : txtN k ≠ s) : NoneBelow s (k + 1) := fun m hm => by
  by_cases e : m = k
  · rw [e]; exact h2
  · exact h m (by omega)
theorem parse_ref (s : ByteArray) (w : World) : Calls Tryd.prog 18 #[.string s] w fun e w' => e = .returned (.tuple #[.int .i64 (prs s).1, .int .i64 (prs s).2]) ∧ w = w' := by
  go_enter Tryd.func18, Tryd.ntmps18
  go_wp2
  go_loop [4] (fun i => ∃ k : Nat, k ≤ 32 ∧ i = .int .i64 k ∧ NoneBelow s k) (fun i => 32 - (intOf i).toNat)
  case atStart => exact ⟨0, by omega, rfl, fun m hm => by omega⟩
  case round =>
    obtain ⟨k, hk, rfl, hno⟩ := hrel
    by_cases hlt : k < 32
    · have HT := Lib.hid (txt_nat k hlt)
      by_cases he : txtN k = s
      · have hp := Lib.hid (prs_some s k hlt he hno)
        have t1 : ((txtN k).toList == s.toList) = true := same_list.2 he
        clear he
        go_wp2_with (go_at_call 16; refine (text_ref _ _).mono ?_; rintro e w' ⟨rfl, rfl⟩; rw [HT.out])
        go_ret2
        exact ⟨by rw [hp.out]; rfl, rfl⟩
      · have t1 : ((txtN k).toList == s.toList) = false := same_false he
        have hs := hno.step he
        clear he
        go_wp2_with (go_at_call 16; refine (text_ref _ _).mono ?_; rintro e w' ⟨rfl, rfl⟩; rw [HT.out])
        go_round
        case rel => exact ⟨k + 1, by omega, by go_num, hs⟩
        case measure => simp [intOf]; omega
    · obtain rfl : k = 32 := by omega
      have hp := Lib.hid (prs_none s hno)
      go_wp2
      go_ret2
      exact ⟨by rw [hp.out]; rfl, rfl⟩
theorem count_ref_in (n : Nat) (hn : n ≤ 31) (w : World) : Calls Tryd.prog 13 #[.int .i64 n] w fun e w' => e = .returned (.int .i64 (cnt n 5)) ∧ w = w' := by
  have ho : okMask n = true := by simp [okMask]; omega
  have HO := Lib.hid ho
  clear ho
  go_enter Tryd.func13, Tryd.ntmps13
  go_wp2
  go_loop [3, 4] (fun c i => ∃ k : Nat, k ≤ 5 ∧ i = .int .i64 k ∧ c = .int .i64 (cnt n k)) (fun _ i => 5 - (intOf i).toNat)
  case atStart => exact ⟨0, by omega, rfl, rfl⟩
  case round =>
    obtain ⟨k, hk, rfl, rfl⟩ := hrel
    by_cases hlt : k < 5
    · have hsz := cnt_small n k
      have H1 := Lib.hid (cnt_hit n k)
      have H2 := Lib.hid (cnt_miss n k)
      obtain ⟨c, hc⟩ : ∃ c, c = cnt n k := ⟨_, rfl⟩
      rw [← hc] at hsz H1 H2 ⊢
      clear hc
      rcases (show k = 0 ∨ k = 1 ∨ k = 2 ∨ k = 3 ∨ k = 4 by omega) with rfl | rfl | rfl | rfl | rfl
      · have e0 : ((n : Int) / 1 % 2) = ((n / 2 ^ 0 % 2 : Nat) : Int) := by simp
        by_cases hb1 : n / 2 ^ 0 % 2 = 1
        · have t1 : ((n : Int) % 2 == 1) = true := by rw [beq_iff_eq]; omega
          have H := Lib.hid (H1.out hb1)
          clear e0 hb1
          go_wp2_with (go_at_call 9; refine (is_ref _ _).mono ?_; rintro e w' ⟨rfl, rfl⟩; rw [HO.out])
          go_round
          case rel => exact ⟨0 + 1, by omega, rfl, int_eq (by rw [H.out]; rfl)⟩
          case measure => simp [intOf]
        · have t1 : ((n : Int) % 2 == 1) = false := by rw [beq_eq_false_iff_ne]; omega
          have H := Lib.hid (H2.out hb1)
          clear e0 hb1
          go_wp2_with (go_at_call 9; refine (is_ref _ _).mono ?_; rintro e w' ⟨rfl, rfl⟩; rw [HO.out])
          go_round
          case rel => exact ⟨0 + 1, by omega, rfl, int_eq (by rw [H.out])⟩
          case measure => simp [intOf]
      · have e0 : ((n : Int) / 2 % 2) = ((n / 2 ^ 1 % 2 : Nat) : Int) := by simp
        by_cases hb1 : n / 2 ^ 1 % 2 = 1
        · have t1 : ((n : Int) / 2 % 2 == 1) = true := by rw [beq_iff_eq]; omega
          have H := Lib.hid (H1.out hb1)
          clear e0 hb1
          go_wp2_with (go_at_call 9; refine (is_ref _ _).mono ?_; rintro e w' ⟨rfl, rfl⟩; rw [HO.out])
          go_round
          case rel => exact ⟨1 + 1, by omega, rfl, int_eq (by rw [H.out]; rfl)⟩
          case measure => simp [intOf]
        · have t1 : ((n : Int) / 2 % 2 == 1) = false := by rw [beq_eq_false_iff_ne]; omega
          have H := Lib.hid (H2.out hb1)
          clear e0 hb1
          go_wp2_with (go_at_call 9; refine (is_ref _ _).mono ?_; rintro e w' ⟨rfl, rfl⟩; rw [HO.out])
          go_round
          case rel => exact ⟨1 + 1, by omega, rfl, int_eq (by rw [H.out])⟩
          case measure => simp [intOf]
      · have e0 : ((n : Int) / 4 % 2) = ((n / 2 ^ 2 % 2 : Nat) : Int) := by simp
        by_cases hb1 : n / 2 ^ 2 % 2 = 1
        · have t1 : ((n : Int) / 4 % 2 == 1) = true := by rw [beq_iff_eq]; omega
          have H := Lib.hid (H1.out hb1)
          clear e0 hb1
          go_wp2_with (go_at_call 9; refine (is_ref _ _).mono ?_; rintro e w' ⟨rfl, rfl⟩; rw [HO.out])
          go_round
          case rel => exact ⟨2 + 1, by omega, rfl, int_eq (by rw [H.out]; rfl)⟩
          case measure => simp [intOf]
        · have t1 : ((n : Int) / 4 % 2 == 1) = false := by rw [beq_eq_false_iff_ne]; omega
          have H := Lib.hid (H2.out hb1)
          clear e0 hb1
          go_wp2_with (go_at_call 9; refine (is_ref _ _).mono ?_; rintro e w' ⟨rfl, rfl⟩; rw [HO.out])
          go_round
          case rel => exact ⟨2 + 1, by omega, rfl, int_eq (by rw [H.out])⟩
          case measure => simp [intOf]
      · have e0 : ((n : Int) / 8 % 2) = ((n / 2 ^ 3 % 2 : Nat) : Int) := by simp
        by_cases hb1 : n / 2 ^ 3 % 2 = 1
        · have t1 : ((n : Int) / 8 % 2 == 1) = true := by rw [beq_iff_eq]; omega
          have H := Lib.hid (H1.out hb1)
          clear e0 hb1
          go_wp2_with (go_at_call 9; refine (is_ref _ _).mono ?_; rintro e w' ⟨rfl, rfl⟩; rw [HO.out])
          go_round
          case rel => exact ⟨3 + 1, by omega, rfl, int_eq (by rw [H.out]; rfl)⟩
          case measure => simp [intOf]
        · have t1 : ((n : Int) / 8 % 2 == 1) = false := by rw [beq_eq_false_iff_ne]; omega
          have H := Lib.hid (H2.out hb1)
          clear e0 hb1
          go_wp2_with (go_at_call 9; refine (is_ref _ _).mono ?_; rintro e w' ⟨rfl, rfl⟩; rw [HO.out])
          go_round
          case rel => exact ⟨3 + 1, by omega, rfl, int_eq (by rw [H.out])⟩
          case measure => simp [intOf]
      · have e0 : ((n : Int) / 16 % 2) = ((n / 2 ^ 4 % 2 : Nat) : Int) := by simp
        by_cases hb1 : n / 2 ^ 4 % 2 = 1
        · have t1 : ((n : Int) / 16 % 2 == 1) = true := by rw [beq_iff_eq]; omega
          have H := Lib.hid (H1.out hb1)
          clear e0 hb1
          go_wp2_with (go_at_call 9; refine (is_ref _ _).mono ?_; rintro e w' ⟨rfl, rfl⟩; rw [HO.out])
          go_round
          case rel => exact ⟨4 + 1, by omega, rfl, int_eq (by rw [H.out]; rfl)⟩
          case measure => simp [intOf]
        · have t1 : ((n : Int) / 16 % 2 == 1) = false := by rw [beq_eq_false_iff_ne]; omega
          have H := Lib.hid (H2.out hb1)
          clear e0 hb1
          go_wp2_with (go_at_call 9; refine (is_ref _ _).mono ?_; rintro e w' ⟨rfl, rfl⟩; rw [HO.out])
          go_round
          case rel => exact ⟨4 + 1, by omega, rfl, int_eq (by rw [H.out])⟩
          case measure => simp [intOf]
    · obtain rfl : k = 5 := by omega
      go_wp2_with (go_at_call 9; refine (is_ref _ _).mono ?_; rintro e w' ⟨rfl, rfl⟩; rw [HO.out])
      go_ret
      exact ⟨rfl, rfl⟩
theorem count_ref (n : Int) (w : World) : Calls Tryd.prog 13 #[.int .i64 n] w fun e w' => e = .returned (.int .i64 (cntI n)) ∧ w = w' := by
  cases ho : okMask n
  · have e : cntI n = 0 := by rw [cntI, ho]; rfl
    rw [e]
    have HO := Lib.hid ho
    clear ho e
    go_enter Tryd.func13, Tryd.ntmps13
    go_wp2
    refine wp_loop_rounds 1 ?_
    rw [rounds_succ]
    go_wp2_with (go_at_call 9; refine (is_ref _ _).mono ?_; rintro e w' ⟨rfl, rfl⟩; rw [HO.out])
    go_ret
    exact ⟨rfl, rfl⟩
  · have e : cntI n = cnt n.toNat 5 := by rw [cntI, ho]; rfl
    have hb : 0 ≤ n ∧ n ≤ 31 := by simpa [okMask] using ho
    obtain ⟨k, rfl⟩ := Int.eq_ofNat_of_zero_le hb.1
    rw [e]
    exact count_ref_in k (by omega) w
end Go.Proofs.YteiiponfgjabeaaDoor
