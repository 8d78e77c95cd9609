/- Chapter 10: ParseTypes of the reference; law LineTypes. -/
import Derived.Test.YtgnffmlcjnnneaaDoorLnO
namespace Go.Proofs.YtgnffmlcjnnneaaDoor
open Go Go.RowKit Go.Sort Cg
theorem tyMask_tyPlus : ∀ m, m < 64 → 1 ≤ m → tyMask (tyPlus m) = m := by decide +kernel
theorem pt_hit {s : ByteArray} {m : Nat} (h1 : 1 ≤ m) (h2 : m ≤ 63) (h : tyPlus m = s) : ptRes s = (m, 0) := by
  have hm : tyMask s = m := by rw [← h]; exact tyMask_tyPlus m (by omega) h1
  rw [ptRes, hm, if_neg (by omega), if_pos h]
theorem tyMask_lt (s : ByteArray) : tyMask s < 64 := orW_lt typeN 6 _ _
theorem pt_none {s : ByteArray} (h : ∀ j, 1 ≤ j → j < 64 → ¬ tyPlus j = s) : ptRes s = (0, 3) := by
  by_cases h0 : tyMask s = 0
  · rw [ptRes, if_pos h0]
  · rw [ptRes, if_neg h0, if_neg (h _ (by omega) (tyMask_lt s))]
theorem pt_empty : ptRes ⟨#[]⟩ = (0, 3) := by decide +kernel
set_option maxHeartbeats 1000000 in
theorem parseTypes_ref (s : ByteArray) (w : World) : Calls Tryd.prog 17 #[.string s] w fun e w' => e = .returned (.tuple #[.int .i64 ((ptRes s).1 : Nat), .int .i64 ((ptRes s).2 : Nat)]) ∧ Below w.heap.size w w' := by
  go_enter Tryd.func17, Tryd.ntmps17
  go_wp2_with fail
  go_loopw [4] (fun i wr => ∃ m : Nat, 1 ≤ m ∧ m ≤ 64 ∧ i = .int .i64 m ∧ Hid (∀ j, 1 ≤ j → j < m → ¬ tyPlus j = s) ∧ Below w.heap.size w wr) (fun i _ => 64 - (intOf i).toNat)
  case atStart => exact ⟨1, by omega, by omega, rfl, Lib.hid (fun j h1 h2 => by omega), Below.refl _ _⟩
  case round =>
    obtain ⟨m, h1, h2, rfl, HN, hnx⟩ := hrel
    by_cases hlt : m ≤ 63
    · have HT := Lib.hid (tyText_nat m h1 hlt)
      by_cases he : tyPlus m = s
      · have HR := Lib.hid (pt_hit h1 hlt he)
        have hsame := same_true he
        clear he
        go_wp2_with fail
        refine (typesText_ref m _).mono ?_
        rintro e w2 ⟨rfl, b2⟩
        rw [HT.out]
        go_wp2_with fail
        go_ret2
        exact ⟨by rw [HR.out] <;> rfl, hnx.trans (b2.mono hnx.size)⟩
      · have HE := Lib.hid he
        have hsame := same_false he
        clear he
        go_wp2_with fail
        refine (typesText_ref m _).mono ?_
        rintro e w2 ⟨rfl, b2⟩
        rw [HT.out]
        go_wp2_with fail
        go_roundw
        case rel => exact ⟨m + 1, by omega, by omega, by go_num, Lib.hid (fun j h3 h4 => by
          by_cases hj : j = m
          · rw [hj]; exact HE.out
          · exact HN.out j h3 (by omega)), hnx.trans (b2.mono hnx.size)⟩
        case measure => simp [intOf]; omega
    · have HR := Lib.hid (pt_none (s := s) (fun j h3 h4 => HN.out j h3 (by omega)))
      go_wp2_with fail
      go_ret2
      exact ⟨by rw [HR.out] <;> rfl, hnx⟩
theorem tyText_size (n : Int) : (tyText n).size ≤ 2000000 := by
  by_cases h : 1 ≤ n ∧ n ≤ 63
  · rw [tyText, if_pos h]
    have := jo_size (pk types n.toNat 6) ⟨#[43]⟩ (by decide) (fun x hx => (types_small x (pk_mem types n.toNat 6 (by decide) x hx)).2)
    have := pk_len types n.toNat 6
    rw [tyPlus]
    omega
  · rw [tyText_not n h]; decide
/-- What ParseTypes answers on the text of a mask. -/
theorem pt_text (n : Int) : ptRes (tyText n) = if 1 ≤ n ∧ n ≤ 63 then (n.toNat, 0) else (0, 3) := by
  by_cases h : 1 ≤ n ∧ n ≤ 63
  · rw [if_pos h, tyText, if_pos h]
    exact pt_hit (by omega) (by omega) rfl
  · rw [if_neg h, tyText_not n h]
    exact pt_empty
theorem pt_ok {s : ByteArray} (h : (ptRes s).2 = 0) : tyText ((ptRes s).1 : Nat) = s := by
  have hl := tyMask_lt s
  by_cases h0 : tyMask s = 0
  · rw [ptRes, if_pos h0] at h; simp at h
  · by_cases he : tyPlus (tyMask s) = s
    · rw [ptRes, if_neg h0, if_pos he]
      show tyText ((tyMask s : Nat) : Int) = s
      rw [tyText_nat _ (by omega) (by omega), he]
    · rw [ptRes, if_neg h0, if_neg he] at h; simp at h
theorem pt_code (s : ByteArray) : (ptRes s).2 = 0 ∨ (ptRes s).2 = 3 := by
  rw [ptRes]
  split
  · exact .inr rfl
  · split
    · exact .inl rfl
    · exact .inr rfl
set_option maxRecDepth 100000 in
set_option maxHeartbeats 1000000 in
theorem law_lineTypes (n : Int) (s : ByteArray) (w : World) (hs : s.size ≤ 1048576) (hm : Mx w) :
    Calls Tryd.prog 4 #[.int .i64 n, .string s] w fun e w' => e = .returned (.bool true) ∧ Below w.heap.size w w' := by
  have HM := Lib.hid hm
  have HT := Lib.hid (tyText_size n)
  have HPT := Lib.hid (pt_text n)
  have HOK := Lib.hid (@pt_ok s)
  have HC := Lib.hid (pt_code s)
  clear hm
  obtain ⟨⟨a, e0⟩, hae⟩ : ∃ p, p = ptRes s := ⟨_, rfl⟩
  rw [← hae] at HOK HC
  have HAE := Lib.hid hae.symm
  obtain ⟨t, ht⟩ : ∃ t, t = tyText n := ⟨_, rfl⟩
  rw [← ht] at HT HPT
  have HTT := Lib.hid ht.symm
  clear hae ht
  go_enter Tryd.func4, Tryd.ntmps4
  go_wp2_with fail
  refine (parseTypes_prog s (by omega) _ HM.out).mono ?_
  rintro e w1 ⟨rfl, b1⟩
  rw [HAE.out]
  have HM1 := Lib.hid (HM.out.below b1)
  have B1 := Lib.hid b1
  clear b1
  go_wp2_with fail
  refine (parseTypes_ref s _).mono ?_
  rintro e w2 ⟨rfl, b2⟩
  rw [HAE.out]
  have HM2 := Lib.hid (HM1.out.below b2)
  have B2 := Lib.hid (B1.out.trans (b2.mono B1.out.size))
  clear b2
  go_wp2_with fail
  refine (typesText_prog n _).mono ?_
  rintro e w3 ⟨rfl, b3⟩
  rw [HTT.out]
  have HM3 := Lib.hid (HM2.out.below b3)
  have B3 := Lib.hid (B2.out.trans (b3.mono B2.out.size))
  clear b3
  go_wp2_with fail
  refine (parseTypes_prog t (HT.out) _ HM3.out).mono ?_
  rintro e w4 ⟨rfl, b4⟩
  have HM4 := Lib.hid (HM3.out.below b4)
  have B4 := Lib.hid (B3.out.trans (b4.mono B3.out.size))
  clear b4
  have q1 : ((a : Int) == a) = true := by simp
  have q2 : ((e0 : Int) == e0) = true := by simp
  have q3 : (t.toList == t.toList) = true := same_true rfl
  have HA : ∀ w', Mx w' → Calls Tryd.prog 10 #[] w' fun e w'' => e = .returned (.bool true) ∧ Below w'.heap.size w' w'' := fun w' h => alive10 w' h
  by_cases hin : 1 ≤ n ∧ n ≤ 63
  · obtain ⟨h1, h2⟩ := hin
    rw [HPT.out, if_pos ⟨h1, h2⟩]
    have hn : ((n.toNat : Nat) : Int) = n := by omega
    rw [hn]
    have d1 : decide (1 ≤ n) = true := decide_eq_true h1
    have d2 : decide (n ≤ 63) = true := decide_eq_true h2
    have q4 : (n == n) = true := by simp
    rcases HC.out with hc | hc
    · subst hc
      have HS := Lib.hid (HOK.out rfl)
      have q5 : (s.toList == s.toList) = true := same_true rfl
      go_wp2_with fail
      refine (HA _ HM4.out).mono ?_
      rintro e w5 ⟨rfl, b5⟩
      have B5 := Lib.hid (B4.out.trans (b5.mono B4.out.size))
      clear b5
      go_wp2_with fail
      refine (typesText_ref n _).mono ?_
      rintro e w6 ⟨rfl, b6⟩
      rw [HTT.out]
      have B6 := Lib.hid (B5.out.trans (b6.mono B5.out.size))
      clear b6
      go_wp2_with fail
      refine (typesText_prog a _).mono ?_
      rintro e w7 ⟨rfl, b7⟩
      rw [HS.out]
      have B7 := Lib.hid (B6.out.trans (b7.mono B6.out.size))
      clear b7
      go_wp2_with fail
      go_ret
      exact ⟨rfl, B7.out⟩
    · subst hc
      go_wp2_with fail
      refine (HA _ HM4.out).mono ?_
      rintro e w5 ⟨rfl, b5⟩
      have B5 := Lib.hid (B4.out.trans (b5.mono B4.out.size))
      clear b5
      go_wp2_with fail
      refine (typesText_ref n _).mono ?_
      rintro e w6 ⟨rfl, b6⟩
      rw [HTT.out]
      have B6 := Lib.hid (B5.out.trans (b6.mono B5.out.size))
      clear b6
      go_wp2_with fail
      go_ret
      exact ⟨rfl, B6.out⟩
  · rw [HPT.out, if_neg hin]
    have hn0 : ((0 : Nat) : Int) = 0 := rfl
    by_cases h1 : 1 ≤ n
    · have h2 : ¬ n ≤ 63 := by omega
      have d1 : decide (1 ≤ n) = true := decide_eq_true h1
      have d2 : decide (n ≤ 63) = false := decide_eq_false h2
      have d3 : decide (63 < n) = true := decide_eq_true (by omega)
      rcases HC.out with hc | hc
      · subst hc
        have HS := Lib.hid (HOK.out rfl)
        have q5 : (s.toList == s.toList) = true := same_true rfl
        go_wp2_with fail
        refine (HA _ HM4.out).mono ?_
        rintro e w5 ⟨rfl, b5⟩
        have B5 := Lib.hid (B4.out.trans (b5.mono B4.out.size))
        clear b5
        go_wp2_with fail
        refine (typesText_ref n _).mono ?_
        rintro e w6 ⟨rfl, b6⟩
        rw [HTT.out]
        have B6 := Lib.hid (B5.out.trans (b6.mono B5.out.size))
        clear b6
        go_wp2_with fail
        refine (typesText_prog a _).mono ?_
        rintro e w7 ⟨rfl, b7⟩
        rw [HS.out]
        have B7 := Lib.hid (B6.out.trans (b7.mono B6.out.size))
        clear b7
        go_wp2_with fail
        go_ret
        exact ⟨rfl, B7.out⟩
      · subst hc
        go_wp2_with fail
        refine (HA _ HM4.out).mono ?_
        rintro e w5 ⟨rfl, b5⟩
        have B5 := Lib.hid (B4.out.trans (b5.mono B4.out.size))
        clear b5
        go_wp2_with fail
        refine (typesText_ref n _).mono ?_
        rintro e w6 ⟨rfl, b6⟩
        rw [HTT.out]
        have B6 := Lib.hid (B5.out.trans (b6.mono B5.out.size))
        clear b6
        go_wp2_with fail
        go_ret
        exact ⟨rfl, B6.out⟩
    · have d1 : decide (1 ≤ n) = false := decide_eq_false h1
      have d3 : decide (n < 1) = true := decide_eq_true (by omega)
      by_cases hz : n = 0
      · subst hz
        rcases HC.out with hc | hc
        · subst hc
          have HS := Lib.hid (HOK.out rfl)
          have q5 : (s.toList == s.toList) = true := same_true rfl
          go_wp2_with fail
          refine (HA _ HM4.out).mono ?_
          rintro e w5 ⟨rfl, b5⟩
          have B5 := Lib.hid (B4.out.trans (b5.mono B4.out.size))
          clear b5
          go_wp2_with fail
          refine (typesText_ref 0 _).mono ?_
          rintro e w6 ⟨rfl, b6⟩
          rw [HTT.out]
          have B6 := Lib.hid (B5.out.trans (b6.mono B5.out.size))
          clear b6
          go_wp2_with fail
          refine (typesText_prog a _).mono ?_
          rintro e w7 ⟨rfl, b7⟩
          rw [HS.out]
          have B7 := Lib.hid (B6.out.trans (b7.mono B6.out.size))
          clear b7
          go_wp2_with fail
          go_ret
          exact ⟨rfl, B7.out⟩
        · subst hc
          go_wp2_with fail
          refine (HA _ HM4.out).mono ?_
          rintro e w5 ⟨rfl, b5⟩
          have B5 := Lib.hid (B4.out.trans (b5.mono B4.out.size))
          clear b5
          go_wp2_with fail
          refine (typesText_ref 0 _).mono ?_
          rintro e w6 ⟨rfl, b6⟩
          rw [HTT.out]
          have B6 := Lib.hid (B5.out.trans (b6.mono B5.out.size))
          clear b6
          go_wp2_with fail
          go_ret
          exact ⟨rfl, B6.out⟩
      · have hz2 : ((0 : Int) == n) = false := by simpa using (fun e : (0 : Int) = n => hz e.symm)
        clear hz
        rcases HC.out with hc | hc
        · subst hc
          have HS := Lib.hid (HOK.out rfl)
          have q5 : (s.toList == s.toList) = true := same_true rfl
          go_wp2_with fail
          refine (HA _ HM4.out).mono ?_
          rintro e w5 ⟨rfl, b5⟩
          have B5 := Lib.hid (B4.out.trans (b5.mono B4.out.size))
          clear b5
          go_wp2_with fail
          refine (typesText_ref n _).mono ?_
          rintro e w6 ⟨rfl, b6⟩
          rw [HTT.out]
          have B6 := Lib.hid (B5.out.trans (b6.mono B5.out.size))
          clear b6
          go_wp2_with fail
          refine (typesText_prog a _).mono ?_
          rintro e w7 ⟨rfl, b7⟩
          rw [HS.out]
          have B7 := Lib.hid (B6.out.trans (b7.mono B6.out.size))
          clear b7
          go_wp2_with fail
          go_ret
          exact ⟨rfl, B7.out⟩
        · subst hc
          go_wp2_with fail
          refine (HA _ HM4.out).mono ?_
          rintro e w5 ⟨rfl, b5⟩
          have B5 := Lib.hid (B4.out.trans (b5.mono B4.out.size))
          clear b5
          go_wp2_with fail
          refine (typesText_ref n _).mono ?_
          rintro e w6 ⟨rfl, b6⟩
          rw [HTT.out]
          have B6 := Lib.hid (B5.out.trans (b6.mono B5.out.size))
          clear b6
          go_wp2_with fail
          go_ret
          exact ⟨rfl, B6.out⟩
end Go.Proofs.YtgnffmlcjnnneaaDoor
