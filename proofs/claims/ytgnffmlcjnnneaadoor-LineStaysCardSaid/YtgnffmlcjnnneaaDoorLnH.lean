/- Walks of chapter 10: TypesText, HasSub, Same, the program's and the reference's. -/
import Derived.Test.YtgnffmlcjnnneaaDoorLnF
import Derived.Deep.QuietTactic
namespace Go.Proofs.YtgnffmlcjnnneaaDoor
open Go Go.RowKit Go.Sort Cg
theorem pk_bsel (nm : Nat → ByteArray) (xs : List ByteArray) (n : Nat) (hx : ∀ k, k < n → xs.getD k ByteArray.empty = nm k) (m : Nat) : ∀ k, k ≤ n → (bsel m k).map nm = pk xs m k
  | 0, _ => rfl
  | k + 1, hk => by
    have ih := pk_bsel nm xs n hx m k (by omega)
    by_cases h : m / 2 ^ k % 2 = 1
    · rw [bsel_hit m k h, pk_hit xs m k h, List.map_append, ih, hx k (by omega)]; rfl
    · rw [bsel_miss m k h, pk_miss xs m k h, ih]
theorem bsel_up (m n : Nat) (hm : m < 2 ^ n) : ∀ j, bsel m (n + j) = bsel m n
  | 0 => rfl
  | j + 1 => by
    rw [show n + (j + 1) = (n + j) + 1 by omega, bsel_miss, bsel_up m n hm j]
    have : m / 2 ^ (n + j) = 0 := by
      apply Nat.div_eq_of_lt
      rw [Nat.pow_add]
      have : 1 ≤ 2 ^ j := Nat.one_le_two_pow
      exact Nat.lt_of_lt_of_le hm (Nat.le_mul_of_pos_right _ (by omega))
    rw [this]
    decide
theorem types_pk (m : Nat) (hm : m < 64) : (bsel m 31).map typeN = pk types m 6 := by
  rw [show (31 : Nat) = 6 + 25 from rfl, bsel_up m 6 hm 25]
  exact pk_bsel typeN types 6 (by decide) m 6 (Nat.le_refl _)
theorem supers_pk (m : Nat) (hm : m < 4) : (bsel m 31).map superN = pk supers m 2 := by
  rw [show (31 : Nat) = 2 + 29 from rfl, bsel_up m 2 hm 29]
  exact pk_bsel superN supers 2 (by decide) m 2 (Nat.le_refl _)
theorem types_small : ∀ x ∈ types, 0 < x.size ∧ x.size ≤ 100 := by decide
theorem supers_small : ∀ x ∈ supers, 0 < x.size ∧ x.size ≤ 100 := by decide
def tyPlus (m : Nat) : ByteArray := jo (pk types m 6) ⟨#[43]⟩
def tyText (n : Int) : ByteArray := if 1 ≤ n ∧ n ≤ 63 then tyPlus n.toNat else ⟨#[]⟩
theorem tyText_not (n : Int) (h : ¬ (1 ≤ n ∧ n ≤ 63)) : tyText n = ⟨#[]⟩ := by rw [tyText, if_neg h]
theorem tyText_nat (m : Nat) (h1 : 1 ≤ m) (h2 : m ≤ 63) : tyText (m : Int) = tyPlus m := by rw [tyText, if_pos (by omega), Int.toNat_natCast]
theorem join_jo (v : Value) (xs : List ByteArray) (sep : ByteArray) (w : World) (h : RowAt Value.string w v xs) (hn : xs.length ≤ 1000000) (hj : (jo xs sep).size ≤ 140737488355328) :
    Calls Tryd.prog 41 #[v, .string sep] w fun e w' => e = .returned (.string (jo xs sep)) ∧ Below w.heap.size w w' := by
  rcases h.cases with ⟨rfl, ao, cap, rfl⟩ | ⟨_, b, o, cap, rfl, hc, hlt, hcell⟩
  · exact (Tryd.strings_Join_none ao cap sep w).mono fun e w' ⟨h1, h2⟩ => ⟨h1, h2 ▸ Below.refl _ _⟩
  · exact (Tryd.strings_Join b o cap xs sep w hcell hlt (by omega) hc (by rw [Lib.size_eq, jo_data] at hj; exact hj)).mono fun e w' ⟨h1, h2⟩ => ⟨h1, h2⟩
theorem typesText_prog (n : Int) (w : World) : Calls Tryd.prog 18 #[.int .i64 n] w fun e w' => e = .returned (.string (tyText n)) ∧ Below w.heap.size w w' := by
  by_cases h : 1 ≤ n ∧ n ≤ 63
  · obtain ⟨m, rfl⟩ := Int.eq_ofNat_of_zero_le (show 0 ≤ n by omega)
    have HT := Lib.hid (tyText_nat m (by omega) (by omega))
    have HP := Lib.hid (types_pk m (by omega))
    have HS := Lib.hid (jo_size (pk types m 6) ⟨#[43]⟩ (by decide) (fun x hx => (types_small x (pk_mem types m 6 (by decide) x hx)).2))
    have HL := Lib.hid (pk_len types m 6)
    obtain ⟨h1, h2⟩ := h
    go_enter Tryd.func18, Tryd.ntmps18
    go_wp2_with fail
    refine (words_typeN m (by omega) _).mono ?_
    rintro e w1 ⟨v1, rfl, o1, b1⟩
    rw [HP.out] at o1
    have R1 := Lib.hid (rowAt_own o1)
    clear o1
    go_wp2_with fail
    refine (join_jo v1 (pk types m 6) ⟨#[43]⟩ _ R1.out (by have := HL.out; omega) (by have := HL.out; have := HS.out; omega)).mono ?_
    rintro e w2 ⟨rfl, b2⟩
    go_wp2_with fail
    go_ret
    exact ⟨by rw [HT.out]; rfl, b1.trans (b2.mono b1.size)⟩
  · have HT := Lib.hid (tyText_not n h)
    by_cases h1 : 1 ≤ n
    · have h2 : 63 < n := by omega
      clear h
      go_enter Tryd.func18, Tryd.ntmps18
      go_wp2_with fail
      go_ret
      exact ⟨by rw [HT.out] <;> rfl, Below.refl _ _⟩
    · have h1' : n < 1 := by omega
      clear h h1
      go_enter Tryd.func18, Tryd.ntmps18
      go_wp2_with fail
      go_ret
      exact ⟨by rw [HT.out] <;> rfl, Below.refl _ _⟩
theorem typesText_ref (n : Int) (w : World) : Calls Tryd.prog 19 #[.int .i64 n] w fun e w' => e = .returned (.string (tyText n)) ∧ Below w.heap.size w w' := by
  by_cases h : 1 ≤ n ∧ n ≤ 63
  · obtain ⟨m, rfl⟩ := Int.eq_ofNat_of_zero_le (show 0 ≤ n by omega)
    have HT := Lib.hid (tyText_nat m (by omega) (by omega))
    obtain ⟨h1, h2⟩ := h
    go_enter Tryd.func19, Tryd.ntmps19
    go_wp2_with fail
    refine (typeWords_ref _).mono ?_
    rintro e w1 ⟨v1, rfl, r1, b1⟩
    have R1 := Lib.hid r1
    clear r1
    go_wp2_with fail
    refine (joined_ref v1 types m ⟨#[43]⟩ _ R1.out (by decide) (by omega) (by decide) types_small).mono ?_
    rintro e w2 ⟨rfl, rfl⟩
    go_wp2_with fail
    go_ret
    exact ⟨by rw [HT.out]; rfl, b1⟩
  · have HT := Lib.hid (tyText_not n h)
    by_cases h1 : 1 ≤ n
    · have h2 : 63 < n := by omega
      clear h
      go_enter Tryd.func19, Tryd.ntmps19
      go_wp2_with fail
      go_ret
      exact ⟨by rw [HT.out] <;> rfl, Below.refl _ _⟩
    · have h1' : n < 1 := by omega
      clear h h1
      go_enter Tryd.func19, Tryd.ntmps19
      go_wp2_with fail
      go_ret
      exact ⟨by rw [HT.out] <;> rfl, Below.refl _ _⟩
theorem contains_s (v : Value) (xs : List ByteArray) (x : ByteArray) (w : World) (h : RowAt Value.string w v xs) (hn : xs.length ≤ 9223372036854775807) :
    Calls Tryd.prog 45 #[v, .string x] w fun e w' => e = .returned (.bool (Lib.containsS xs x)) ∧ w = w' := by
  rcases h.cases with ⟨rfl, ao, cap, rfl⟩ | ⟨_, b, o, cap, rfl, _, _, hc⟩
  · exact (Tryd.slices_Contains_string_empty ao cap x w).mono fun e w' ⟨h1, h2⟩ => ⟨by rw [h1]; rfl, h2.symm⟩
  · exact (Tryd.slices_Contains_string b o xs.length cap xs x w (Nat.le_refl _) hn (cells_getD ByteArray.empty hc)).mono fun e w' ⟨h1, h2⟩ => ⟨by rw [List.take_length] at h1; exact h1, h2.symm⟩
theorem hasSub_prog (su ty : Int) (v : Value) (xs : List ByteArray) (x : ByteArray) (w : World) (h : RowAt Value.string w v xs) (hn : xs.length ≤ 4611686018427387904) :
    Calls Tryd.prog 23 #[lineV su ty v, .string x] w fun e w' => e = .returned (.bool (Lib.containsS xs x)) ∧ Below w.heap.size w w' := by
  obtain ⟨ao, cap, rfl⟩ := h.form
  have BA := Lib.hid ((Below.refl w.heap.size w).alloc (Nat.le_refl _) (.cells #[.int .i64 su, .int .i64 ty, .slice ao xs.length cap] 24))
  have RX := Lib.hid (h.below BA.out)
  obtain ⟨r, hr⟩ : ∃ r, Lib.containsS xs x = r := ⟨_, rfl⟩
  have HR := Lib.hid hr
  rw [hr]
  clear h hr
  go_enter Tryd.func23, Tryd.ntmps23
  go_wp2_with fail
  refine (contains_s _ xs x _ RX.out (by omega)).mono ?_
  rintro e w1 ⟨rfl, rfl⟩
  rw [HR.out]
  go_wp2_with fail
  go_ret
  exact ⟨rfl, BA.out⟩
theorem idxS_mem (xs : List ByteArray) (x : ByteArray) : decide (0 ≤ Lib.idxOfS xs x) = Lib.containsS xs x := by
  rw [Bool.eq_iff_iff, decide_eq_true_eq, Lib.idxOfS_nonneg_iff, Lib.containsS_iff]
theorem hasSub_ref (su ty : Int) (v : Value) (xs : List ByteArray) (x : ByteArray) (w : World) (h : RowAt Value.string w v xs) (hn : xs.length ≤ 4611686018427387904) :
    Calls Tryd.prog 24 #[lineV su ty v, .string x] w fun e w' => e = .returned (.bool (Lib.containsS xs x)) ∧ Below w.heap.size w w' := by
  obtain ⟨ao, cap, rfl⟩ := h.form
  have BA := Lib.hid ((Below.refl w.heap.size w).alloc (Nat.le_refl _) (.cells #[.int .i64 su, .int .i64 ty, .slice ao xs.length cap] 24))
  have RX := Lib.hid (h.below BA.out)
  have hq := idxS_mem xs x
  obtain ⟨q, hqq⟩ : ∃ q, Lib.idxOfS xs x = q := ⟨_, rfl⟩
  have HQ := Lib.hid hqq
  rw [hqq] at hq
  have HR := Lib.hid hq
  clear h hq hqq
  go_enter Tryd.func24, Tryd.ntmps24
  go_wp2_with fail
  refine (index_ref _ xs x _ RX.out (by omega)).mono ?_
  rintro e w1 ⟨rfl, rfl⟩
  rw [HQ.out]
  go_wp2_with fail
  go_ret
  exact ⟨ret_bool HR.out, BA.out⟩
end Go.Proofs.YtgnffmlcjnnneaaDoor
