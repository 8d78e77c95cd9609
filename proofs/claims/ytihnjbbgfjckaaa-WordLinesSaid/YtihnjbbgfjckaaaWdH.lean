/- Chapter 02: the walk of the law WordLines: the lines with their ends are the whole string again. -/
import Derived.Test.YtihnjbbgfjckaaaWdG
namespace Go.Proofs.Ytihnjbbgfjckaaa
open Go Go.RowKit Cg
def catL (xs : List ByteArray) : ByteArray := xs.foldl (fun t x => t ++ (x ++ ⟨#[10]⟩)) ⟨#[]⟩
theorem catL_snoc (xs : List ByteArray) (x : ByteArray) : catL (xs ++ [x]) = catL xs ++ (x ++ ⟨#[10]⟩) := by rw [catL, List.foldl_append]; rfl
theorem app_data (a b : ByteArray) : (a ++ b).data.toList = a.data.toList ++ b.data.toList := by simp
theorem lin_cat (s : ByteArray) : ∀ k, k ≤ s.size → catL (lin s k).1 = s.extract 0 (lin s k).2
  | 0, _ => by
    apply bytes_ext
    rw [Lib.extract_data]
    rfl
  | k + 1, hk => by
    have ih := lin_cat s k (by omega)
    have hle := (lin_le s k).1
    by_cases h : bt s k = 10
    · rw [lin_hit s k h, catL_snoc, ih]
      have hk' : k < s.data.toList.length := by rw [← Lib.size_eq]; omega
      have hb : s.data.toList[k]'hk' = 10 := by
        rw [← h, bt, List.getD_eq_getElem?_getD, List.getElem?_eq_getElem hk']
        rfl
      apply bytes_ext
      rw [app_data, app_data, Lib.extract_data, Lib.extract_data, Lib.extract_data]
      simp only [List.drop_zero, Nat.sub_zero]
      rw [List.take_succ_eq_append_getElem hk', hb, ← List.append_assoc, ← List.take_add, show (lin s k).2 + (k - (lin s k).2) = k by omega]
    · rw [lin_miss s k h, ih]
theorem lin_end (s : ByteArray) (h : linOk s = true) : (lin s s.size).2 = s.size := by
  rcases of_decide_eq_true h with h | h
  · rw [h]; rfl
  · by_cases h0 : s.size = 0
    · rw [h0]; rfl
    · obtain ⟨k, hk⟩ : ∃ k, s.size = k + 1 := ⟨s.size - 1, by omega⟩
      rw [hk] at h ⊢
      rw [lin_hit s k h]
theorem lines_cat (s : ByteArray) (h : linOk s = true) : catL (lines s) = s := by
  have e : lines s = (lin s s.size).1 := by rw [lines, h]; rfl
  rw [e, lin_cat s _ (Nat.le_refl _), lin_end s h]
  apply bytes_ext
  rw [Lib.extract_data, List.drop_zero, Nat.sub_zero, Lib.size_eq, List.take_length]
theorem lin_mem (s : ByteArray) : ∀ k, ∀ x ∈ (lin s k).1, x.size ≤ s.size
  | 0, x, hx => by simp [lin] at hx
  | k + 1, x, hx => by
    rw [lin] at hx
    split at hx
    · rcases List.mem_append.1 hx with hx | hx
      · exact lin_mem s k x hx
      · rw [List.mem_singleton.1 hx, ByteArray.size_extract]; omega
    · exact lin_mem s k x hx
theorem lines_mem (s : ByteArray) : ∀ x ∈ lines s, x.size ≤ s.size := by
  intro x hx
  unfold lines at hx
  split at hx
  · exact lin_mem s _ x hx
  · simp at hx
theorem lines_len (s : ByteArray) : (lines s).length ≤ s.size := by
  unfold lines
  split
  · exact (lin_le s s.size).2
  · simp
theorem catL_size (xs : List ByteArray) (M : Nat) (h : ∀ x ∈ xs, x.size ≤ M) : ∀ k, k ≤ xs.length → (catL (xs.take k)).size ≤ k * (M + 1)
  | 0, _ => by rw [List.take_zero, Nat.zero_mul]; exact Nat.le_refl 0
  | k + 1, hk => by
    have ih := catL_size xs M h k (by omega)
    have hm := h xs[k] (List.getElem_mem _)
    rw [List.take_succ_eq_append_getElem (by omega), catL_snoc, ByteArray.size_append, ByteArray.size_append, Nat.add_mul]
    have : (ByteArray.mk #[10]).size = 1 := rfl
    omega
set_option maxHeartbeats 1000000 in
theorem law_wordLines (s : ByteArray) (w : World) (hm : Mx w) : Calls Try.prog 6 #[.string s] w fun e w' => e = .returned (.bool true) ∧ Below w.heap.size w w' := by
  have G0 := Lib.hid (show Gd w w from ⟨hm, Below.refl _ _⟩)
  clear hm
  by_cases hs : s.size ≤ 2000
  · have hll := lines_len s
    have HMEM := Lib.hid (lines_mem s)
    go_enter Try.func6, Try.ntmps6
    go_wp2_with fail
    refine (lines_prog s (by omega) _).mono ?_
    rintro e w1 ⟨v1, rfl, o1, b1⟩
    have G1 := Lib.hid (G0.out.step b1)
    have s1 := strsAt_own o1
    clear b1 o1
    have S1 := Lib.hid s1
    obtain ⟨ao, cap, rfl, _⟩ := s1
    go_wp2_with fail
    refine (lines_ref s (by omega) _).mono ?_
    rintro e w2 ⟨v2, rfl, o2, b2⟩
    have G2 := Lib.hid (G1.out.step b2)
    have S2 := Lib.hid (strsAt_own o2)
    have S1' := Lib.hid (S1.out.below b2)
    clear b2 o2
    go_wp2_with fail
    refine (same_ref _ v2 (lines s) (lines s) _ S1'.out S2.out (by omega) (by omega)).mono ?_
    rintro e w3 ⟨rfl, n3, hw3⟩
    rw [show decide (lines s = lines s) = true from decide_eq_true rfl]
    have G3 := Lib.hid (show Gd w w3 by rw [hw3]; exact G2.out.drewN n3)
    have S3 := Lib.hid (show StrsAt w3 (.slice ao (lines s).length cap) (lines s) by rw [hw3]; exact S1'.out.below (drewN_below _ _))
    clear hw3
    obtain ⟨xs, hxs⟩ : ∃ xs, xs = lines s := ⟨_, rfl⟩
    have HX := Lib.hid hxs
    rw [← hxs] at hll HMEM S3 ⊢
    clear hxs S1 S1' S2
    cases hok : linOk s
    · have HOK := Lib.hid hok
      clear hok
      have hbb : ((false : Bool) != false) = false := rfl
      go_wp2_with fail
      go_loop [7, 35] (fun t i => ∃ k : Nat, k ≤ xs.length ∧ i = .int .i64 k ∧ t = .string (catL (xs.take k))) (fun _ i => xs.length - (intOf i).toNat)
      case atStart => exact ⟨0, by omega, rfl, rfl⟩
      case round =>
        obtain ⟨k, hk, rfl, rfl⟩ := hrel
        by_cases hlt : k < xs.length
        · exfalso
          have : xs = [] := by rw [HX.out, lines, HOK.out]; rfl
          rw [this] at hlt
          simp at hlt
        · obtain rfl : k = xs.length := by omega
          go_wp2_with fail
          refine (alive02 w _ G3.out).mono ?_
          rintro e w4 ⟨rfl, g4⟩
          have G4 := Lib.hid g4
          clear g4
          go_wp2_with fail
          go_ret
          exact ⟨rfl, G4.out.2⟩
    · have HC := Lib.hid (show catL xs = s by rw [HX.out]; exact lines_cat s hok)
      have HOK := Lib.hid hok
      clear hok
      have hbb : ((true : Bool) != true) = false := rfl
      go_wp2_with fail
      go_loop [7, 35] (fun t i => ∃ k : Nat, k ≤ xs.length ∧ i = .int .i64 k ∧ t = .string (catL (xs.take k))) (fun _ i => xs.length - (intOf i).toNat)
      case atStart => exact ⟨0, by omega, rfl, rfl⟩
      case round =>
        obtain ⟨k, hk, rfl, rfl⟩ := hrel
        by_cases hlt : k < xs.length
        · have hsz := catL_size xs s.size HMEM.out k hk
          have hkm : k * (s.size + 1) ≤ 2000 * 2001 := Nat.mul_le_mul (by omega) (by omega)
          have hxm := HMEM.out xs[k] (List.getElem_mem _)
          have HS := Lib.hid (show catL (xs.take (k + 1)) = catL (xs.take k) ++ (xs[k] ++ ⟨#[10]⟩) by rw [List.take_succ_eq_append_getElem hlt, catL_snoc])
          obtain ⟨t, ht⟩ : ∃ t, t = catL (xs.take k) := ⟨_, rfl⟩
          rw [← ht] at hsz HS ⊢
          clear ht
          obtain ⟨x, hx⟩ : ∃ x, x = xs[k] := ⟨_, rfl⟩
          have s3 := S3.out
          obtain ⟨ao', cap', he, hcell⟩ := s3
          rcases hcell with hcell | ⟨bb, oo, hao, hlt2, hcc, hcell⟩
          · rw [hcell] at hlt; simp at hlt
          have q := hcell k xs[k] (by simp)
          simp only [Value.slice.injEq] at he
          obtain ⟨rfl, _, rfl⟩ := he
          subst hao
          rw [← hx] at hxm HS q
          clear hx hcell
          have i0 : (0 : Int) ≤ (k : Int) := by omega
          have i1 : (k : Int) < (xs.length : Int) := by omega
          have z1 : ¬ 9223372036854775807 < x.size + 1 := by omega
          have z2 : ¬ 9223372036854775807 < t.size + (x.size + 1) := by omega
          go_wp2
          go_round
          case rel => exact ⟨k + 1, by omega, by go_num, str_eq (by rw [HS.out])⟩
          case measure => simp [intOf]; omega
        · obtain rfl : k = xs.length := by omega
          have HT := Lib.hid (show catL (xs.take xs.length) = s by rw [List.take_length, HC.out])
          rw [HT.out]
          have tt : (s.toList == s.toList) = true := by simp
          go_wp2_with fail
          refine (alive02 w _ G3.out).mono ?_
          rintro e w4 ⟨rfl, g4⟩
          have G4 := Lib.hid g4
          clear g4
          go_wp2_with fail
          go_ret
          exact ⟨rfl, G4.out.2⟩
  · go_enter Try.func6, Try.ntmps6
    go_wp2_with fail
    refine (alive02 w _ G0.out).mono ?_
    rintro e w3 ⟨rfl, g3⟩
    have G3 := Lib.hid g3
    clear g3
    go_wp2_with fail
    go_ret
    exact ⟨rfl, G3.out.2⟩
end Go.Proofs.Ytihnjbbgfjckaaa
