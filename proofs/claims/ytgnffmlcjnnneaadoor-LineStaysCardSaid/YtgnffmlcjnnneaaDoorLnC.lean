/- Walks of chapter 10: IsSub, the reference's lists of words, index, bit, power, joined; combines; words. -/
import Derived.Test.YtgnffmlcjnnneaaDoorLnB
import Derived.Lib.SlicesS
namespace Go.Proofs.YtgnffmlcjnnneaaDoor
open Go Go.RowKit Cg
theorem is_any (s : ByteArray) (w : World) (hm : Mx w) : Calls Tryd.prog 46 #[.string s] w fun e w' => e = .returned (.bool (isW s)) ∧ Below w.heap.size w w' := by
  by_cases hs : s.size ≤ 1000000
  · exact is_prog s hs w hm
  · have HF := Lib.hid (show isW s = false from isW_false fun h => by have := h.2.1; omega)
    have d0 : ((s.size : Int) == 0) = false := beq_eq_false_iff_ne.2 (by omega)
    have hs' : (32 : Int) < (s.size : Int) := by omega
    clear hm hs
    go_enter Tryd.func46, Tryd.ntmps46
    go_wp2_with fail
    go_ret
    exact ⟨ret_bool HF.out.symm, Below.refl _ _⟩
theorem isr_any (s : ByteArray) (w : World) : Calls Tryd.prog 47 #[.string s] w fun e w' => e = .returned (.bool (isW s)) ∧ Below w.heap.size w w' := by
  by_cases hs : s.size ≤ 1000000
  · exact (is_ref s hs w).mono fun _ _ ⟨h1, h2⟩ => ⟨h1, h2 ▸ Below.refl _ _⟩
  · have HF := Lib.hid (show isW s = false from isW_false fun h => by have := h.2.1; omega)
    have d0 : decide ((s.size : Int) < 1) = false := decide_eq_false (by omega)
    have hs' : (32 : Int) < (s.size : Int) := by omega
    clear hs
    go_enter Tryd.func47, Tryd.ntmps47
    go_wp2_with fail
    go_ret
    exact ⟨ret_bool HF.out.symm, Below.refl _ _⟩
theorem isSub_prog (s : ByteArray) (w : World) (hm : Mx w) : Calls Tryd.prog 25 #[.string s] w fun e w' => e = .returned (.bool (isSub s)) ∧ Below w.heap.size w w' := by
  have HI := Lib.hid (is_any s w hm)
  clear hm
  cases hw : isW s
  · have HR := Lib.hid (show isSub s = false by rw [isSub, hw]; rfl)
    rw [hw] at HI
    clear hw
    go_enter Tryd.func25, Tryd.ntmps25
    go_wp2_with fail
    refine HI.out.mono ?_
    rintro e w1 ⟨rfl, b1⟩
    go_wp2_with fail
    go_ret
    exact ⟨ret_bool HR.out.symm, b1⟩
  · rw [hw] at HI
    by_cases h1 : bitW superN s 2 = 0
    · have H1 := Lib.hid h1
      by_cases h2 : bitW typeN s 6 = 0
      · have H2 := Lib.hid h2
        have HR := Lib.hid (show isSub s = true by rw [isSub, hw, decide_eq_true h1, decide_eq_true h2]; rfl)
        clear hw h1 h2
        go_enter Tryd.func25, Tryd.ntmps25
        go_wp2_with fail
        refine HI.out.mono ?_
        rintro e w1 ⟨rfl, b1⟩
        go_wp2_with fail
        refine (bit_superN s _).mono ?_
        rintro e w2 ⟨rfl, rfl⟩
        rw [H1.out]
        go_wp2_with fail
        refine (bit_typeN s _).mono ?_
        rintro e w2 ⟨rfl, rfl⟩
        rw [H2.out]
        go_wp2_with fail
        go_ret
        exact ⟨ret_bool HR.out.symm, b1⟩
      · obtain ⟨q, hq⟩ : ∃ q, bitW typeN s 6 = q := ⟨_, rfl⟩
        have HQ := Lib.hid hq
        have HR := Lib.hid (show isSub s = false by rw [isSub, hw, decide_eq_false h2]; simp)
        rw [hq] at h2
        have t1 : ((q : Int) == 0) = false := beq_eq_false_iff_ne.2 (by omega)
        clear hw h1 h2 hq
        go_enter Tryd.func25, Tryd.ntmps25
        go_wp2_with fail
        refine HI.out.mono ?_
        rintro e w1 ⟨rfl, b1⟩
        go_wp2_with fail
        refine (bit_superN s _).mono ?_
        rintro e w2 ⟨rfl, rfl⟩
        rw [H1.out]
        go_wp2_with fail
        refine (bit_typeN s _).mono ?_
        rintro e w2 ⟨rfl, rfl⟩
        rw [HQ.out]
        go_wp2_with fail
        go_ret
        exact ⟨ret_bool HR.out.symm, b1⟩
    · obtain ⟨q, hq⟩ : ∃ q, bitW superN s 2 = q := ⟨_, rfl⟩
      have HQ := Lib.hid hq
      have HR := Lib.hid (show isSub s = false by rw [isSub, hw, decide_eq_false h1]; simp)
      rw [hq] at h1
      have t1 : ((q : Int) == 0) = false := beq_eq_false_iff_ne.2 (by omega)
      clear hw h1 hq
      go_enter Tryd.func25, Tryd.ntmps25
      go_wp2_with fail
      refine HI.out.mono ?_
      rintro e w1 ⟨rfl, b1⟩
      go_wp2_with fail
      refine (bit_superN s _).mono ?_
      rintro e w2 ⟨rfl, rfl⟩
      rw [HQ.out]
      go_wp2_with fail
      go_ret
      exact ⟨ret_bool HR.out.symm, b1⟩
def supers : List ByteArray := [superN 0, superN 1]
def types : List ByteArray := [typeN 0, typeN 1, typeN 2, typeN 3, typeN 4, typeN 5]
theorem superWords_ref (w : World) : Calls Tryd.prog 35 #[] w fun e w' => ∃ v, e = .returned v ∧ RowAt Value.string w' v supers ∧ Below w.heap.size w w' := by
  have HC := Lib.hid (rowAt_lit Value.string w supers 9)
  go_enter Tryd.func35, Tryd.ntmps35
  go_wp2
  go_ret
  exact ⟨_, rfl, HC.out, (Below.refl _ _).alloc (Nat.le_refl _) _⟩
theorem typeWords_ref (w : World) : Calls Tryd.prog 36 #[] w fun e w' => ∃ v, e = .returned v ∧ RowAt Value.string w' v types ∧ Below w.heap.size w w' := by
  have HC := Lib.hid (rowAt_lit Value.string w types 9)
  go_enter Tryd.func36, Tryd.ntmps36
  go_wp2
  go_ret
  exact ⟨_, rfl, HC.out, (Below.refl _ _).alloc (Nat.le_refl _) _⟩
theorem getS_at (xs : List ByteArray) (k : Nat) (h : k < xs.length) : xs.getD k ByteArray.empty = xs[k] := by rw [List.getD_eq_getElem?_getD, List.getElem?_eq_getElem h]; rfl
theorem index_ref (v : Value) (xs : List ByteArray) (x : ByteArray) (w : World) (h : RowAt Value.string w v xs) (hn : xs.length ≤ 9223372036854775807) :
    Calls Tryd.prog 34 #[v, .string x] w fun e w' => e = .returned (.int .i64 (Lib.idxOfS xs x)) ∧ w = w' := by
  obtain ⟨ao, cap, rfl, hcap, hx⟩ := h
  have HX := Lib.hid hx
  clear hx
  go_enter Tryd.func34, Tryd.ntmps34
  go_wp2_with fail
  go_loop [5] (fun i => ∃ k : Nat, k ≤ xs.length ∧ i = .int .i64 k ∧ Hid (∀ j, j < k → xs.getD j ByteArray.empty ≠ x)) (fun i => xs.length - (intOf i).toNat)
  case atStart => exact ⟨0, by omega, rfl, Lib.hid fun j hj => by omega⟩
  case round =>
    obtain ⟨k, hk, rfl, H⟩ := hrel
    by_cases hlt : k < xs.length
    · rcases HX.out with e | ⟨b, o, rfl, hb, hc⟩
      · rw [e] at hlt; simp at hlt
      have hcell := hc k xs[k] (by simp)
      have hg := getS_at xs k hlt
      obtain ⟨y, hy⟩ : ∃ y, y = xs[k] := ⟨_, rfl⟩
      rw [← hy] at hcell hg
      have HG := Lib.hid hg
      clear hc hy hg
      by_cases he : y = x
      · have ht : (y.toList == x.toList) = true := same_true he
        have HR := Lib.hid (Lib.idxOfS_hit xs xs.length k x hlt (Nat.le_refl _) (by rw [HG.out]; exact he) H.out)
        rw [List.take_length] at HR
        clear he
        go_wp2_with fail
        go_ret
        exact ⟨ret_int HR.out.symm, rfl⟩
      · have ht : (y.toList == x.toList) = false := same_false he
        have H2 : Hid (∀ j, j < k + 1 → xs.getD j ByteArray.empty ≠ x) := Lib.hid fun j hj => by
          by_cases e : j = k
          · rw [e, HG.out]; exact he
          · exact H.out j (by omega)
        clear he H
        go_wp2_with fail
        go_round
        case rel => exact ⟨k + 1, by omega, by go_num, H2⟩
        case measure => simp [intOf]; omega
    · obtain rfl : k = xs.length := by omega
      have HR := Lib.hid (Lib.idxOfS_miss xs xs.length x H.out)
      rw [List.take_length] at HR
      go_wp2_with fail
      go_ret
      exact ⟨ret_int HR.out.symm, rfl⟩
theorem bit_ref (m i : Nat) (hm : m ≤ 1000000) (hi : i ≤ 1000) (w : World) : Calls Tryd.prog 37 #[.int .i64 m, .int .i64 i] w fun e w' => e = .returned (.bool (decide (m / 2 ^ i % 2 = 1))) ∧ w = w' := by
  go_enter Tryd.func37, Tryd.ntmps37
  go_wp2_with fail
  go_loop [0, 5] (fun q k => ∃ j : Nat, j ≤ i ∧ k = .int .i64 j ∧ q = .int .i64 ((m / 2 ^ j : Nat) : Int)) (fun _ k => i - (intOf k).toNat)
  case atStart => exact ⟨0, by omega, rfl, by simp⟩
  case round =>
    obtain ⟨j, hj, rfl, rfl⟩ := hrel
    have hle : m / 2 ^ j ≤ m := Nat.div_le_self _ _
    by_cases hlt : j < i
    · have HQ := Lib.hid (show m / 2 ^ (j + 1) = m / 2 ^ j / 2 by rw [Nat.pow_succ, Nat.div_div_eq_div_mul])
      obtain ⟨q, hq⟩ : ∃ q, q = m / 2 ^ j := ⟨_, rfl⟩
      rw [← hq] at hle HQ ⊢
      clear hq
      go_wp2_with fail
      go_round
      case rel => exact ⟨j + 1, by omega, by go_num, by rw [HQ.out]; go_num⟩
      case measure => simp [intOf]; omega
    · obtain rfl : j = i := by omega
      obtain ⟨q, hq⟩ : ∃ q, q = m / 2 ^ j := ⟨_, rfl⟩
      rw [← hq] at hle ⊢
      have HR := Lib.hid (show ((q : Int) % 2 == 1) = decide (q % 2 = 1) by rw [Bool.eq_iff_iff, beq_iff_eq, decide_eq_true_eq]; omega)
      have HQ := Lib.hid hq
      clear hq
      go_wp2_with fail
      go_ret
      exact ⟨ret_bool (by rw [← HQ.out]; exact HR.out), rfl⟩
theorem power_ref (i : Nat) (hi : i ≤ 40) (w : World) : Calls Tryd.prog 38 #[.int .i64 i] w fun e w' => e = .returned (.int .i64 ((2 ^ i : Nat) : Int)) ∧ w = w' := by
  have HP := Lib.hid (fun j (hj : j ≤ i) => Nat.pow_le_pow_right (n := 2) (by omega) (show j ≤ 40 by omega))
  go_enter Tryd.func38, Tryd.ntmps38
  go_wp2_with fail
  go_loop [3, 4] (fun q k => ∃ j : Nat, j ≤ i ∧ k = .int .i64 j ∧ q = .int .i64 ((2 ^ j : Nat) : Int)) (fun _ k => i - (intOf k).toNat)
  case atStart => exact ⟨0, by omega, rfl, by simp⟩
  case round =>
    obtain ⟨j, hj, rfl, rfl⟩ := hrel
    have hle := HP.out j hj
    have HQ := Lib.hid (show 2 ^ (j + 1) = 2 ^ j * 2 from Nat.pow_succ 2 j)
    by_cases hlt : j < i
    · obtain ⟨q, hq⟩ : ∃ q, q = 2 ^ j := ⟨_, rfl⟩
      rw [← hq] at hle HQ ⊢
      have hle2 : q ≤ 1099511627776 := hle
      clear hq hle
      go_wp2_with fail
      go_round
      case rel => exact ⟨j + 1, by omega, by go_num, by rw [HQ.out]; go_num⟩
      case measure => simp [intOf]; omega
    · obtain rfl : j = i := by omega
      obtain ⟨q, hq⟩ : ∃ q, q = 2 ^ j := ⟨_, rfl⟩
      rw [← hq]
      have HQ := Lib.hid hq
      clear hq hle
      go_wp2_with fail
      go_ret
      exact ⟨ret_int (by rw [HQ.out]; simp), rfl⟩
end Go.Proofs.YtgnffmlcjnnneaaDoor
