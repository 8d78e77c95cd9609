/- Chapter 03: the fixed examples, and the walks of the laws. -/
import Derived.Test.YthhlpcmgcblopaaIdE
import Derived.Laws.OwnMore
namespace Go.Proofs.Ythhlpcmgcblopaa
open Go Go.RowKit Go.Sort Cg
theorem few_any (ao au : Option Addr) (n c m d : Nat) (w : World) : Calls Try.prog 15 #[.slice ao n c, .slice au m d] w fun e w' => e = .returned (.bool (decide (n ≤ 200 ∧ m ≤ 200))) ∧ w = w' := by
  by_cases h1 : n ≤ 200
  · by_cases h2 : m ≤ 200
    · rw [decide_eq_true (show n ≤ 200 ∧ m ≤ 200 from ⟨h1, h2⟩)]
      have h1' : decide ((n : Int) ≤ 200) = true := decide_eq_true (by omega)
      have h2' : decide ((m : Int) ≤ 200) = true := decide_eq_true (by omega)
      go_enter Try.func15, Try.ntmps15
      go_wp2_with fail
      go_ret
      exact ⟨rfl, rfl⟩
    · rw [decide_eq_false (show ¬ (n ≤ 200 ∧ m ≤ 200) from fun h => h2 h.2)]
      have h1' : decide ((n : Int) ≤ 200) = true := decide_eq_true (by omega)
      have h2' : decide ((m : Int) ≤ 200) = false := decide_eq_false (by omega)
      go_enter Try.func15, Try.ntmps15
      go_wp2_with fail
      go_ret
      exact ⟨rfl, rfl⟩
  · rw [decide_eq_false (show ¬ (n ≤ 200 ∧ m ≤ 200) from fun h => h1 h.1)]
    have h1' : decide ((n : Int) ≤ 200) = false := decide_eq_false (by omega)
    go_enter Try.func15, Try.ntmps15
    go_wp2_with fail
    go_ret
    exact ⟨rfl, rfl⟩
theorem union_eq (xs ys : List Int) : osort (xs ++ ys) = insAll ltZ (insAll ltZ [] xs) ys := by rw [osort_ins, insAll, List.foldl_append]; rfl
theorem osort_z (xs : List Int) : isZ (osort xs) = true := isZ_si (osort_si xs).1
theorem same_b (v u : Value) (xs ys : List Int) (w : World) (h : RowAt (Value.int .i64) w v xs) (k : RowAt (Value.int .i64) w u ys) (hn : xs.length ≤ 1000000) : Calls Try.prog 19 #[v, u] w fun e w' => e = .returned (.bool (decide (xs = ys))) ∧ Below w.heap.size w w' :=
  (same_ref v u xs ys w h k hn).mono fun _ _ ⟨h1, h2⟩ => ⟨h1, h2.below⟩
theorem same_p (v u : Value) (xs ys : List Int) (w : World) (h : RowAt (Value.int .i64) w v xs) (k : RowAt (Value.int .i64) w u ys) (hn : xs.length ≤ 1000000) (hm : ys.length ≤ 1000000) : Calls Try.prog 34 #[v, u] w fun e w' => e = .returned (.bool (decide (xs = ys))) ∧ Below w.heap.size w w' :=
  (same_prog v u xs ys w h k hn hm).mono fun _ _ ⟨h1, h2⟩ => ⟨h1, h2.below⟩
theorem is_b (v : Value) (xs : List Int) (w : World) (h : RowAt (Value.int .i64) w v xs) (hn : xs.length ≤ 1000000) : Calls Try.prog 18 #[v] w fun e w' => e = .returned (.bool (isZ xs)) ∧ Below w.heap.size w w' :=
  (is_ref v xs w h hn).mono fun _ _ ⟨h1, h2⟩ => ⟨h1, h2.below⟩
theorem is_p (v : Value) (xs : List Int) (w : World) (h : RowAt (Value.int .i64) w v xs) (hn : xs.length ≤ 1000000) : Calls Try.prog 17 #[v] w fun e w' => e = .returned (.bool (isZ xs)) ∧ Below w.heap.size w w' :=
  (is_prog v xs w h hn).mono fun _ _ ⟨h1, h2⟩ => ⟨h1, h2.below⟩
theorem has_b (v : Value) (xs : List Int) (x : Int) (w : World) (h : RowAt (Value.int .i64) w v xs) (hn : xs.length ≤ 1000000) : Calls Try.prog 28 #[v, .int .i64 x] w fun e w' => e = .returned (.bool (decide (x ∈ xs))) ∧ Below w.heap.size w w' :=
  (has_ref v xs x w h hn).mono fun _ _ ⟨h1, h2⟩ => ⟨h1, h2 ▸ Below.refl _ _⟩
theorem has_p (v : Value) (xs : List Int) (x : Int) (w : World) (h : RowAt (Value.int .i64) w v xs) (hn : xs.length ≤ 1000000) : Calls Try.prog 29 #[v, .int .i64 x] w fun e w' => e = .returned (.bool (decide (x ∈ xs))) ∧ Below w.heap.size w w' :=
  (has_prog v xs x w h hn).mono fun _ _ ⟨h1, h2⟩ => ⟨h1, h2 ▸ Below.refl _ _⟩
theorem index_b (v : Value) (xs : List Int) (x : Int) (w : World) (h : RowAt (Value.int .i64) w v xs) (hn : xs.length ≤ 1000000) : Calls Try.prog 31 #[v, .int .i64 x] w fun e w' => e = .returned (.int .i64 (Lib.idxOf xs x)) ∧ Below w.heap.size w w' :=
  (index_ref v xs x w h hn).mono fun _ _ ⟨h1, h2⟩ => ⟨h1, h2 ▸ Below.refl _ _⟩
theorem index_p (v : Value) (xs : List Int) (x : Int) (w : World) (h : RowAt (Value.int .i64) w v xs) (hn : xs.length ≤ 1000000) : Calls Try.prog 30 #[v, .int .i64 x] w fun e w' => e = .returned (.int .i64 (Lib.idxOf xs x)) ∧ Below w.heap.size w w' :=
  (index_prog v xs x w h hn).mono fun _ _ ⟨h1, h2⟩ => ⟨h1, h2 ▸ Below.refl _ _⟩
theorem few_b (ao au : Option Addr) (n c m d : Nat) (w : World) : Calls Try.prog 15 #[.slice ao n c, .slice au m d] w fun e w' => e = .returned (.bool (decide (n ≤ 200 ∧ m ≤ 200))) ∧ Below w.heap.size w w' :=
  (few_any ao au n c m d w).mono fun _ _ ⟨h1, h2⟩ => ⟨h1, h2 ▸ Below.refl _ _⟩
theorem alive03 (w0 w : World) (hg : Below w0.heap.size w0 w) : Calls Try.prog 16 #[] w fun e w' => e = .returned (.bool true) ∧ Below w0.heap.size w0 w' := by
  have G := Lib.hid hg
  clear hg
  have F1 := Lib.hid (show decide (osort [3, 1, 3] = [1, 3]) = true by rw [osort_ins]; decide)
  have F2 := Lib.hid (show decide (fminus [1, 2, 3] [2] = [1, 3]) = true by decide)
  have F3 := Lib.hid (show isZ [1, 3] = true by decide)
  have F4 := Lib.hid (show isZ [1, 1] = false by decide)
  have F5 := Lib.hid (show decide ((4 : Int) ∈ ([4] : List Int)) = true by decide)
  have F6 := Lib.hid (show Lib.idxOf [7, 4, 4] 4 = 1 by decide)
  have F7 := Lib.hid (show Lib.idxOf [] 4 = -1 by decide)
  have F8 := Lib.hid (show decide (osort ([2, 1] ++ [2]) = [1, 2]) = true by rw [osort_ins]; decide)
  have N1 := Lib.hid (show (osort [3, 1, 3]).length ≤ 1000000 from Nat.le_trans (osort_len [3, 1, 3]) (by decide))
  have N2 := Lib.hid (show (osort ([2, 1] ++ [2])).length ≤ 1000000 from Nat.le_trans (osort_len ([2, 1] ++ [2])) (by decide))
  go_enter Try.func16, Try.ntmps16
  go_wp2_with fail
  have L1 := Lib.hid (show RowAt (Value.int .i64) (w.alloc (.cells #[.int .i64 3, .int .i64 1, .int .i64 3] 3)) (.slice (some ⟨w.heap.size, 0, none⟩) 3 3) ([3, 1, 3] : List Int) from rowAt_lit (Value.int .i64) w [3, 1, 3] 3)
  have A := Lib.hid ((Below.refl w.heap.size w).alloc (Nat.le_refl _) (.cells #[.int .i64 3, .int .i64 1, .int .i64 3] 3))
  have G := Lib.hid (G.out.trans (A.out.mono G.out.size))
  refine (of_prog _ [3, 1, 3] _ L1.out (by decide)).mono ?_
  rintro e w1 ⟨v1, rfl, o1, b1⟩
  have B := Lib.hid b1
  have L1 := Lib.hid (L1.out.below B.out)
  have R1 := Lib.hid (rowAt_own o1)
  have G := Lib.hid (G.out.trans (B.out.mono G.out.size))
  clear o1 b1
  obtain ⟨a1, c1, rfl⟩ := R1.out.form
  clear L1
  go_wp2_with fail
  have L2 := Lib.hid (show RowAt (Value.int .i64) (w1.alloc (.cells #[.int .i64 1, .int .i64 3] 3)) (.slice (some ⟨w1.heap.size, 0, none⟩) 2 2) ([1, 3] : List Int) from rowAt_lit (Value.int .i64) w1 [1, 3] 3)
  have A := Lib.hid ((Below.refl w1.heap.size w1).alloc (Nat.le_refl _) (.cells #[.int .i64 1, .int .i64 3] 3))
  have R1 := Lib.hid (R1.out.below A.out)
  have G := Lib.hid (G.out.trans (A.out.mono G.out.size))
  refine (same_b _ _ (osort [3, 1, 3]) [1, 3] _ R1.out L2.out N1.out).mono ?_
  rintro e w2 ⟨rfl, b2⟩
  rw [F1.out]
  have B := Lib.hid b2
  have R1 := Lib.hid (R1.out.below B.out)
  have L2 := Lib.hid (L2.out.below B.out)
  have G := Lib.hid (G.out.trans (B.out.mono G.out.size))
  clear b2
  clear R1 L2
  go_wp2_with fail
  have L3 := Lib.hid (show RowAt (Value.int .i64) (w2.alloc (.cells #[.int .i64 1, .int .i64 2, .int .i64 3] 3)) (.slice (some ⟨w2.heap.size, 0, none⟩) 3 3) ([1, 2, 3] : List Int) from rowAt_lit (Value.int .i64) w2 [1, 2, 3] 3)
  have L4 := Lib.hid (show RowAt (Value.int .i64) ((w2.alloc (.cells #[.int .i64 1, .int .i64 2, .int .i64 3] 3)).alloc (.cells #[.int .i64 2] 3)) (.slice (some ⟨w2.heap.size + 1, 0, none⟩) 1 1) ([2] : List Int) from by have h := rowAt_lit (Value.int .i64) (w2.alloc (.cells #[.int .i64 1, .int .i64 2, .int .i64 3] 3)) ([2] : List Int) 3; rw [show (w2.alloc (.cells #[.int .i64 1, .int .i64 2, .int .i64 3] 3)).heap.size = w2.heap.size + 1 by simp] at h; exact h)
  have L3 := Lib.hid (L3.out.below ((Below.refl _ _).alloc (Nat.le_refl _) (.cells #[.int .i64 2] 3)))
  have A := Lib.hid (((Below.refl w2.heap.size w2).alloc (Nat.le_refl _) (.cells #[.int .i64 1, .int .i64 2, .int .i64 3] 3)).alloc (by simp) (.cells #[.int .i64 2] 3))
  have G := Lib.hid (G.out.trans (A.out.mono G.out.size))
  refine (fminus_prog _ _ [1, 2, 3] [2] _ L3.out L4.out (by decide) (by decide)).mono ?_
  rintro e w3 ⟨v3, rfl, o3, b3⟩
  have B := Lib.hid b3
  have L3 := Lib.hid (L3.out.below B.out)
  have L4 := Lib.hid (L4.out.below B.out)
  have R2 := Lib.hid (rowAt_own o3)
  have G := Lib.hid (G.out.trans (B.out.mono G.out.size))
  clear o3 b3
  obtain ⟨a3, c3, rfl⟩ := R2.out.form
  clear L3 L4
  go_wp2_with fail
  have L5 := Lib.hid (show RowAt (Value.int .i64) (w3.alloc (.cells #[.int .i64 1, .int .i64 3] 3)) (.slice (some ⟨w3.heap.size, 0, none⟩) 2 2) ([1, 3] : List Int) from rowAt_lit (Value.int .i64) w3 [1, 3] 3)
  have A := Lib.hid ((Below.refl w3.heap.size w3).alloc (Nat.le_refl _) (.cells #[.int .i64 1, .int .i64 3] 3))
  have R2 := Lib.hid (R2.out.below A.out)
  have G := Lib.hid (G.out.trans (A.out.mono G.out.size))
  refine (same_b _ _ (fminus [1, 2, 3] [2]) [1, 3] _ R2.out L5.out (by decide)).mono ?_
  rintro e w4 ⟨rfl, b4⟩
  rw [F2.out]
  have B := Lib.hid b4
  have R2 := Lib.hid (R2.out.below B.out)
  have L5 := Lib.hid (L5.out.below B.out)
  have G := Lib.hid (G.out.trans (B.out.mono G.out.size))
  clear b4
  clear R2 L5
  go_wp2_with fail
  have L6 := Lib.hid (show RowAt (Value.int .i64) (w4.alloc (.cells #[.int .i64 1, .int .i64 3] 3)) (.slice (some ⟨w4.heap.size, 0, none⟩) 2 2) ([1, 3] : List Int) from rowAt_lit (Value.int .i64) w4 [1, 3] 3)
  have A := Lib.hid ((Below.refl w4.heap.size w4).alloc (Nat.le_refl _) (.cells #[.int .i64 1, .int .i64 3] 3))
  have G := Lib.hid (G.out.trans (A.out.mono G.out.size))
  refine (is_p _ [1, 3] _ L6.out (by decide)).mono ?_
  rintro e w5 ⟨rfl, b5⟩
  rw [F3.out]
  have B := Lib.hid b5
  have L6 := Lib.hid (L6.out.below B.out)
  have G := Lib.hid (G.out.trans (B.out.mono G.out.size))
  clear b5
  clear L6
  go_wp2_with fail
  have L7 := Lib.hid (show RowAt (Value.int .i64) (w5.alloc (.cells #[.int .i64 1, .int .i64 1] 3)) (.slice (some ⟨w5.heap.size, 0, none⟩) 2 2) ([1, 1] : List Int) from rowAt_lit (Value.int .i64) w5 [1, 1] 3)
  have A := Lib.hid ((Below.refl w5.heap.size w5).alloc (Nat.le_refl _) (.cells #[.int .i64 1, .int .i64 1] 3))
  have G := Lib.hid (G.out.trans (A.out.mono G.out.size))
  refine (is_p _ [1, 1] _ L7.out (by decide)).mono ?_
  rintro e w6 ⟨rfl, b6⟩
  rw [F4.out]
  have B := Lib.hid b6
  have L7 := Lib.hid (L7.out.below B.out)
  have G := Lib.hid (G.out.trans (B.out.mono G.out.size))
  clear b6
  clear L7
  go_wp2_with fail
  have L8 := Lib.hid (show RowAt (Value.int .i64) (w6.alloc (.cells #[.int .i64 4] 3)) (.slice (some ⟨w6.heap.size, 0, none⟩) 1 1) ([4] : List Int) from rowAt_lit (Value.int .i64) w6 [4] 3)
  have A := Lib.hid ((Below.refl w6.heap.size w6).alloc (Nat.le_refl _) (.cells #[.int .i64 4] 3))
  have G := Lib.hid (G.out.trans (A.out.mono G.out.size))
  refine (has_p _ [4] 4 _ L8.out (by decide)).mono ?_
  rintro e w7 ⟨rfl, b7⟩
  rw [F5.out]
  have B := Lib.hid b7
  have L8 := Lib.hid (L8.out.below B.out)
  have G := Lib.hid (G.out.trans (B.out.mono G.out.size))
  clear b7
  clear L8
  go_wp2_with fail
  have L9 := Lib.hid (show RowAt (Value.int .i64) (w7.alloc (.cells #[.int .i64 7, .int .i64 4, .int .i64 4] 3)) (.slice (some ⟨w7.heap.size, 0, none⟩) 3 3) ([7, 4, 4] : List Int) from rowAt_lit (Value.int .i64) w7 [7, 4, 4] 3)
  have A := Lib.hid ((Below.refl w7.heap.size w7).alloc (Nat.le_refl _) (.cells #[.int .i64 7, .int .i64 4, .int .i64 4] 3))
  have G := Lib.hid (G.out.trans (A.out.mono G.out.size))
  refine (index_p _ [7, 4, 4] 4 _ L9.out (by decide)).mono ?_
  rintro e w8 ⟨rfl, b8⟩
  rw [F6.out]
  have B := Lib.hid b8
  have L9 := Lib.hid (L9.out.below B.out)
  have G := Lib.hid (G.out.trans (B.out.mono G.out.size))
  clear b8
  clear L9
  go_wp2_with fail
  refine (index_p _ [] 4 _ (rowAt_nil _ _) (by decide)).mono ?_
  rintro e w9 ⟨rfl, b9⟩
  rw [F7.out]
  have B := Lib.hid b9
  have G := Lib.hid (G.out.trans (B.out.mono G.out.size))
  clear b9
  go_wp2_with fail
  have L10 := Lib.hid (show RowAt (Value.int .i64) (w9.alloc (.cells #[.int .i64 2, .int .i64 1] 3)) (.slice (some ⟨w9.heap.size, 0, none⟩) 2 2) ([2, 1] : List Int) from rowAt_lit (Value.int .i64) w9 [2, 1] 3)
  have L11 := Lib.hid (show RowAt (Value.int .i64) ((w9.alloc (.cells #[.int .i64 2, .int .i64 1] 3)).alloc (.cells #[.int .i64 2] 3)) (.slice (some ⟨w9.heap.size + 1, 0, none⟩) 1 1) ([2] : List Int) from by have h := rowAt_lit (Value.int .i64) (w9.alloc (.cells #[.int .i64 2, .int .i64 1] 3)) ([2] : List Int) 3; rw [show (w9.alloc (.cells #[.int .i64 2, .int .i64 1] 3)).heap.size = w9.heap.size + 1 by simp] at h; exact h)
  have L10 := Lib.hid (L10.out.below ((Below.refl _ _).alloc (Nat.le_refl _) (.cells #[.int .i64 2] 3)))
  have A := Lib.hid (((Below.refl w9.heap.size w9).alloc (Nat.le_refl _) (.cells #[.int .i64 2, .int .i64 1] 3)).alloc (by simp) (.cells #[.int .i64 2] 3))
  have G := Lib.hid (G.out.trans (A.out.mono G.out.size))
  refine (union_prog _ _ [2, 1] [2] _ L10.out L11.out (by decide) (by decide)).mono ?_
  rintro e w10 ⟨v10, rfl, o10, b10⟩
  have B := Lib.hid b10
  have L10 := Lib.hid (L10.out.below B.out)
  have L11 := Lib.hid (L11.out.below B.out)
  have R3 := Lib.hid (rowAt_own o10)
  have G := Lib.hid (G.out.trans (B.out.mono G.out.size))
  clear o10 b10
  obtain ⟨a10, c10, rfl⟩ := R3.out.form
  clear L10 L11
  go_wp2_with fail
  have L12 := Lib.hid (show RowAt (Value.int .i64) (w10.alloc (.cells #[.int .i64 1, .int .i64 2] 3)) (.slice (some ⟨w10.heap.size, 0, none⟩) 2 2) ([1, 2] : List Int) from rowAt_lit (Value.int .i64) w10 [1, 2] 3)
  have A := Lib.hid ((Below.refl w10.heap.size w10).alloc (Nat.le_refl _) (.cells #[.int .i64 1, .int .i64 2] 3))
  have R3 := Lib.hid (R3.out.below A.out)
  have G := Lib.hid (G.out.trans (A.out.mono G.out.size))
  refine (same_b _ _ (osort ([2, 1] ++ [2])) [1, 2] _ R3.out L12.out N2.out).mono ?_
  rintro e w11 ⟨rfl, b11⟩
  rw [F8.out]
  have B := Lib.hid b11
  have R3 := Lib.hid (R3.out.below B.out)
  have L12 := Lib.hid (L12.out.below B.out)
  have G := Lib.hid (G.out.trans (B.out.mono G.out.size))
  clear b11
  clear R3 L12
  go_wp2_with fail
  go_ret
  exact ⟨rfl, G.out⟩
theorem law_idsetOf (v : Value) (xs : List Int) (w : World) (hX : RowAt (Value.int .i64) w v xs) : Calls Try.prog 3 #[v] w fun e w' => e = .returned (.bool true) ∧ Below w.heap.size w w' := by
  have G := Lib.hid (Below.refl w.heap.size w)
  have RX := Lib.hid hX
  obtain ⟨aX, cX, rfl⟩ := hX.form
  clear hX
  by_cases hs : xs.length ≤ 200 ∧ 0 ≤ 200
  · have F0 := Lib.hid (decide_eq_true hs)
    obtain ⟨s1, s2⟩ := hs
    obtain ⟨fb, hfb⟩ : ∃ fb, isZ xs = fb := ⟨_, rfl⟩
    have FB := Lib.hid hfb
    clear hfb
    have F1 := Lib.hid (show decide (osort xs = insAll ltZ [] xs) = true from decide_eq_true (osort_ins xs))
    have F2 := Lib.hid (osort_z xs)
    have N1 := Lib.hid (show (osort xs).length ≤ 1000000 from Nat.le_trans (osort_len xs) (by omega))
    go_enter Try.func3, Try.ntmps3
    go_wp2_with fail
    refine (few_b _ _ _ _ _ _ _).mono ?_
    rintro e w1 ⟨rfl, b1⟩
    rw [F0.out]
    have B := Lib.hid b1
    have RX := Lib.hid (RX.out.below B.out)
    have G := Lib.hid (G.out.trans (B.out.mono G.out.size))
    clear b1
    go_wp2_with fail
    refine (is_p _ xs _ RX.out (by omega)).mono ?_
    rintro e w2 ⟨rfl, b2⟩
    rw [FB.out]
    have B := Lib.hid b2
    have RX := Lib.hid (RX.out.below B.out)
    have G := Lib.hid (G.out.trans (B.out.mono G.out.size))
    clear b2
    go_wp2_with fail
    refine (is_b _ xs _ RX.out (by omega)).mono ?_
    rintro e w3 ⟨rfl, b3⟩
    rw [FB.out]
    have B := Lib.hid b3
    have RX := Lib.hid (RX.out.below B.out)
    have G := Lib.hid (G.out.trans (B.out.mono G.out.size))
    clear b3
    go_wp2_with fail
    refine (of_prog _ xs _ RX.out (by omega)).mono ?_
    rintro e w4 ⟨v4, rfl, o4, b4⟩
    have B := Lib.hid b4
    have RX := Lib.hid (RX.out.below B.out)
    have R1 := Lib.hid (rowAt_own o4)
    have G := Lib.hid (G.out.trans (B.out.mono G.out.size))
    clear o4 b4
    obtain ⟨a4, c4, rfl⟩ := R1.out.form
    go_wp2_with fail
    refine (of_ref _ xs _ RX.out (by omega)).mono ?_
    rintro e w5 ⟨v5, rfl, o5, b5⟩
    have B := Lib.hid b5
    have RX := Lib.hid (RX.out.below B.out)
    have R1 := Lib.hid (R1.out.below B.out)
    have R2 := Lib.hid (rowAt_own o5)
    have G := Lib.hid (G.out.trans (B.out.mono G.out.size))
    clear o5 b5
    obtain ⟨a5, c5, rfl⟩ := R2.out.form
    go_wp2_with fail
    refine (same_b _ _ (osort xs) (insAll ltZ [] xs) _ R1.out R2.out N1.out).mono ?_
    rintro e w6 ⟨rfl, b6⟩
    rw [F1.out]
    have B := Lib.hid b6
    have RX := Lib.hid (RX.out.below B.out)
    have R1 := Lib.hid (R1.out.below B.out)
    have R2 := Lib.hid (R2.out.below B.out)
    have G := Lib.hid (G.out.trans (B.out.mono G.out.size))
    clear b6
    go_wp2_with fail
    refine (of_prog _ xs _ RX.out (by omega)).mono ?_
    rintro e w7 ⟨v7, rfl, o7, b7⟩
    have B := Lib.hid b7
    have RX := Lib.hid (RX.out.below B.out)
    have R1 := Lib.hid (R1.out.below B.out)
    have R2 := Lib.hid (R2.out.below B.out)
    have R3 := Lib.hid (rowAt_own o7)
    have G := Lib.hid (G.out.trans (B.out.mono G.out.size))
    clear o7 b7
    obtain ⟨a7, c7, rfl⟩ := R3.out.form
    go_wp2_with fail
    refine (is_p _ (osort xs) _ R3.out N1.out).mono ?_
    rintro e w8 ⟨rfl, b8⟩
    rw [F2.out]
    have B := Lib.hid b8
    have RX := Lib.hid (RX.out.below B.out)
    have R1 := Lib.hid (R1.out.below B.out)
    have R2 := Lib.hid (R2.out.below B.out)
    have R3 := Lib.hid (R3.out.below B.out)
    have G := Lib.hid (G.out.trans (B.out.mono G.out.size))
    clear b8
    go_wp2_with fail
    refine (alive03 w _ G.out).mono ?_
    rintro e w99 ⟨rfl, g99⟩
    have G := Lib.hid g99
    clear g99
    go_wp2_with fail
    go_ret
    exact ⟨rfl, G.out⟩
  · have F0 := Lib.hid (decide_eq_false hs)
    clear hs
    go_enter Try.func3, Try.ntmps3
    go_wp2_with fail
    refine (few_b _ _ _ _ _ _ _).mono ?_
    rintro e w1 ⟨rfl, b1⟩
    rw [F0.out]
    have B := Lib.hid b1
    have RX := Lib.hid (RX.out.below B.out)
    have G := Lib.hid (G.out.trans (B.out.mono G.out.size))
    clear b1
    go_wp2_with fail
    refine (alive03 w _ G.out).mono ?_
    rintro e w99 ⟨rfl, g99⟩
    have G := Lib.hid g99
    clear g99
    go_wp2_with fail
    go_ret
    exact ⟨rfl, G.out⟩
theorem law_idsetSets (v u : Value) (xs ys : List Int) (w : World) (hX : RowAt (Value.int .i64) w v xs) (hY : RowAt (Value.int .i64) w u ys) : Calls Try.prog 4 #[v, u] w fun e w' => e = .returned (.bool true) ∧ Below w.heap.size w w' := by
  have G := Lib.hid (Below.refl w.heap.size w)
  have RX := Lib.hid hX
  obtain ⟨aX, cX, rfl⟩ := hX.form
  clear hX
  have RY := Lib.hid hY
  obtain ⟨aY, cY, rfl⟩ := hY.form
  clear hY
  by_cases hs : xs.length ≤ 200 ∧ ys.length ≤ 200
  · have F0 := Lib.hid (decide_eq_true hs)
    obtain ⟨s1, s2⟩ := hs
    have F1 := Lib.hid (show decide (osort (xs ++ ys) = insAll ltZ (insAll ltZ [] xs) ys) = true from decide_eq_true (union_eq xs ys))
    have N1 := Lib.hid (show (osort (xs ++ ys)).length ≤ 1000000 from Nat.le_trans (osort_len _) (by rw [List.length_append]; omega))
    have N2 := Lib.hid (show (fmeet xs ys).length ≤ 1000000 from Nat.le_trans (fmeet_len xs ys) (by omega))
    have N3 := Lib.hid (show (fminus xs ys).length ≤ 1000000 from Nat.le_trans (fminus_len xs ys) (by omega))
    go_enter Try.func4, Try.ntmps4
    go_wp2_with fail
    refine (few_b _ _ _ _ _ _ _).mono ?_
    rintro e w1 ⟨rfl, b1⟩
    rw [F0.out]
    have B := Lib.hid b1
    have RX := Lib.hid (RX.out.below B.out)
    have RY := Lib.hid (RY.out.below B.out)
    have G := Lib.hid (G.out.trans (B.out.mono G.out.size))
    clear b1
    go_wp2_with fail
    refine (union_prog _ _ xs ys _ RX.out RY.out (by omega) (by omega)).mono ?_
    rintro e w2 ⟨v2, rfl, o2, b2⟩
    have B := Lib.hid b2
    have RX := Lib.hid (RX.out.below B.out)
    have RY := Lib.hid (RY.out.below B.out)
    have R1 := Lib.hid (rowAt_own o2)
    have G := Lib.hid (G.out.trans (B.out.mono G.out.size))
    clear o2 b2
    obtain ⟨a2, c2, rfl⟩ := R1.out.form
    go_wp2_with fail
    refine (union_ref _ _ xs ys _ RX.out RY.out (by omega) (by omega)).mono ?_
    rintro e w3 ⟨v3, rfl, o3, b3⟩
    have B := Lib.hid b3
    have RX := Lib.hid (RX.out.below B.out)
    have RY := Lib.hid (RY.out.below B.out)
    have R1 := Lib.hid (R1.out.below B.out)
    have R2 := Lib.hid (rowAt_own o3)
    have G := Lib.hid (G.out.trans (B.out.mono G.out.size))
    clear o3 b3
    obtain ⟨a3, c3, rfl⟩ := R2.out.form
    go_wp2_with fail
    refine (same_b _ _ (osort (xs ++ ys)) (insAll ltZ (insAll ltZ [] xs) ys) _ R1.out R2.out N1.out).mono ?_
    rintro e w4 ⟨rfl, b4⟩
    rw [F1.out]
    have B := Lib.hid b4
    have RX := Lib.hid (RX.out.below B.out)
    have RY := Lib.hid (RY.out.below B.out)
    have R1 := Lib.hid (R1.out.below B.out)
    have R2 := Lib.hid (R2.out.below B.out)
    have G := Lib.hid (G.out.trans (B.out.mono G.out.size))
    clear b4
    clear R1 R2
    go_wp2_with fail
    refine (fmeet_prog _ _ xs ys _ RX.out RY.out (by omega) (by omega)).mono ?_
    rintro e w5 ⟨v5, rfl, o5, b5⟩
    have B := Lib.hid b5
    have RX := Lib.hid (RX.out.below B.out)
    have RY := Lib.hid (RY.out.below B.out)
    have R3 := Lib.hid (rowAt_own o5)
    have G := Lib.hid (G.out.trans (B.out.mono G.out.size))
    clear o5 b5
    obtain ⟨a5, c5, rfl⟩ := R3.out.form
    go_wp2_with fail
    refine (meet_ref _ _ xs ys _ RX.out RY.out (by omega) (by omega)).mono ?_
    rintro e w6 ⟨v6, rfl, o6, b6⟩
    have B := Lib.hid b6
    have RX := Lib.hid (RX.out.below B.out)
    have RY := Lib.hid (RY.out.below B.out)
    have R3 := Lib.hid (R3.out.below B.out)
    have R4 := Lib.hid (rowAt_own o6)
    have G := Lib.hid (G.out.trans (B.out.mono G.out.size))
    clear o6 b6
    obtain ⟨a6, c6, rfl⟩ := R4.out.form
    go_wp2_with fail
    refine (same_b _ _ (fmeet xs ys) (fmeet xs ys) _ R3.out R4.out N2.out).mono ?_
    rintro e w7 ⟨rfl, b7⟩
    rw [show decide (fmeet xs ys = fmeet xs ys) = true from decide_eq_true rfl]
    have B := Lib.hid b7
    have RX := Lib.hid (RX.out.below B.out)
    have RY := Lib.hid (RY.out.below B.out)
    have R3 := Lib.hid (R3.out.below B.out)
    have R4 := Lib.hid (R4.out.below B.out)
    have G := Lib.hid (G.out.trans (B.out.mono G.out.size))
    clear b7
    clear R3 R4
    go_wp2_with fail
    refine (fminus_prog _ _ xs ys _ RX.out RY.out (by omega) (by omega)).mono ?_
    rintro e w8 ⟨v8, rfl, o8, b8⟩
    have B := Lib.hid b8
    have RX := Lib.hid (RX.out.below B.out)
    have RY := Lib.hid (RY.out.below B.out)
    have R5 := Lib.hid (rowAt_own o8)
    have G := Lib.hid (G.out.trans (B.out.mono G.out.size))
    clear o8 b8
    obtain ⟨a8, c8, rfl⟩ := R5.out.form
    go_wp2_with fail
    refine (minus_ref _ _ xs ys _ RX.out RY.out (by omega) (by omega)).mono ?_
    rintro e w9 ⟨v9, rfl, o9, b9⟩
    have B := Lib.hid b9
    have RX := Lib.hid (RX.out.below B.out)
    have RY := Lib.hid (RY.out.below B.out)
    have R5 := Lib.hid (R5.out.below B.out)
    have R6 := Lib.hid (rowAt_own o9)
    have G := Lib.hid (G.out.trans (B.out.mono G.out.size))
    clear o9 b9
    obtain ⟨a9, c9, rfl⟩ := R6.out.form
    go_wp2_with fail
    refine (same_b _ _ (fminus xs ys) (fminus xs ys) _ R5.out R6.out N3.out).mono ?_
    rintro e w10 ⟨rfl, b10⟩
    rw [show decide (fminus xs ys = fminus xs ys) = true from decide_eq_true rfl]
    have B := Lib.hid b10
    have RX := Lib.hid (RX.out.below B.out)
    have RY := Lib.hid (RY.out.below B.out)
    have R5 := Lib.hid (R5.out.below B.out)
    have R6 := Lib.hid (R6.out.below B.out)
    have G := Lib.hid (G.out.trans (B.out.mono G.out.size))
    clear b10
    go_wp2_with fail
    refine (alive03 w _ G.out).mono ?_
    rintro e w99 ⟨rfl, g99⟩
    have G := Lib.hid g99
    clear g99
    go_wp2_with fail
    go_ret
    exact ⟨rfl, G.out⟩
  · have F0 := Lib.hid (decide_eq_false hs)
    clear hs
    go_enter Try.func4, Try.ntmps4
    go_wp2_with fail
    refine (few_b _ _ _ _ _ _ _).mono ?_
    rintro e w1 ⟨rfl, b1⟩
    rw [F0.out]
    have B := Lib.hid b1
    have RX := Lib.hid (RX.out.below B.out)
    have RY := Lib.hid (RY.out.below B.out)
    have G := Lib.hid (G.out.trans (B.out.mono G.out.size))
    clear b1
    go_wp2_with fail
    refine (alive03 w _ G.out).mono ?_
    rintro e w99 ⟨rfl, g99⟩
    have G := Lib.hid g99
    clear g99
    go_wp2_with fail
    go_ret
    exact ⟨rfl, G.out⟩
theorem law_idsetElements (v : Value) (xs : List Int) (n : Int) (w : World) (hX : RowAt (Value.int .i64) w v xs) : Calls Try.prog 6 #[v, .int .i64 n] w fun e w' => e = .returned (.bool true) ∧ Below w.heap.size w w' := by
  have G := Lib.hid (Below.refl w.heap.size w)
  have RX := Lib.hid hX
  obtain ⟨aX, cX, rfl⟩ := hX.form
  clear hX
  by_cases hs : xs.length ≤ 200 ∧ 0 ≤ 200
  · have F0 := Lib.hid (decide_eq_true hs)
    obtain ⟨s1, s2⟩ := hs
    obtain ⟨fb, hfb⟩ : ∃ fb, decide (n ∈ xs) = fb := ⟨_, rfl⟩
    have FB := Lib.hid hfb
    clear hfb
    obtain ⟨fi, hfi⟩ : ∃ fi, Lib.idxOf xs n = fi := ⟨_, rfl⟩
    have FI := Lib.hid hfi
    clear hfi
    have F2 := Lib.hid (show decide (n ∈ wout xs n) = false by simp [wout])
    have N1 := Lib.hid (show (wout xs n).length ≤ 1000000 from Nat.le_trans (wout_len xs n) (by omega))
    go_enter Try.func6, Try.ntmps6
    go_wp2_with fail
    refine (few_b _ _ _ _ _ _ _).mono ?_
    rintro e w1 ⟨rfl, b1⟩
    rw [F0.out]
    have B := Lib.hid b1
    have RX := Lib.hid (RX.out.below B.out)
    have G := Lib.hid (G.out.trans (B.out.mono G.out.size))
    clear b1
    go_wp2_with fail
    refine (has_p _ xs n _ RX.out (by omega)).mono ?_
    rintro e w2 ⟨rfl, b2⟩
    rw [FB.out]
    have B := Lib.hid b2
    have RX := Lib.hid (RX.out.below B.out)
    have G := Lib.hid (G.out.trans (B.out.mono G.out.size))
    clear b2
    go_wp2_with fail
    refine (has_b _ xs n _ RX.out (by omega)).mono ?_
    rintro e w3 ⟨rfl, b3⟩
    rw [FB.out]
    have B := Lib.hid b3
    have RX := Lib.hid (RX.out.below B.out)
    have G := Lib.hid (G.out.trans (B.out.mono G.out.size))
    clear b3
    go_wp2_with fail
    refine (index_p _ xs n _ RX.out (by omega)).mono ?_
    rintro e w4 ⟨rfl, b4⟩
    rw [FI.out]
    have B := Lib.hid b4
    have RX := Lib.hid (RX.out.below B.out)
    have G := Lib.hid (G.out.trans (B.out.mono G.out.size))
    clear b4
    go_wp2_with fail
    refine (index_b _ xs n _ RX.out (by omega)).mono ?_
    rintro e w5 ⟨rfl, b5⟩
    rw [FI.out]
    have B := Lib.hid b5
    have RX := Lib.hid (RX.out.below B.out)
    have G := Lib.hid (G.out.trans (B.out.mono G.out.size))
    clear b5
    go_wp2_with fail
    refine (without_prog _ xs n _ RX.out (by omega)).mono ?_
    rintro e w6 ⟨v6, rfl, o6, b6⟩
    have B := Lib.hid b6
    have RX := Lib.hid (RX.out.below B.out)
    have R1 := Lib.hid (rowAt_own o6)
    have G := Lib.hid (G.out.trans (B.out.mono G.out.size))
    clear o6 b6
    obtain ⟨a6, c6, rfl⟩ := R1.out.form
    go_wp2_with fail
    refine (without_ref _ xs n _ RX.out (by omega)).mono ?_
    rintro e w7 ⟨v7, rfl, o7, b7⟩
    have B := Lib.hid b7
    have RX := Lib.hid (RX.out.below B.out)
    have R1 := Lib.hid (R1.out.below B.out)
    have R2 := Lib.hid (rowAt_own o7)
    have G := Lib.hid (G.out.trans (B.out.mono G.out.size))
    clear o7 b7
    obtain ⟨a7, c7, rfl⟩ := R2.out.form
    go_wp2_with fail
    refine (same_b _ _ (wout xs n) (wout xs n) _ R1.out R2.out N1.out).mono ?_
    rintro e w8 ⟨rfl, b8⟩
    rw [show decide (wout xs n = wout xs n) = true from decide_eq_true rfl]
    have B := Lib.hid b8
    have RX := Lib.hid (RX.out.below B.out)
    have R1 := Lib.hid (R1.out.below B.out)
    have R2 := Lib.hid (R2.out.below B.out)
    have G := Lib.hid (G.out.trans (B.out.mono G.out.size))
    clear b8
    clear R1 R2
    go_wp2_with fail
    refine (without_prog _ xs n _ RX.out (by omega)).mono ?_
    rintro e w9 ⟨v9, rfl, o9, b9⟩
    have B := Lib.hid b9
    have RX := Lib.hid (RX.out.below B.out)
    have R3 := Lib.hid (rowAt_own o9)
    have G := Lib.hid (G.out.trans (B.out.mono G.out.size))
    clear o9 b9
    obtain ⟨a9, c9, rfl⟩ := R3.out.form
    go_wp2_with fail
    refine (has_p _ (wout xs n) n _ R3.out N1.out).mono ?_
    rintro e w10 ⟨rfl, b10⟩
    rw [F2.out]
    have B := Lib.hid b10
    have RX := Lib.hid (RX.out.below B.out)
    have R3 := Lib.hid (R3.out.below B.out)
    have G := Lib.hid (G.out.trans (B.out.mono G.out.size))
    clear b10
    go_wp2_with fail
    refine (alive03 w _ G.out).mono ?_
    rintro e w99 ⟨rfl, g99⟩
    have G := Lib.hid g99
    clear g99
    go_wp2_with fail
    go_ret
    exact ⟨rfl, G.out⟩
  · have F0 := Lib.hid (decide_eq_false hs)
    clear hs
    go_enter Try.func6, Try.ntmps6
    go_wp2_with fail
    refine (few_b _ _ _ _ _ _ _).mono ?_
    rintro e w1 ⟨rfl, b1⟩
    rw [F0.out]
    have B := Lib.hid b1
    have RX := Lib.hid (RX.out.below B.out)
    have G := Lib.hid (G.out.trans (B.out.mono G.out.size))
    clear b1
    go_wp2_with fail
    refine (alive03 w _ G.out).mono ?_
    rintro e w99 ⟨rfl, g99⟩
    have G := Lib.hid g99
    clear g99
    go_wp2_with fail
    go_ret
    exact ⟨rfl, G.out⟩
theorem law_idsetSame (v u : Value) (xs ys : List Int) (w : World) (hX : RowAt (Value.int .i64) w v xs) (hY : RowAt (Value.int .i64) w u ys) : Calls Try.prog 8 #[v, u] w fun e w' => e = .returned (.bool true) ∧ Below w.heap.size w w' := by
  have G := Lib.hid (Below.refl w.heap.size w)
  have RX := Lib.hid hX
  obtain ⟨aX, cX, rfl⟩ := hX.form
  clear hX
  have RY := Lib.hid hY
  obtain ⟨aY, cY, rfl⟩ := hY.form
  clear hY
  by_cases hs : xs.length ≤ 200 ∧ ys.length ≤ 200
  · have F0 := Lib.hid (decide_eq_true hs)
    obtain ⟨s1, s2⟩ := hs
    obtain ⟨fb, hfb⟩ : ∃ fb, decide (xs = ys) = fb := ⟨_, rfl⟩
    have FB := Lib.hid hfb
    have FC := Lib.hid (show decide (ys = xs) = fb by rw [← hfb]; exact decide_eq_decide.2 ⟨Eq.symm, Eq.symm⟩)
    clear hfb
    go_enter Try.func8, Try.ntmps8
    go_wp2_with fail
    refine (few_b _ _ _ _ _ _ _).mono ?_
    rintro e w1 ⟨rfl, b1⟩
    rw [F0.out]
    have B := Lib.hid b1
    have RX := Lib.hid (RX.out.below B.out)
    have RY := Lib.hid (RY.out.below B.out)
    have G := Lib.hid (G.out.trans (B.out.mono G.out.size))
    clear b1
    go_wp2_with fail
    refine (same_p _ _ xs ys _ RX.out RY.out (by omega) (by omega)).mono ?_
    rintro e w2 ⟨rfl, b2⟩
    rw [FB.out]
    have B := Lib.hid b2
    have RX := Lib.hid (RX.out.below B.out)
    have RY := Lib.hid (RY.out.below B.out)
    have G := Lib.hid (G.out.trans (B.out.mono G.out.size))
    clear b2
    go_wp2_with fail
    refine (same_b _ _ xs ys _ RX.out RY.out (by omega)).mono ?_
    rintro e w3 ⟨rfl, b3⟩
    rw [FB.out]
    have B := Lib.hid b3
    have RX := Lib.hid (RX.out.below B.out)
    have RY := Lib.hid (RY.out.below B.out)
    have G := Lib.hid (G.out.trans (B.out.mono G.out.size))
    clear b3
    go_wp2_with fail
    refine (same_p _ _ xs xs _ RX.out RX.out (by omega) (by omega)).mono ?_
    rintro e w4 ⟨rfl, b4⟩
    rw [show decide (xs = xs) = true from decide_eq_true rfl]
    have B := Lib.hid b4
    have RX := Lib.hid (RX.out.below B.out)
    have RY := Lib.hid (RY.out.below B.out)
    have G := Lib.hid (G.out.trans (B.out.mono G.out.size))
    clear b4
    go_wp2_with fail
    refine (same_p _ _ ys xs _ RY.out RX.out (by omega) (by omega)).mono ?_
    rintro e w5 ⟨rfl, b5⟩
    rw [FC.out]
    have B := Lib.hid b5
    have RX := Lib.hid (RX.out.below B.out)
    have RY := Lib.hid (RY.out.below B.out)
    have G := Lib.hid (G.out.trans (B.out.mono G.out.size))
    clear b5
    go_wp2_with fail
    refine (same_p _ _ xs ys _ RX.out RY.out (by omega) (by omega)).mono ?_
    rintro e w6 ⟨rfl, b6⟩
    rw [FB.out]
    have B := Lib.hid b6
    have RX := Lib.hid (RX.out.below B.out)
    have RY := Lib.hid (RY.out.below B.out)
    have G := Lib.hid (G.out.trans (B.out.mono G.out.size))
    clear b6
    go_wp2_with fail
    refine (alive03 w _ G.out).mono ?_
    rintro e w99 ⟨rfl, g99⟩
    have G := Lib.hid g99
    clear g99
    go_wp2_with fail
    go_ret
    exact ⟨rfl, G.out⟩
  · have F0 := Lib.hid (decide_eq_false hs)
    clear hs
    go_enter Try.func8, Try.ntmps8
    go_wp2_with fail
    refine (few_b _ _ _ _ _ _ _).mono ?_
    rintro e w1 ⟨rfl, b1⟩
    rw [F0.out]
    have B := Lib.hid b1
    have RX := Lib.hid (RX.out.below B.out)
    have RY := Lib.hid (RY.out.below B.out)
    have G := Lib.hid (G.out.trans (B.out.mono G.out.size))
    clear b1
    go_wp2_with fail
    refine (alive03 w _ G.out).mono ?_
    rintro e w99 ⟨rfl, g99⟩
    have G := Lib.hid g99
    clear g99
    go_wp2_with fail
    go_ret
    exact ⟨rfl, G.out⟩
end Go.Proofs.Ythhlpcmgcblopaa
