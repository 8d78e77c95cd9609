/- Chapter 02: the fixed examples, and the walks of the laws WordIs, WordSplits, WordCuts, WordLines. -/
import Derived.Test.YtihnjbbgfjckaaaWdF
namespace Go.Proofs.Ytihnjbbgfjckaaa
open Go Go.RowKit Cg
/-- The world of a law's walk: the search's variable holds a number; of what was there when the call began nothing has turned. -/
def Gd (w0 w : World) : Prop := Mx w ∧ Below w0.heap.size w0 w
theorem Gd.step {w0 w w' : World} (h : Gd w0 w) (hb : Below w.heap.size w w') : Gd w0 w' := ⟨h.1.below hb, h.2.trans (hb.mono h.2.size)⟩
theorem Gd.drewN {w0 w : World} (h : Gd w0 w) (n : Nat) : Gd w0 (w.drewN n) := ⟨h.1, below_drewN h.2 n⟩
theorem drewN_below (w : World) (n : Nat) : Below w.heap.size w (w.drewN n) := below_drewN (Below.refl _ _) n
theorem strsAt_three (w : World) (a b c : ByteArray) (t : TypeId) : StrsAt (w.alloc (.cells #[.string a, .string b, .string c] t)) (.slice (some ⟨w.heap.size, 0, none⟩) 3 3) [a, b, c] := by
  refine ⟨_, 3, rfl, .inr ⟨w.heap.size, 0, rfl, ?_, Nat.le_refl _, fun j x hj => ?_⟩⟩
  · show w.heap.size < (w.heap.push _).size
    simp
  · rw [Nat.zero_add, cell_of_row _ _ j _ t (0, 0) (heap_alloc_new w _)]
    match j, hj with
    | 0, hj => simpa using hj
    | 1, hj => simpa using hj
    | 2, hj => simpa using hj
theorem alive02 (w0 w : World) (hg : Gd w0 w) : Calls Try.prog 15 #[] w fun e w' => e = .returned (.bool true) ∧ Gd w0 w' := by
  have G0 := Lib.hid hg
  clear hg
  go_enter Try.func15, Try.ntmps15
  go_wp2_with fail
  refine (cut_prog _ _ (by decide) (by decide) _).mono ?_
  rintro e w1 ⟨rfl, n1, hw1⟩
  rw [show cut ⟨#[120, 58, 32, 121, 58, 32, 122]⟩ ⟨#[58, 32]⟩ = (⟨#[120]⟩, ⟨#[121, 58, 32, 122]⟩, true) from by decide +kernel]
  have G1 := Lib.hid (show Gd w0 w1 by rw [hw1]; exact G0.out.drewN n1)
  clear hw1
  go_wp2_with fail
  refine (lines_prog _ (by decide) _).mono ?_
  rintro e w2 ⟨v2, rfl, o2, b2⟩
  have hl2 : lines ⟨#[97, 10, 98, 10]⟩ = [⟨#[97]⟩, ⟨#[98]⟩] := by decide +kernel
  rw [show linOk ⟨#[97, 10, 98, 10]⟩ = true from by decide +kernel]
  rw [hl2] at o2
  obtain ⟨g2, c2, rfl, _⟩ := own_nil_or o2 (by decide)
  have G2 := Lib.hid (G1.out.step b2)
  clear o2 b2 hl2
  go_wp2_with fail
  refine (split_prog _ 32 (by decide) _).mono ?_
  rintro e w3 ⟨v3, rfl, o3, b3⟩
  rw [show split ⟨#[97, 32, 40, 98, 32, 99, 41, 32, 100]⟩ 32 = [⟨#[97]⟩, ⟨#[40, 98, 32, 99, 41]⟩, ⟨#[100]⟩] from by decide +kernel] at o3
  have S3 := Lib.hid (strsAt_own o3)
  have G3 := Lib.hid (G2.out.step b3)
  clear o3 b3
  go_wp2_with fail
  have hal := (Below.refl w3.heap.size w3).alloc (Nat.le_refl _) (.cells #[.string ⟨#[97]⟩, .string ⟨#[40, 98, 32, 99, 41]⟩, .string ⟨#[100]⟩] 9)
  refine (same_ref _ _ [⟨#[97]⟩, ⟨#[40, 98, 32, 99, 41]⟩, ⟨#[100]⟩] [⟨#[97]⟩, ⟨#[40, 98, 32, 99, 41]⟩, ⟨#[100]⟩] _ (S3.out.below hal) (strsAt_three w3 _ _ _ _) (by decide) (by decide)).mono ?_
  rintro e w4 ⟨rfl, n4, hw4⟩
  rw [show decide (([⟨#[97]⟩, ⟨#[40, 98, 32, 99, 41]⟩, ⟨#[100]⟩] : List ByteArray) = [⟨#[97]⟩, ⟨#[40, 98, 32, 99, 41]⟩, ⟨#[100]⟩]) = true from decide_eq_true rfl]
  have G4 := Lib.hid (show Gd w0 w4 by rw [hw4]; exact (G3.out.step hal).drewN n4)
  clear hw4 hal
  go_wp2_with fail
  refine (is_prog _ (by decide) _ G4.out.1).mono ?_
  rintro e w5 ⟨rfl, b5⟩
  rw [show isW ⟨#[101, 109, 98, 101, 114, 45, 102, 111, 120]⟩ = true from by decide +kernel]
  have G5 := Lib.hid (G4.out.step b5)
  clear b5
  go_wp2_with fail
  refine (is_prog _ (by decide) _ G5.out.1).mono ?_
  rintro e w6 ⟨rfl, b6⟩
  rw [show isW ⟨#[97, 45, 45, 98]⟩ = false from by decide +kernel]
  have G6 := Lib.hid (G5.out.step b6)
  clear b6
  go_wp2_with fail
  go_ret
  exact ⟨rfl, G6.out⟩
theorem law_wordIs (s : ByteArray) (w : World) (hm : Mx w) : Calls Try.prog 3 #[.string s] w fun e w' => e = .returned (.bool true) ∧ Below w.heap.size w w' := by
  have G0 := Lib.hid (show Gd w w from ⟨hm, Below.refl _ _⟩)
  clear hm
  by_cases hs : s.size ≤ 2000
  · go_enter Try.func3, Try.ntmps3
    go_wp2_with fail
    refine (is_prog _ (by omega) _ G0.out.1).mono ?_
    rintro e w1 ⟨rfl, b1⟩
    have G1 := Lib.hid (G0.out.step b1)
    clear b1
    go_wp2_with fail
    refine (is_ref _ (by omega) _).mono ?_
    rintro e w2 ⟨rfl, rfl⟩
    go_wp2_with fail
    refine (alive02 w _ G1.out).mono ?_
    rintro e w3 ⟨rfl, g3⟩
    have G3 := Lib.hid g3
    clear g3
    go_wp2_with fail
    go_ret
    exact ⟨rfl, G3.out.2⟩
  · go_enter Try.func3, Try.ntmps3
    go_wp2_with fail
    refine (alive02 w _ G0.out).mono ?_
    rintro e w3 ⟨rfl, g3⟩
    have G3 := Lib.hid g3
    clear g3
    go_wp2_with fail
    go_ret
    exact ⟨rfl, G3.out.2⟩
theorem split_len (s : ByteArray) (b : UInt8) : (split s b).length ≤ s.size + 1 := by
  unfold split
  split
  · simp
  · have := (spl_le s b s.size).2
    simp
    omega
theorem law_wordSplits (s : ByteArray) (b : UInt8) (w : World) (hm : Mx w) : Calls Try.prog 4 #[.string s, .int .u8 b.toNat] w fun e w' => e = .returned (.bool true) ∧ Below w.heap.size w w' := by
  have G0 := Lib.hid (show Gd w w from ⟨hm, Below.refl _ _⟩)
  clear hm
  by_cases hs : s.size ≤ 500
  · go_enter Try.func4, Try.ntmps4
    go_wp2_with fail
    refine (split_prog s b (by omega) _).mono ?_
    rintro e w1 ⟨v1, rfl, o1, b1⟩
    have G1 := Lib.hid (G0.out.step b1)
    have S1 := Lib.hid (strsAt_own o1)
    clear b1 o1
    go_wp2_with fail
    refine (split_ref s b (by omega) _).mono ?_
    rintro e w2 ⟨v2, rfl, o2, b2⟩
    have G2 := Lib.hid (G1.out.step b2)
    have S2 := Lib.hid (strsAt_own o2)
    have S1' := Lib.hid (S1.out.below b2)
    have hl := split_len s b
    clear b2 o2
    go_wp2_with fail
    refine (same_ref v1 v2 (split s b) (split s b) _ S1'.out S2.out (by omega) (by omega)).mono ?_
    rintro e w3 ⟨rfl, n3, hw3⟩
    rw [show decide (split s b = split s b) = true from decide_eq_true rfl]
    have G3 := Lib.hid (show Gd w w3 by rw [hw3]; exact G2.out.drewN n3)
    clear hw3
    go_wp2_with fail
    refine (alive02 w _ G3.out).mono ?_
    rintro e w4 ⟨rfl, g4⟩
    have G4 := Lib.hid g4
    clear g4
    go_wp2_with fail
    go_ret
    exact ⟨rfl, G4.out.2⟩
  · go_enter Try.func4, Try.ntmps4
    go_wp2_with fail
    refine (alive02 w _ G0.out).mono ?_
    rintro e w3 ⟨rfl, g3⟩
    have G3 := Lib.hid g3
    clear g3
    go_wp2_with fail
    go_ret
    exact ⟨rfl, G3.out.2⟩
theorem law_wordCuts (s p : ByteArray) (w : World) (hm : Mx w) : Calls Try.prog 5 #[.string s, .string p] w fun e w' => e = .returned (.bool true) ∧ Below w.heap.size w w' := by
  have G0 := Lib.hid (show Gd w w from ⟨hm, Below.refl _ _⟩)
  clear hm
  by_cases hs : s.size ≤ 500
  · by_cases hp : p.size ≤ 500
    · go_enter Try.func5, Try.ntmps5
      go_wp2_with fail
      refine (cut_prog s p (by omega) (by omega) _).mono ?_
      rintro e w1 ⟨rfl, n1, hw1⟩
      have G1 := Lib.hid (show Gd w w1 by rw [hw1]; exact G0.out.drewN n1)
      clear hw1
      go_wp2_with fail
      refine (cut_ref s p (by omega) (by omega) _).mono ?_
      rintro e w2 ⟨rfl, n2, hw2⟩
      have G2 := Lib.hid (show Gd w w2 by rw [hw2]; exact G1.out.drewN n2)
      clear hw2
      go_wp2_with fail
      refine (alive02 w _ G2.out).mono ?_
      rintro e w3 ⟨rfl, g3⟩
      have G3 := Lib.hid g3
      clear g3
      go_wp2_with fail
      go_ret
      exact ⟨rfl, G3.out.2⟩
    · go_enter Try.func5, Try.ntmps5
      go_wp2_with fail
      refine (alive02 w _ G0.out).mono ?_
      rintro e w3 ⟨rfl, g3⟩
      have G3 := Lib.hid g3
      clear g3
      go_wp2_with fail
      go_ret
      exact ⟨rfl, G3.out.2⟩
  · go_enter Try.func5, Try.ntmps5
    go_wp2_with fail
    refine (alive02 w _ G0.out).mono ?_
    rintro e w3 ⟨rfl, g3⟩
    have G3 := Lib.hid g3
    clear g3
    go_wp2_with fail
    go_ret
    exact ⟨rfl, G3.out.2⟩
end Go.Proofs.Ytihnjbbgfjckaaa
