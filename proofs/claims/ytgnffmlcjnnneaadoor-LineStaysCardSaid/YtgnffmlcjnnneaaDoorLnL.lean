/- Chapter 10: strings.Split at one byte; ParseTypes, the program's. -/
import Derived.Test.YtgnffmlcjnnneaaDoorLnK
namespace Go.Proofs.YtgnffmlcjnnneaaDoor
open Go Go.RowKit Go.Sort Cg
def splS (s : ByteArray) (c : UInt8) : List ByteArray := Lib.splitB ⟨#[c]⟩ 0 (Lib.countB s ⟨#[c]⟩) s
theorem splS_len (s : ByteArray) (c : UInt8) : (splS s c).length = Lib.countB s ⟨#[c]⟩ + 1 := Lib.splitB_all ⟨#[c]⟩ (Nat.le_refl 1) 0 _ s rfl
theorem splS_le (s : ByteArray) (c : UInt8) : (splS s c).length ≤ s.size + 1 := by
  have := Lib.countB_le ⟨#[c]⟩ (Nat.le_refl 1) s.size s (Nat.le_refl _)
  rw [splS_len]
  omega
theorem splitS (s : ByteArray) (c : UInt8) (hs : s.size < 4294967281) (w : World) (hm : Mx w) : Calls Tryd.prog 29 #[.string s, .string ⟨#[c]⟩] w fun e w' => ∃ v, e = .returned v ∧ RowAt Value.string w' v (splS s c) ∧ Below w.heap.size w w' := by
  obtain ⟨m, hm⟩ := hm
  refine (Tryd.strings_Split s ⟨#[c]⟩ m w hs hm (Nat.le_refl 1)).mono ?_
  rintro e w' ⟨rfl, rfl⟩
  have h := rowAt_lit Value.string w (splS s c) 9
  rw [splS_len] at h
  exact ⟨_, rfl, h, (Below.refl _ _).alloc (Nat.le_refl _) _⟩
/-- The bits of the words before place k. -/
def orW (nm : Nat → ByteArray) (n : Nat) (xs : List ByteArray) : Nat → Nat
  | 0 => 0
  | k + 1 => orW nm n xs k ||| bitW nm (xs.getD k ByteArray.empty) n
theorem orW_lt (nm : Nat → ByteArray) (n : Nat) (xs : List ByteArray) : ∀ k, orW nm n xs k < 2 ^ n
  | 0 => Nat.two_pow_pos n
  | k + 1 => Nat.or_lt_two_pow (orW_lt nm n xs k) (bitW_lt nm _ n)
def tyMask (s : ByteArray) : Nat := orW typeN 6 (splS s 43) (splS s 43).length
def ptRes (s : ByteArray) : Nat × Nat := if tyMask s = 0 then (0, 3) else if tyPlus (tyMask s) = s then (tyMask s, 0) else (0, 3)
set_option maxHeartbeats 1000000 in
theorem parseTypes_prog (s : ByteArray) (hs : s.size ≤ 2000000) (w : World) (hm : Mx w) : Calls Tryd.prog 16 #[.string s] w fun e w' => e = .returned (.tuple #[.int .i64 ((ptRes s).1 : Nat), .int .i64 ((ptRes s).2 : Nat)]) ∧ Below w.heap.size w w' := by
  have hll := splS_le s 43
  have HP := Lib.hid (show tyMask s = orW typeN 6 (splS s 43) (splS s 43).length from rfl)
  have HM := Lib.hid hm
  clear hm
  go_enter Tryd.func16, Tryd.ntmps16
  go_wp2_with fail
  refine (splitS s 43 (by omega) _ HM.out).mono ?_
  rintro e w1 ⟨v1, rfl, r1, b1⟩
  have B1 := Lib.hid b1
  have hbz := b1.size
  obtain ⟨xs, hxs⟩ : ∃ xs, xs = splS s 43 := ⟨_, rfl⟩
  rw [← hxs] at hll r1 HP
  clear hxs b1
  have S1 := Lib.hid r1
  obtain ⟨ao, cap, rfl, _⟩ := r1
  go_wp2_with fail
  go_loopw [4, 10] (fun m i wr => ∃ j : Nat, j ≤ xs.length ∧ i = .int .i64 j ∧ m = .int .i64 ((orW typeN 6 xs j : Nat) : Int) ∧ Below w1.heap.size w1 wr) (fun _ i _ => xs.length - (intOf i).toNat)
  case atStart => exact ⟨0, by omega, rfl, rfl, Below.refl _ _⟩
  case round =>
    obtain ⟨j, hj, rfl, rfl, hnx⟩ := hrel
    by_cases hlt : j < xs.length
    · obtain ⟨ao', cap', he, _, hc⟩ := S1.out
      rcases hc with hc | ⟨bb, oo, hao, hlt2, hcell⟩
      · rw [hc] at hlt; simp at hlt
      have q := (hnx.cell (p := ⟨bb, oo + j, none⟩) hlt2).trans (cells_getD ByteArray.empty hcell j hlt)
      simp only [Value.slice.injEq] at he
      obtain ⟨rfl, _, rfl⟩ := he
      subst hao
      obtain ⟨p, hp⟩ : ∃ p, p = xs.getD j ByteArray.empty := ⟨_, rfl⟩
      have HS := Lib.hid (show orW typeN 6 xs (j + 1) = orW typeN 6 xs j ||| bitW typeN p 6 by rw [orW, hp])
      have hm0 := orW_lt typeN 6 xs j
      have hb0 := bitW_lt typeN p 6
      obtain ⟨m0, hm⟩ : ∃ m0, m0 = orW typeN 6 xs j := ⟨_, rfl⟩
      obtain ⟨b0, hb⟩ : ∃ b0, b0 = bitW typeN p 6 := ⟨_, rfl⟩
      rw [← hp] at q
      rw [← hm] at hm0 HS ⊢
      rw [← hb] at hb0 HS
      have HB := Lib.hid hb
      have hor := i64_or_nat m0 b0 (by omega) (by omega)
      clear hp hm hb hcell
      go_wp2_with fail
      refine (bit_typeN p _).mono ?_
      rintro e w2 ⟨rfl, rfl⟩
      rw [← HB.out]
      go_wp2_with fail
      go_roundw
      case rel => exact ⟨j + 1, by omega, by go_num, by rw [HS.out], hnx⟩
      case measure => simp [intOf]; omega
    · obtain rfl : j = xs.length := by omega
      have hlt6 := orW_lt typeN 6 xs xs.length
      rw [← HP.out] at hlt6 ⊢
      by_cases h0 : tyMask s = 0
      · have HR := Lib.hid (show ptRes s = (0, 3) by rw [ptRes, if_pos h0])
        rw [h0]
        clear h0 hlt6
        go_wp2_with fail
        go_ret2
        exact ⟨by rw [HR.out] <;> rfl, B1.out.trans (hnx.mono hbz)⟩
      · have HT := Lib.hid (tyText_nat (tyMask s) (by omega) (by omega))
        by_cases he : tyPlus (tyMask s) = s
        · have HR := Lib.hid (show ptRes s = (tyMask s, 0) by rw [ptRes, if_neg h0, if_pos he])
          have hsame := same_true he
          have h0z : ((tyMask s : Int) == 0) = false := by simpa using h0
          clear he
          go_wp2_with fail
          refine (typesText_prog (tyMask s) _).mono ?_
          rintro e w2 ⟨rfl, b2⟩
          rw [HT.out]
          go_wp2_with fail
          go_ret2
          exact ⟨by rw [HR.out] <;> rfl, B1.out.trans ((hnx.trans (b2.mono hnx.size)).mono hbz)⟩
        · have HR := Lib.hid (show ptRes s = (0, 3) by rw [ptRes, if_neg h0, if_neg he])
          have hsame := same_false he
          have h0z : ((tyMask s : Int) == 0) = false := by simpa using h0
          clear he
          go_wp2_with fail
          refine (typesText_prog (tyMask s) _).mono ?_
          rintro e w2 ⟨rfl, b2⟩
          rw [HT.out]
          go_wp2_with fail
          go_ret2
          exact ⟨by rw [HR.out] <;> rfl, B1.out.trans ((hnx.trans (b2.mono hnx.size)).mono hbz)⟩
end Go.Proofs.YtgnffmlcjnnneaaDoor
