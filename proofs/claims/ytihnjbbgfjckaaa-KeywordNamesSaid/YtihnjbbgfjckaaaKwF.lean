/- Walks of chapter 11: Parse, the program's and the reference's. -/
import Derived.Test.YtihnjbbgfjckaaaKwE
import Derived.Deep.DrawnRows
namespace Go.Proofs.Ytihnjbbgfjckaaa
open Go Go.RowKit Cg
theorem okK_lt (m : Nat) (h : m < 131072) : okK (m : Int) = true := (okK_iff _).2 ⟨by omega, by omega⟩
theorem ktext_ktx (m : Nat) (h : m < 131072) : ktext (m : Int) = ktx m := by rw [ktext, okK_lt m h]; rfl
theorem split_size (s : ByteArray) : ∀ x ∈ split s 43, x.size ≤ s.size := by
  intro x hx
  rw [split, show brack 43 = false from rfl] at hx
  have hall : ∀ i, ∀ x ∈ (spl s 43 i).1, x.size ≤ s.size := by
    intro i
    induction i with
    | zero => intro x hx; simp [spl] at hx
    | succ i ih =>
      intro x hx
      rw [spl] at hx
      split at hx
      · rcases List.mem_append.1 hx with hx | hx
        · exact ih x hx
        · rw [List.mem_singleton.1 hx, ByteArray.size_extract]; omega
      · exact ih x hx
  rcases List.mem_append.1 hx with hx | hx
  · exact hall _ x hx
  · rw [List.mem_singleton.1 hx, ByteArray.size_extract]; omega
theorem split_len (s : ByteArray) : (split s 43).length ≤ s.size + 1 := by
  have := (spl_le s 43 s.size).2
  have e : split s 43 = (spl s 43 s.size).1 ++ [s.extract (spl s 43 s.size).2 s.size] := rfl
  rw [e, List.length_append]
  simp
  omega
set_option maxHeartbeats 1000000 in
theorem parse_prog (s : ByteArray) (hs : s.size ≤ 1000000) (w : World) : Calls Try.prog 32 #[.string s] w fun e w' => e = .returned (.tuple #[.int .i64 ((pres s).1 : Nat), .int .i64 ((pres s).2 : Nat)]) ∧ Below w.heap.size w w' := by
  have hll := split_len s
  have HP := Lib.hid (show pmask s = pl (split s 43) from rfl)
  go_enter Try.func32, Try.ntmps32
  go_wp2_with fail
  refine (split_prog s 43 hs _).mono ?_
  rintro e w1 ⟨v1, rfl, o1, b1⟩
  have S1 := Lib.hid (strsAt_own o1)
  have B1 := Lib.hid b1
  have hbz := b1.size
  clear o1 b1
  obtain ⟨xs, hxs⟩ : ∃ xs, xs = split s 43 := ⟨_, rfl⟩
  rw [← hxs] at hll S1 HP
  clear hxs
  have s1 := S1.out
  obtain ⟨ao, cap, rfl, _⟩ := s1
  go_wp2_with fail
  go_loopw [4, 11] (fun m i wr => ∃ j : Nat, j ≤ xs.length ∧ i = .int .i64 j ∧ m = .int .i64 ((pl (xs.take j) : Nat) : Int) ∧ Below w1.heap.size w1 wr) (fun _ i _ => xs.length - (intOf i).toNat)
  case atStart => exact ⟨0, by omega, rfl, rfl, Below.refl _ _⟩
  case round =>
    obtain ⟨j, hj, rfl, rfl, hnx⟩ := hrel
    by_cases hlt : j < xs.length
    · obtain ⟨ao', cap', he, hc⟩ := S1.out
      rcases hc with hc | ⟨bb, oo, hao, hlt2, hcc, hcell⟩
      · rw [hc] at hlt; simp at hlt
      have q := (hnx.cell (p := ⟨bb, oo + j, none⟩) hlt2).trans (hcell j xs[j] (by simp))
      simp only [Value.slice.injEq] at he
      obtain ⟨rfl, _, rfl⟩ := he
      subst hao
      have HS := Lib.hid (show pl (xs.take (j + 1)) = por xs[j] (pl (xs.take j)) 17 by rw [List.take_succ_eq_append_getElem hlt, pl_snoc])
      have hm0 := pl_lt (xs.take j)
      obtain ⟨p, hp⟩ : ∃ p, p = xs[j] := ⟨_, rfl⟩
      obtain ⟨m0, hm⟩ : ∃ m0, m0 = pl (xs.take j) := ⟨_, rfl⟩
      rw [← hp] at q HS
      rw [← hm] at hm0 HS ⊢
      clear hp hm hcell
      go_wp2_with fail
      go_loopw [4, 15] (fun m i wr2 => ∃ k : Nat, k ≤ 17 ∧ i = .int .i64 k ∧ m = .int .i64 ((por p m0 k : Nat) : Int) ∧ Below w1.heap.size w1 wr2) (fun _ i _ => 17 - (intOf i).toNat)
      case atStart => exact ⟨0, by omega, rfl, rfl, hnx⟩
      case round =>
        obtain ⟨k, hk, rfl, rfl, hnx2⟩ := hrel
        by_cases hlt3 : k < 17
        · have hpl := por_lt p m0 hm0 k (by omega)
          have H1 := Lib.hid (por_hit p m0 k)
          have H2 := Lib.hid (por_miss p m0 k)
          obtain ⟨m1, hm1⟩ : ∃ m1, m1 = por p m0 k := ⟨_, rfl⟩
          rw [← hm1] at hpl H1 H2 ⊢
          clear hm1
          have hpk : 2 ^ k < 2 ^ 17 := Nat.pow_lt_pow_right (by omega) hlt3
          have hor := i64_or_nat m1 (2 ^ k) (by omega) (by omega)
          obtain ⟨p2, hp2⟩ : ∃ p2, p2 = 2 ^ k := ⟨_, rfl⟩
          have hsh : IntKind.i64.wrap ((2 : Int) ^ k) = (p2 : Int) := by
            have : ((2 : Int) ^ k) = (p2 : Int) := by rw [hp2]; simp
            rw [this, IntKind.wrap_i64]
            rw [← hp2] at hpk
            omega
          rw [← hp2] at hor H1 hpk
          clear hp2
          by_cases he : kn k = p
          · have HH := Lib.hid (H1.out he)
            have hsame := same_true he
            clear he
            go_wp2_with fail
            refine (kname_prog k _).mono ?_
            rintro e w2 ⟨rfl, b2⟩
            rw [knI_nat]
            go_wp2_with fail
            go_roundw
            case rel => exact ⟨k + 1, by omega, by go_num, by rw [HH.out], hnx2.trans (b2.mono hnx2.size)⟩
            case measure => simp [intOf]; omega
          · have HH := Lib.hid (H2.out he)
            have hsame := same_false he
            clear he
            go_wp2_with fail
            refine (kname_prog k _).mono ?_
            rintro e w2 ⟨rfl, b2⟩
            rw [knI_nat]
            go_wp2_with fail
            go_roundw
            case rel => exact ⟨k + 1, by omega, by go_num, by rw [HH.out], hnx2.trans (b2.mono hnx2.size)⟩
            case measure => simp [intOf]; omega
        · obtain rfl : k = 17 := by omega
          go_wp2_with fail
          go_roundw
          case rel => exact ⟨j + 1, by omega, by go_num, by rw [HS.out], hnx2⟩
          case measure => simp [intOf]; omega
    · obtain rfl : j = xs.length := by omega
      rw [List.take_length, ← HP.out]
      have HK := Lib.hid (ktext_ktx (pmask s) (pmask_lt s))
      by_cases he : ktx (pmask s) = s
      · have HR := Lib.hid (show pres s = (pmask s, 0) by rw [pres, if_pos he])
        have hsame := same_true he
        clear he
        go_wp2_with fail
        refine (text_prog (pmask s) _).mono ?_
        rintro e w2 ⟨rfl, b2⟩
        rw [HK.out]
        go_wp2_with fail
        go_ret2
        exact ⟨by rw [HR.out] <;> rfl, B1.out.trans ((hnx.trans (b2.mono hnx.size)).mono hbz)⟩
      · have HR := Lib.hid (show pres s = (0, 3) by rw [pres, if_neg he])
        have hsame := same_false he
        clear he
        go_wp2_with fail
        refine (text_prog (pmask s) _).mono ?_
        rintro e w2 ⟨rfl, b2⟩
        rw [HK.out]
        go_wp2_with fail
        go_ret2
        exact ⟨by rw [HR.out] <;> rfl, B1.out.trans ((hnx.trans (b2.mono hnx.size)).mono hbz)⟩
end Go.Proofs.Ytihnjbbgfjckaaa
