/- The functions of package color compute what the Lean functions of this text say, in every world whose table of names is as the program's text lays it. -/
import Derived.Test.YteiiponfgjabeaaDoorShelf
import Derived.Test.YteiiponfgjabeaaDoorColA
namespace Go.Proofs.YteiiponfgjabeaaDoor
open Go Go.RowKit Cg
/-- The table of names, as the program's text lays it. -/
def Tab (w : World) : Prop := ∃ t fr, w.heap[0]? = some (.cells #[.string (nm 0), .string (nm 1), .string (nm 2), .string (nm 3), .string (nm 4)] t fr)
theorem Tab.lt {w : World} (h : Tab w) : 0 < w.heap.size := by
  obtain ⟨t, fr, h⟩ := h
  exact (Array.getElem?_eq_some_iff.1 h).1
theorem Tab.below {w w' : World} (h : Tab w) (hb : Below w.heap.size w w') : Tab w' := by
  have hl := h.lt
  obtain ⟨t, fr, h⟩ := h
  exact ⟨t, fr, (hb.block 0 hl).trans h⟩
def sel (n : Nat) : Nat → List ByteArray
  | 0 => []
  | k + 1 => if n / 2 ^ k % 2 = 1 then sel n k ++ [nm k] else sel n k
theorem sel_hit (n k : Nat) (h : n / 2 ^ k % 2 = 1) : sel n (k + 1) = sel n k ++ [nm k] := by rw [sel, if_pos h]
theorem sel_miss (n k : Nat) (h : ¬ n / 2 ^ k % 2 = 1) : sel n (k + 1) = sel n k := by rw [sel, if_neg h]
theorem sel_len (n : Nat) : ∀ k, (sel n k).length ≤ k
  | 0 => Nat.le_refl _
  | k + 1 => by
    have := sel_len n k
    rw [sel]
    split <;> simp <;> omega
theorem sel_join : ∀ n, n < 32 → n ≠ 0 → (sel n 5) ≠ [] ∧ (Lib.join ((sel n 5).map (·.data.toList)) [43]) = (acc n 5).data.toList ∧ (acc n 5).size ≤ 100 := by decide +kernel
theorem stringsElem : ElemIs Tryd.prog 35 9 (.string ⟨#[]⟩) 1 16 := elemIs_mk Tryd.underlying35 (by kernel_rfl) rfl (by decide)

theorem name_prog (n : Int) (w : World) (ht : Tab w) : Calls Tryd.prog 10 #[.int .i64 n] w fun e w' => e = .returned (.string (nmI n)) ∧ w = w' := by
  obtain ⟨tt, fr, hg⟩ := ht
  by_cases h0 : n < 0
  · rw [nmI_out n (.inl h0)]
    clear hg
    go_enter Tryd.func10, Tryd.ntmps10
    go_wp2
    go_ret
    exact ⟨rfl, rfl⟩
  by_cases h5 : 5 ≤ n
  · rw [nmI_out n (.inr h5)]
    clear hg
    go_enter Tryd.func10, Tryd.ntmps10
    go_wp2
    go_ret
    exact ⟨rfl, rfl⟩
  have c0 : w.cell? ⟨0, 0, none⟩ = some (.string (nm 0)) := by rw [cell_of_row w 0 0 _ _ _ hg]; rfl
  have c1 : w.cell? ⟨0, 1, none⟩ = some (.string (nm 1)) := by rw [cell_of_row w 0 1 _ _ _ hg]; rfl
  have c2 : w.cell? ⟨0, 2, none⟩ = some (.string (nm 2)) := by rw [cell_of_row w 0 2 _ _ _ hg]; rfl
  have c3 : w.cell? ⟨0, 3, none⟩ = some (.string (nm 3)) := by rw [cell_of_row w 0 3 _ _ _ hg]; rfl
  have c4 : w.cell? ⟨0, 4, none⟩ = some (.string (nm 4)) := by rw [cell_of_row w 0 4 _ _ _ hg]; rfl
  clear hg
  rcases (show n = 0 ∨ n = 1 ∨ n = 2 ∨ n = 3 ∨ n = 4 by omega) with rfl | rfl | rfl | rfl | rfl
  all_goals
    clear h0 h5
    go_enter Tryd.func10, Tryd.ntmps10
    go_wp2
    go_ret
    exact ⟨rfl, rfl⟩

set_option maxHeartbeats 1000000 in
theorem text_prog_in (n : Nat) (hn : n ≤ 31) (w : World) (ht : Tab w) : Calls Tryd.prog 15 #[.int .i64 n] w fun e w' => e = .returned (.string (txtN n)) ∧ Below w.heap.size w w' := by
  obtain ⟨tt, fr, hg⟩ := ht
  have ho : okMask n = true := by simp [okMask]; omega
  have HO := Lib.hid ho
  clear ho
  by_cases h0 : n = 0
  · subst h0
    clear hg
    go_enter Tryd.func15, Tryd.ntmps15
    go_wp2_with (go_at_call 8; refine (is_prog _ _).mono ?_; rintro e w' ⟨rfl, rfl⟩; rw [show okMask (0 : Int) = true from rfl])
    go_ret
    exact ⟨rfl, Below.refl _ _⟩
  have hb : ((n : Int) == 0) = false := beq_eq_false_iff_ne.2 (by omega)
  clear h0
  have j0 : ∀ W, (Instr.index 32 (.agg #[.string (nm 0), .string (nm 1), .string (nm 2), .string (nm 3), .string (nm 4)]) (.int .i64 0)).run Tryd.prog W = .ok (.string (nm 0)) W := fun _ => by kernel_rfl
  have j1 : ∀ W, (Instr.index 32 (.agg #[.string (nm 0), .string (nm 1), .string (nm 2), .string (nm 3), .string (nm 4)]) (.int .i64 1)).run Tryd.prog W = .ok (.string (nm 1)) W := fun _ => by kernel_rfl
  have j2 : ∀ W, (Instr.index 32 (.agg #[.string (nm 0), .string (nm 1), .string (nm 2), .string (nm 3), .string (nm 4)]) (.int .i64 2)).run Tryd.prog W = .ok (.string (nm 2)) W := fun _ => by kernel_rfl
  have j3 : ∀ W, (Instr.index 32 (.agg #[.string (nm 0), .string (nm 1), .string (nm 2), .string (nm 3), .string (nm 4)]) (.int .i64 3)).run Tryd.prog W = .ok (.string (nm 3)) W := fun _ => by kernel_rfl
  have j4 : ∀ W, (Instr.index 32 (.agg #[.string (nm 0), .string (nm 1), .string (nm 2), .string (nm 3), .string (nm 4)]) (.int .i64 4)).run Tryd.prog W = .ok (.string (nm 4)) W := fun _ => by kernel_rfl
  go_enter Tryd.func15, Tryd.ntmps15
  go_wp2_with (first | (go_at_call 8; refine (is_prog _ _).mono ?_; rintro e w' ⟨rfl, rfl⟩; rw [HO.out]) | (refine wpList_load_row rfl 32 _ rfl 0 rfl tt _ fr _ hg Tryd.underlying32 rfl (by kernel_rfl) ?_))
  go_loopw [3, 12] (fun v i wr => ∃ k : Nat, k ≤ 5 ∧ i = .int .i64 k ∧ wr.ownsRow w.heap.size 9 1 v (sel n k).length ((sel n k).map Value.string) ∧ Below w.heap.size w wr) (fun _ i _ => 5 - (intOf i).toNat)
  case atStart => exact ⟨0, by omega, rfl, World.ownsRow_nil _ _ _ _, Below.refl _ _⟩
  case round =>
    obtain ⟨k, hk, rfl, hown, hnx⟩ := hrel
    by_cases hlt : k < 5
    · rcases (show k = 0 ∨ k = 1 ∨ k = 2 ∨ k = 3 ∨ k = 4 by omega) with rfl | rfl | rfl | rfl | rfl
      · have e0 : bits .and .i64 ((n : Int)) 1 = ((n / 2 ^ 0 % 2 : Nat) : Int) := by
          have := i64_and_one (n) (by omega)
          simpa using this
        by_cases hb1 : n / 2 ^ 0 % 2 = 1
        · have t1 : (bits .and .i64 ((n : Int)) 1 == 1) = true := by rw [e0, hb1]; rfl
          have H := Lib.hid (sel_hit n 0 hb1)
          have hl := sel_len n 0
          clear e0 hb1
          go_wp2_with (first | (at_builtin; refine wpList_append_new rfl (.tmp 21) (.tmp 23) 35 rfl w.heap.size stringsElem _ _ _ rfl hown [.string (nm 0)] rfl rfl rfl (by omega) (by omega) hnx.size ?_; intro v' w1 hown' hbel hne))
          go_roundw
          case rel => exact ⟨0 + 1, by omega, rfl, by rw [H.out]; simpa using hown', hnx.trans hbel⟩
          case measure => simp [intOf]
        · have t1 : (bits .and .i64 ((n : Int)) 1 == 1) = false := by rw [e0, beq_eq_false_iff_ne]; omega
          have H := Lib.hid (sel_miss n 0 hb1)
          clear e0 hb1
          go_wp2
          go_roundw
          case rel => exact ⟨0 + 1, by omega, rfl, by rw [H.out]; exact hown, hnx⟩
          case measure => simp [intOf]
      · have e0 : bits .and .i64 ((n : Int) / 2) 1 = ((n / 2 ^ 1 % 2 : Nat) : Int) := by
          have := i64_and_one (n / 2) (by omega)
          simpa using this
        by_cases hb1 : n / 2 ^ 1 % 2 = 1
        · have t1 : (bits .and .i64 ((n : Int) / 2) 1 == 1) = true := by rw [e0, hb1]; rfl
          have H := Lib.hid (sel_hit n 1 hb1)
          have hl := sel_len n 1
          clear e0 hb1
          go_wp2_with (first | (at_builtin; refine wpList_append_new rfl (.tmp 21) (.tmp 23) 35 rfl w.heap.size stringsElem _ _ _ rfl hown [.string (nm 1)] rfl rfl rfl (by omega) (by omega) hnx.size ?_; intro v' w1 hown' hbel hne))
          go_roundw
          case rel => exact ⟨1 + 1, by omega, rfl, by rw [H.out]; simpa using hown', hnx.trans hbel⟩
          case measure => simp [intOf]
        · have t1 : (bits .and .i64 ((n : Int) / 2) 1 == 1) = false := by rw [e0, beq_eq_false_iff_ne]; omega
          have H := Lib.hid (sel_miss n 1 hb1)
          clear e0 hb1
          go_wp2
          go_roundw
          case rel => exact ⟨1 + 1, by omega, rfl, by rw [H.out]; exact hown, hnx⟩
          case measure => simp [intOf]
      · have e0 : bits .and .i64 ((n : Int) / 4) 1 = ((n / 2 ^ 2 % 2 : Nat) : Int) := by
          have := i64_and_one (n / 4) (by omega)
          simpa using this
        by_cases hb1 : n / 2 ^ 2 % 2 = 1
        · have t1 : (bits .and .i64 ((n : Int) / 4) 1 == 1) = true := by rw [e0, hb1]; rfl
          have H := Lib.hid (sel_hit n 2 hb1)
          have hl := sel_len n 2
          clear e0 hb1
          go_wp2_with (first | (at_builtin; refine wpList_append_new rfl (.tmp 21) (.tmp 23) 35 rfl w.heap.size stringsElem _ _ _ rfl hown [.string (nm 2)] rfl rfl rfl (by omega) (by omega) hnx.size ?_; intro v' w1 hown' hbel hne))
          go_roundw
          case rel => exact ⟨2 + 1, by omega, rfl, by rw [H.out]; simpa using hown', hnx.trans hbel⟩
          case measure => simp [intOf]
        · have t1 : (bits .and .i64 ((n : Int) / 4) 1 == 1) = false := by rw [e0, beq_eq_false_iff_ne]; omega
          have H := Lib.hid (sel_miss n 2 hb1)
          clear e0 hb1
          go_wp2
          go_roundw
          case rel => exact ⟨2 + 1, by omega, rfl, by rw [H.out]; exact hown, hnx⟩
          case measure => simp [intOf]
      · have e0 : bits .and .i64 ((n : Int) / 8) 1 = ((n / 2 ^ 3 % 2 : Nat) : Int) := by
          have := i64_and_one (n / 8) (by omega)
          simpa using this
        by_cases hb1 : n / 2 ^ 3 % 2 = 1
        · have t1 : (bits .and .i64 ((n : Int) / 8) 1 == 1) = true := by rw [e0, hb1]; rfl
          have H := Lib.hid (sel_hit n 3 hb1)
          have hl := sel_len n 3
          clear e0 hb1
          go_wp2_with (first | (at_builtin; refine wpList_append_new rfl (.tmp 21) (.tmp 23) 35 rfl w.heap.size stringsElem _ _ _ rfl hown [.string (nm 3)] rfl rfl rfl (by omega) (by omega) hnx.size ?_; intro v' w1 hown' hbel hne))
          go_roundw
          case rel => exact ⟨3 + 1, by omega, rfl, by rw [H.out]; simpa using hown', hnx.trans hbel⟩
          case measure => simp [intOf]
        · have t1 : (bits .and .i64 ((n : Int) / 8) 1 == 1) = false := by rw [e0, beq_eq_false_iff_ne]; omega
          have H := Lib.hid (sel_miss n 3 hb1)
          clear e0 hb1
          go_wp2
          go_roundw
          case rel => exact ⟨3 + 1, by omega, rfl, by rw [H.out]; exact hown, hnx⟩
          case measure => simp [intOf]
      · have e0 : bits .and .i64 ((n : Int) / 16) 1 = ((n / 2 ^ 4 % 2 : Nat) : Int) := by
          have := i64_and_one (n / 16) (by omega)
          simpa using this
        by_cases hb1 : n / 2 ^ 4 % 2 = 1
        · have t1 : (bits .and .i64 ((n : Int) / 16) 1 == 1) = true := by rw [e0, hb1]; rfl
          have H := Lib.hid (sel_hit n 4 hb1)
          have hl := sel_len n 4
          clear e0 hb1
          go_wp2_with (first | (at_builtin; refine wpList_append_new rfl (.tmp 21) (.tmp 23) 35 rfl w.heap.size stringsElem _ _ _ rfl hown [.string (nm 4)] rfl rfl rfl (by omega) (by omega) hnx.size ?_; intro v' w1 hown' hbel hne))
          go_roundw
          case rel => exact ⟨4 + 1, by omega, rfl, by rw [H.out]; simpa using hown', hnx.trans hbel⟩
          case measure => simp [intOf]
        · have t1 : (bits .and .i64 ((n : Int) / 16) 1 == 1) = false := by rw [e0, beq_eq_false_iff_ne]; omega
          have H := Lib.hid (sel_miss n 4 hb1)
          clear e0 hb1
          go_wp2
          go_roundw
          case rel => exact ⟨4 + 1, by omega, rfl, by rw [H.out]; exact hown, hnx⟩
          case measure => simp [intOf]
    · obtain rfl : k = 5 := by omega
      have h0 : n ≠ 0 := by have := beq_eq_false_iff_ne.1 hb; omega
      obtain ⟨hne, hj, hsz⟩ := sel_join n (by omega) h0
      have hpos : 0 < (sel n 5).length := List.length_pos_iff.2 hne
      obtain ⟨g, cap, rfl, hb1, hb2, hcap, hcell⟩ := own_nil_or hown hpos
      have HJ := Lib.hid hj
      have HC := Lib.hid hcell
      have hl := sel_len n 5
      clear hj hcell hne hown hpos h0
      go_wp2_with fail
      refine (Tryd.strings_Join g 0 cap (sel n 5) ⟨#[43]⟩ _ (fun j x hx => ?_) hb2 (by omega) hcap ?_).mono ?_
      · rw [Nat.zero_add]; exact HC.out j (.string x) (by simp [hx])
      · rw [HJ.out]; simpa using Nat.le_trans hsz (by decide)
      rintro e w' ⟨rfl, hbel⟩
      go_wp2
      go_ret
      exact ⟨ret_string (by rw [HJ.out]; unfold txtN; rw [if_neg (by have := beq_eq_false_iff_ne.1 hb; omega)]), hnx.trans (hbel.mono hnx.size)⟩
theorem text_prog (n : Int) (w : World) (ht : Tab w) : Calls Tryd.prog 15 #[.int .i64 n] w fun e w' => e = .returned (.string (txt n)) ∧ Below w.heap.size w w' := by
  cases ho : okMask n
  · have e : txt n = ⟨#[]⟩ := by rw [txt, ho]; rfl
    rw [e]
    have HO := Lib.hid ho
    clear ho e ht
    go_enter Tryd.func15, Tryd.ntmps15
    go_wp2_with (go_at_call 8; refine (is_prog _ _).mono ?_; rintro e w' ⟨rfl, rfl⟩; rw [HO.out])
    go_ret
    exact ⟨rfl, Below.refl _ _⟩
  · have e : txt n = txtN n.toNat := by rw [txt, ho]; rfl
    have hb : 0 ≤ n ∧ n ≤ 31 := by simpa [okMask] using ho
    obtain ⟨k, rfl⟩ := Int.eq_ofNat_of_zero_le hb.1
    rw [e]
    exact text_prog_in k (by omega) w ht
theorem parse_prog (s : ByteArray) (w : World) (ht : Tab w) : Calls Tryd.prog 17 #[.string s] w fun e w' => e = .returned (.tuple #[.int .i64 (prs s).1, .int .i64 (prs s).2]) ∧ Below w.heap.size w w' := by
  have HT := Lib.hid ht
  clear ht
  go_enter Tryd.func17, Tryd.ntmps17
  go_wp2
  go_loopw [5] (fun i wr => ∃ k : Nat, k ≤ 32 ∧ i = .int .i64 k ∧ NoneBelow s k ∧ Below w.heap.size w wr) (fun i _ => 32 - (intOf i).toNat)
  case atStart => exact ⟨0, by omega, rfl, (fun m hm => by omega), Below.refl _ _⟩
  case round =>
    obtain ⟨k, hk, rfl, hno, hnx⟩ := hrel
    have htr := Lib.hid (HT.out.below hnx)
    by_cases hlt : k < 32
    · have HK := Lib.hid (txt_nat k hlt)
      by_cases he : txtN k = s
      · have hp := Lib.hid (prs_some s k hlt he hno)
        have t1 : ((txtN k).toList == s.toList) = true := same_true he
        clear he
        go_wp2_with (go_at_call 15; refine (text_prog _ _ htr.out).mono ?_; rintro e w' ⟨rfl, hbel⟩; rw [HK.out])
        go_ret2
        exact ⟨by rw [hp.out]; rfl, hnx.trans (hbel.mono hnx.size)⟩
      · have t1 : ((txtN k).toList == s.toList) = false := same_false he
        have hs := hno.step he
        clear he
        go_wp2_with (go_at_call 15; refine (text_prog _ _ htr.out).mono ?_; rintro e w' ⟨rfl, hbel⟩; rw [HK.out])
        go_roundw
        case rel => exact ⟨k + 1, by omega, by go_num, hs, hnx.trans (hbel.mono hnx.size)⟩
        case measure => simp [intOf]; omega
    · obtain rfl : k = 32 := by omega
      have hp := Lib.hid (prs_none s hno)
      go_wp2
      go_ret2
      exact ⟨by rw [hp.out]; rfl, hnx⟩
theorem ones64 (n : Nat) (hn : n < 32) (w : World) : Calls Tryd.prog 22 #[.int .u64 (n : Int)] w fun e w' => e = .returned (.int .i64 (cnt n 5)) ∧ w = w' := by
  go_enter Tryd.func22, Tryd.ntmps22
  go_wp2
  go_ret
  refine ⟨ret_int ?_, rfl⟩
  revert n
  decide +kernel
theorem ones (n : Nat) (hn : n < 32) (w : World) : Calls Tryd.prog 19 #[.int .u64 (n : Int)] w fun e w' => e = .returned (.int .i64 (cnt n 5)) ∧ w = w' := by
  go_enter Tryd.func19, Tryd.ntmps19
  go_wp2_with (go_at_call 22; refine (ones64 _ hn _).mono ?_; rintro e w' ⟨rfl, rfl⟩)
  go_ret
  exact ⟨rfl, rfl⟩
theorem count_prog (n : Int) (w : World) : Calls Tryd.prog 12 #[.int .i64 n] w fun e w' => e = .returned (.int .i64 (cntI n)) ∧ w = w' := by
  cases ho : okMask n
  · have e : cntI n = 0 := by rw [cntI, ho]; rfl
    rw [e]
    have HO := Lib.hid ho
    clear ho e
    go_enter Tryd.func12, Tryd.ntmps12
    go_wp2_with (go_at_call 8; refine (is_prog _ _).mono ?_; rintro e w' ⟨rfl, rfl⟩; rw [HO.out])
    go_ret
    exact ⟨rfl, rfl⟩
  · have e : cntI n = cnt n.toNat 5 := by rw [cntI, ho]; rfl
    have hb : 0 ≤ n ∧ n ≤ 31 := by simpa [okMask] using ho
    obtain ⟨k, rfl⟩ := Int.eq_ofNat_of_zero_le hb.1
    rw [e, Int.toNat_natCast]
    have HO := Lib.hid ho
    have hk : k < 32 := by omega
    clear ho e hb
    go_enter Tryd.func12, Tryd.ntmps12
    go_wp2_with (first | (go_at_call 8; refine (is_prog _ _).mono ?_; rintro e w' ⟨rfl, rfl⟩; rw [HO.out]) | (go_at_call 19; refine (ones k hk _).mono ?_; rintro e w' ⟨rfl, rfl⟩))
    go_ret
    exact ⟨rfl, rfl⟩
theorem alive (w : World) (ht : Tab w) : Calls Tryd.prog 14 #[] w fun e w' => e = .returned (.bool true) ∧ Below w.heap.size w w' := by
  have HT := Lib.hid ht
  clear ht
  go_enter Tryd.func14, Tryd.ntmps14
  go_wp2_with fail
  refine (parse_prog _ _ HT.out).mono ?_
  rintro e w1 ⟨rfl, b1⟩
  rw [show prs ⟨#[97, 109, 98, 101, 114, 43, 114, 117, 98, 121]⟩ = (9, 0) from by decide +kernel]
  have HT1 := Lib.hid (HT.out.below b1)
  go_wp2_with fail
  refine (text_prog _ _ HT1.out).mono ?_
  rintro e w2 ⟨rfl, b2⟩
  rw [show txt 9 = ⟨#[97, 109, 98, 101, 114, 43, 114, 117, 98, 121]⟩ from by decide +kernel]
  have HT2 := Lib.hid (HT1.out.below b2)
  go_wp2_with fail
  refine (text_prog _ _ HT2.out).mono ?_
  rintro e w3 ⟨rfl, b3⟩
  rw [show txt 0 = ⟨#[110, 111, 110, 101]⟩ from by decide +kernel]
  have HT3 := Lib.hid (HT2.out.below b3)
  go_wp2_with fail
  refine (name_prog _ _ HT3.out).mono ?_
  rintro e w4 ⟨rfl, rfl⟩
  rw [show nmI 4 = ⟨#[101, 109, 101, 114, 97, 108, 100]⟩ from by decide +kernel]
  go_wp2_with fail
  refine (count_prog _ _).mono ?_
  rintro e w4 ⟨rfl, rfl⟩
  rw [show cntI 31 = 5 from by decide +kernel]
  go_wp2_with fail
  refine (is_prog _ _).mono ?_
  rintro e w4 ⟨rfl, rfl⟩
  rw [show okMask 31 = true from by decide +kernel]
  go_wp2_with fail
  refine (is_prog _ _).mono ?_
  rintro e w4 ⟨rfl, rfl⟩
  rw [show okMask 32 = false from by decide +kernel]
  go_wp2_with fail
  go_ret
  exact ⟨rfl, b1.trans ((b2.mono b1.size).trans (b3.mono (Nat.le_trans b1.size b2.size)))⟩
end Go.Proofs.YteiiponfgjabeaaDoor
