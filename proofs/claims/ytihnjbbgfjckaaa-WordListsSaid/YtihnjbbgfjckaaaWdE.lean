/- Chapter 02: Cut, plain definitions and walks (the program's and the reference's). -/
import Derived.Test.YtihnjbbgfjckaaaWdD
import Derived.WalkSmall
namespace Go.Proofs.Ytihnjbbgfjckaaa
open Go Go.RowKit Cg
/-- Does p begin at a place of s? -/
def occ (s p : ByteArray) (i : Nat) : Bool := p.data.toList.isPrefixOf (s.data.toList.drop i)
def hitB (s p : ByteArray) (i : Nat) : Bool := decide (depth s i = 0) && occ s p i
def cut (s p : ByteArray) : ByteArray × ByteArray × Bool := if p.size = 0 then (s, ⟨#[]⟩, false) else
  match (List.range s.size).find? (hitB s p) with
  | some i => (s.extract 0 i, s.extract (i + p.size) s.size, true)
  | none => (s, ⟨#[]⟩, false)
def NoHit (s p : ByteArray) (k : Nat) : Prop := ∀ i, i < k → hitB s p i = false
theorem NoHit.step {s p : ByteArray} {k : Nat} (h : NoHit s p k) (h2 : hitB s p k = false) : NoHit s p (k + 1) := fun i hi => by
  by_cases e : i = k
  · rw [e]; exact h2
  · exact h i (by omega)
theorem hit_true {s p : ByteArray} {k : Nat} (h : depth s k = 0) (h2 : occ s p k = true) : hitB s p k = true := by rw [hitB, h, h2]; rfl
theorem hit_occ {s p : ByteArray} {k : Nat} (h2 : occ s p k = false) : hitB s p k = false := by rw [hitB, h2, Bool.and_false]
theorem hit_depth {s p : ByteArray} {k : Nat} (h : ¬ depth s k = 0) : hitB s p k = false := by rw [hitB, decide_eq_false h]; rfl
theorem cut_some (s p : ByteArray) (k : Nat) (hp : p.size ≠ 0) (hk : k < s.size) (hn : NoHit s p k) (h : hitB s p k = true) : cut s p = (s.extract 0 k, s.extract (k + p.size) s.size, true) := by
  have : (List.range s.size).find? (hitB s p) = some k := by
    rw [List.find?_range_eq_some]
    exact ⟨h, by simpa using hk, fun j hj => by simpa using hn j hj⟩
  rw [cut, if_neg hp, this]
theorem cut_none (s p : ByteArray) (hp : p.size ≠ 0) (hn : NoHit s p s.size) : cut s p = (s, ⟨#[]⟩, false) := by
  have : (List.range s.size).find? (hitB s p) = none := by
    rw [List.find?_eq_none]
    intro x hx
    simpa using hn x (by simpa using hx)
  rw [cut, if_neg hp, this]
theorem occ_len {s p : ByteArray} {i : Nat} (h : occ s p i = true) : i + p.size ≤ s.size ∨ p.size = 0 := by
  unfold occ at h
  have h1 := (List.isPrefixOf_iff_prefix.1 h).length_le
  rw [List.length_drop, ← Lib.size_eq, ← Lib.size_eq] at h1
  omega
theorem occ_over {s p : ByteArray} {i : Nat} (hp : 0 < p.size) (h : s.size < i + p.size) : occ s p i = false := by
  cases e : occ s p i
  · rfl
  · rcases occ_len e with h1 | h1 <;> omega
theorem occ_extract (s p : ByteArray) (i : Nat) : ((s.extract i (i + p.size)).toList == p.toList) = occ s p i := by
  rw [Bool.eq_iff_iff, beq_iff_eq, Lib.extract_toList, ByteArray.toList_eq, occ, List.isPrefixOf_iff_prefix, List.prefix_iff_eq_take]
  rw [show i + p.size - i = p.data.toList.length by rw [← Lib.size_eq]; omega]
  exact ⟨fun e => e.symm, fun e => e.symm⟩
theorem NoHit.rest {s p : ByteArray} {k : Nat} (h : NoHit s p k) (hp : 0 < p.size) (hk : s.size < k + p.size) : NoHit s p s.size := fun i hi => by
  by_cases e : i < k
  · exact h i e
  · exact hit_occ (occ_over hp (by omega))
theorem hasPrefix_c (s p : ByteArray) (i : Nat) (w : World) : Calls Try.prog 48 #[.string (s.extract i s.size), .string p] w fun e w' => e = .returned (.bool (occ s p i)) ∧ w = w' :=
  (Try.strings_HasPrefix (s.extract i s.size) p w).mono fun _ _ ⟨h1, h2⟩ => ⟨by
    rw [h1, Lib.hasPrefix, Lib.extract_data, occ, List.take_of_length_le]
    rw [List.length_drop, ← Lib.size_eq]; omega, h2.symm⟩
theorem empty_iff {p : ByteArray} : p.toList.isEmpty = true ↔ p.size = 0 := by
  rw [ByteArray.toList_eq, List.isEmpty_iff, Lib.size_eq, List.length_eq_zero_iff]
theorem size_pos_false {p : ByteArray} (h : ¬ p.size = 0) : p.toList.isEmpty = false := by
  rw [Bool.eq_false_iff]; exact fun e => h (empty_iff.1 e)
theorem ret_cut {a b : ByteArray} {c : Bool} {x : ByteArray × ByteArray × Bool} (h : x = (a, b, c)) : Ending.returned (.tuple #[.string a, .string b, .bool c]) = .returned (.tuple #[.string x.1, .string x.2.1, .bool x.2.2]) := by rw [h]
set_option maxHeartbeats 1000000 in
theorem cut_prog (s p : ByteArray) (hs : s.size ≤ 1000000) (hps : p.size ≤ 1000000) (w : World) : Calls Try.prog 21 #[.string s, .string p] w fun e w' => e = .returned (.tuple #[.string (cut s p).1, .string (cut s p).2.1, .bool (cut s p).2.2]) ∧ ∃ n, w' = w.drewN n := by
  by_cases h0 : p.size = 0
  · obtain rfl := size_zero h0
    have HC := Lib.hid (show cut s ⟨#[]⟩ = (s, ⟨#[]⟩, false) from by rw [cut]; rfl)
    clear h0
    go_enter Try.func21, Try.ntmps21
    go_wp2
    refine wp_loop_rounds 1 ?_
    rw [rounds_succ]
    go_wp2
    go_ret3
    exact ⟨ret_cut HC.out, 0, rfl⟩
  have hp0 : 0 < p.size := by omega
  have HP0 := Lib.hid h0
  have e0 := size_pos_false h0
  clear h0
  go_enter Try.func21, Try.ntmps21
  go_wp2
  go_loop [7, 8] (fun dp i => ∃ k : Nat, k ≤ s.size ∧ i = .int .i64 k ∧ dp = .int .i64 (depth s k) ∧ NoHit s p k) (fun _ i => s.size - (intOf i).toNat)
  case atStart => exact ⟨0, by omega, rfl, rfl, fun i hi => by omega⟩
  case round =>
    obtain ⟨k, hk, rfl, rfl, hno⟩ := hrel
    by_cases hlt : k < s.size
    · have hdl := depth_le s k
      have HNO := Lib.hid hno
      clear hno
      have HD := Lib.hid (show depth s (k + 1) = dstep (depth s k) (s[k]'hlt) from by rw [depth, bt_eq s k hlt])
      have HZ := Lib.hid (@hit_true s p k)
      have HY := Lib.hid (@hit_depth s p k)
      have HO := Lib.hid (@hit_occ s p k)
      have HL := Lib.hid (@occ_len s p k)
      obtain ⟨d, hd⟩ : ∃ d, d = depth s k := ⟨_, rfl⟩
      rw [← hd] at hdl HD HZ HY ⊢
      clear hd
      obtain ⟨c, hc⟩ : ∃ c, s[k]'hlt = c := ⟨_, rfl⟩
      have HE := Lib.hid (show dstep d (s[k]'hlt) = dstep d c by rw [hc])
      have hcl : c.toNat < 256 := c.toNat_lt
      by_cases hz : d = 0
      · have t1 : ((d : Int) == 0) = true := by rw [hz]; rfl
        cases hoc : occ s p k
        · have HN := Lib.hid (HNO.out.step (HO.out hoc))
          have HOC := Lib.hid hoc
          clear hoc hz
          go_wp2_with (first
            | (go_at_call 48; refine (hasPrefix_c s p k _).mono ?_; rintro e w' ⟨rfl, rfl⟩; rw [HOC.out])
            | (go_at_call 46; refine (deeper d c (by omega) _).mono ?_; rintro e w' ⟨rfl, rfl⟩))
          go_round
          case rel => exact ⟨k + 1, by omega, by go_num, by rw [HD.out, HE.out], HN.out⟩
          case measure => simp [intOf]; omega
        · have hle : k + p.size ≤ s.size := by rcases HL.out hoc with h | h; exact h; omega
          have HN := Lib.hid (cut_some s p k (by omega) hlt HNO.out (HZ.out hz hoc))
          have HOC := Lib.hid hoc
          have i0 : (0 : Int) ≤ (k : Int) := by omega
          have i1 : (k : Int) ≤ (s.size : Int) := by omega
          have i2 : (k : Int) + (p.size : Int) ≤ (s.size : Int) := by omega
          have i3 : IntKind.i64.wrap ((k : Int) + (p.size : Int)) = (k : Int) + (p.size : Int) := IntWalk.i64_in _ (by omega)
          have i4 : ((k : Int) + (p.size : Int)).toNat = k + p.size := by omega
          clear hoc hz
          go_wp2_with (go_at_call 48; refine (hasPrefix_c s p k _).mono ?_; rintro e w' ⟨rfl, rfl⟩; rw [HOC.out])
          go_quiet (fail)
          go_wp2
          go_ret3
          exact ⟨ret_cut HN.out, _, rfl⟩
      · have t1 : ((d : Int) == 0) = false := beq_eq_false_iff_ne.2 (by omega)
        have HN := Lib.hid (HNO.out.step (HY.out hz))
        clear hz
        go_wp2_with (go_at_call 46; refine (deeper d c (by omega) _).mono ?_; rintro e w' ⟨rfl, rfl⟩)
        go_round
        case rel => exact ⟨k + 1, by omega, by go_num, by rw [HD.out, HE.out], HN.out⟩
        case measure => simp [intOf]; omega
    · obtain rfl : k = s.size := by omega
      have HN := Lib.hid (cut_none s p HP0.out hno)
      clear hno
      go_wp2
      go_ret3
      exact ⟨ret_cut HN.out, 0, rfl⟩
set_option maxHeartbeats 1000000 in
theorem cut_ref (s p : ByteArray) (hs : s.size ≤ 1000000) (hps : p.size ≤ 1000000) (w : World) : Calls Try.prog 22 #[.string s, .string p] w fun e w' => e = .returned (.tuple #[.string (cut s p).1, .string (cut s p).2.1, .bool (cut s p).2.2]) ∧ ∃ n, w' = w.drewN n := by
  by_cases h0 : p.size = 0
  · obtain rfl := size_zero h0
    have HC := Lib.hid (show cut s ⟨#[]⟩ = (s, ⟨#[]⟩, false) from by rw [cut]; rfl)
    clear h0
    go_enter Try.func22, Try.ntmps22
    go_wp2
    go_ret3
    exact ⟨ret_cut HC.out, 0, rfl⟩
  have hp0 : 0 < p.size := by omega
  have HP0 := Lib.hid h0
  have e0 := size_pos_false h0
  clear h0
  go_enter Try.func22, Try.ntmps22
  go_wp2
  go_loop [7] (fun i => ∃ k : Nat, k ≤ s.size ∧ i = .int .i64 k ∧ NoHit s p k) (fun i => s.size - (intOf i).toNat)
  case atStart => exact ⟨0, by omega, rfl, fun i hi => by omega⟩
  case round =>
    obtain ⟨k, hk, rfl, hno⟩ := hrel
    by_cases hle : k + p.size ≤ s.size
    · have hlt : k < s.size := by omega
      have HNO := Lib.hid hno
      clear hno
      have HX := Lib.hid (occ_extract s p k)
      have i0 : (0 : Int) ≤ (k : Int) := by omega
      have i1 : (k : Int) ≤ (s.size : Int) := by omega
      have i2 : (k : Int) + (p.size : Int) ≤ (s.size : Int) := by omega
      have i3 : IntKind.i64.wrap ((k : Int) + (p.size : Int)) = (k : Int) + (p.size : Int) := IntWalk.i64_in _ (by omega)
      have i4 : ((k : Int) + (p.size : Int)).toNat = k + p.size := by omega
      cases hoc : occ s p k
      · have t1 : ((s.extract k (k + p.size)).toList == p.toList) = false := by rw [HX.out, hoc]
        have HN := Lib.hid (HNO.out.step (hit_occ hoc))
        clear hoc
        go_wp2
        go_round
        case rel => exact ⟨k + 1, by omega, by go_num, HN.out⟩
        case measure => simp [intOf]; omega
      · have t1 : ((s.extract k (k + p.size)).toList == p.toList) = true := by rw [HX.out, hoc]
        by_cases hz : depth s k = 0
        · have t2 : ((depth s k : Int) == 0) = true := by rw [hz]; rfl
          have HN := Lib.hid (cut_some s p k (by omega) hlt HNO.out (hit_true hz hoc))
          clear hoc hz
          go_wp2_with (go_at_call 47; refine (depth_ref s k (by omega) hs _).mono ?_; rintro e w' ⟨rfl, rfl⟩)
          go_quiet (fail)
          go_wp2
          go_ret3
          exact ⟨ret_cut HN.out, _, rfl⟩
        · have t2 : ((depth s k : Int) == 0) = false := beq_eq_false_iff_ne.2 (by omega)
          have HN := Lib.hid (HNO.out.step (hit_depth hz))
          clear hoc hz
          go_wp2_with (go_at_call 47; refine (depth_ref s k (by omega) hs _).mono ?_; rintro e w' ⟨rfl, rfl⟩)
          go_round
          case rel => exact ⟨k + 1, by omega, by go_num, HN.out⟩
          case measure => simp [intOf]; omega
    · have HN := Lib.hid (cut_none s p HP0.out (hno.rest hp0 (by omega)))
      clear hno
      go_wp2
      go_ret3
      exact ⟨ret_cut HN.out, 0, rfl⟩
end Go.Proofs.Ytihnjbbgfjckaaa
