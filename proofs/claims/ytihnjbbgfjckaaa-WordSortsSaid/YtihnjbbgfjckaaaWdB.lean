/- Walks of chapter 02: the depth, the parts between separators (the program's and the reference's), and the comparison of two lists. -/
import Derived.Test.YtihnjbbgfjckaaaShelf
import Derived.Test.YtihnjbbgfjckaaaWdA
import Derived.WalkLawsBesides
import Derived.WalkSpells
import Derived.BigQuiet
import Derived.Deep.QuietTactic
namespace Go.Proofs.Ytihnjbbgfjckaaa
open Go Go.RowKit Cg
theorem stringsElem : ElemIs Try.prog 25 9 (.string ⟨#[]⟩) 1 16 := elemIs_mk Try.underlying25 (by kernel_rfl) rfl (by decide)
theorem deeper (d : Nat) (c : UInt8) (hd : d ≤ 1000000000000) (w : World) : Calls Try.prog 46 #[.int .i64 d, .int .u8 c.toNat] w fun e w' => e = .returned (.int .i64 (dstep d c)) ∧ w = w' := by
  have hcl : c.toNat < 256 := c.toNat_lt
  by_cases n40 : c.toNat = 40
  · have HF := Lib.hid (dstep_up d c (.inl n40))
    have t40 : ((c.toNat : Int) == 40) = true := beq_iff_eq.2 (by omega)
    have t91 : ((c.toNat : Int) == 91) = false := beq_eq_false_iff_ne.2 (by omega)
    have t41 : ((c.toNat : Int) == 41) = false := beq_eq_false_iff_ne.2 (by omega)
    have t93 : ((c.toNat : Int) == 93) = false := beq_eq_false_iff_ne.2 (by omega)
    clear n40
    go_enter Try.func46, Try.ntmps46
    go_wp2
    go_ret
    exact ⟨ret_int (by rw [HF.out]; rfl), rfl⟩
  by_cases n91 : c.toNat = 91
  · have HF := Lib.hid (dstep_up d c (.inr n91))
    have t40 : ((c.toNat : Int) == 40) = false := beq_eq_false_iff_ne.2 (by omega)
    have t91 : ((c.toNat : Int) == 91) = true := beq_iff_eq.2 (by omega)
    have t41 : ((c.toNat : Int) == 41) = false := beq_eq_false_iff_ne.2 (by omega)
    have t93 : ((c.toNat : Int) == 93) = false := beq_eq_false_iff_ne.2 (by omega)
    clear n40 n91
    go_enter Try.func46, Try.ntmps46
    go_wp2
    go_ret
    exact ⟨ret_int (by rw [HF.out]; rfl), rfl⟩
  by_cases n41 : c.toNat = 41
  · have HF := Lib.hid (dstep_down d c (by omega) (.inl n41))
    have t40 : ((c.toNat : Int) == 40) = false := beq_eq_false_iff_ne.2 (by omega)
    have t91 : ((c.toNat : Int) == 91) = false := beq_eq_false_iff_ne.2 (by omega)
    have t41 : ((c.toNat : Int) == 41) = true := beq_iff_eq.2 (by omega)
    have t93 : ((c.toNat : Int) == 93) = false := beq_eq_false_iff_ne.2 (by omega)
    clear n40 n91 n41
    by_cases h0 : d = 0
    · have d0 : ¬ (0 : Int) < (d : Int) := by omega
      subst h0
      go_enter Try.func46, Try.ntmps46
      go_wp2
      go_ret
      exact ⟨ret_int (by rw [HF.out]; rfl), rfl⟩
    · have d1 : (0 : Int) < (d : Int) := by omega
      clear h0
      go_enter Try.func46, Try.ntmps46
      go_wp2
      go_ret
      exact ⟨ret_int (by rw [HF.out]; omega), rfl⟩
  by_cases n93 : c.toNat = 93
  · have HF := Lib.hid (dstep_down d c (by omega) (.inr n93))
    have t40 : ((c.toNat : Int) == 40) = false := beq_eq_false_iff_ne.2 (by omega)
    have t91 : ((c.toNat : Int) == 91) = false := beq_eq_false_iff_ne.2 (by omega)
    have t41 : ((c.toNat : Int) == 41) = false := beq_eq_false_iff_ne.2 (by omega)
    have t93 : ((c.toNat : Int) == 93) = true := beq_iff_eq.2 (by omega)
    clear n40 n91 n41 n93
    by_cases h0 : d = 0
    · have d0 : ¬ (0 : Int) < (d : Int) := by omega
      subst h0
      go_enter Try.func46, Try.ntmps46
      go_wp2
      go_ret
      exact ⟨ret_int (by rw [HF.out]; rfl), rfl⟩
    · have d1 : (0 : Int) < (d : Int) := by omega
      clear h0
      go_enter Try.func46, Try.ntmps46
      go_wp2
      go_ret
      exact ⟨ret_int (by rw [HF.out]; omega), rfl⟩
  have HF := Lib.hid (dstep_same d c (by omega) (by omega))
  have t40 : ((c.toNat : Int) == 40) = false := beq_eq_false_iff_ne.2 (by omega)
  have t91 : ((c.toNat : Int) == 91) = false := beq_eq_false_iff_ne.2 (by omega)
  have t41 : ((c.toNat : Int) == 41) = false := beq_eq_false_iff_ne.2 (by omega)
  have t93 : ((c.toNat : Int) == 93) = false := beq_eq_false_iff_ne.2 (by omega)
  clear n40 n91 n41 n93
  go_enter Try.func46, Try.ntmps46
  go_wp2
  go_ret
  exact ⟨ret_int (by rw [HF.out]), rfl⟩
theorem depth_ref (s : ByteArray) (n : Nat) (hn : n ≤ s.size) (hs : s.size ≤ 1000000) (w : World) : Calls Try.prog 47 #[.string s, .int .i64 n] w fun e w' => e = .returned (.int .i64 (depth s n)) ∧ w = w' := by
  go_enter Try.func47, Try.ntmps47
  go_wp2
  go_loop [5, 6] (fun d i => ∃ k : Nat, k ≤ n ∧ i = .int .i64 k ∧ d = .int .i64 (depth s k)) (fun _ i => n - (intOf i).toNat)
  case atStart => exact ⟨0, by omega, rfl, rfl⟩
  case round =>
    obtain ⟨k, hk, rfl, rfl⟩ := hrel
    by_cases hlt : k < n
    · have hks : k < s.size := by omega
      have hdl := depth_le s k
      have HD := Lib.hid (show depth s (k + 1) = dstep (depth s k) (s[k]'hks) from by rw [depth, bt_eq s k hks])
      obtain ⟨d, hd⟩ : ∃ d, d = depth s k := ⟨_, rfl⟩
      rw [← hd] at hdl HD ⊢
      clear hd
      obtain ⟨c, hc⟩ : ∃ c, s[k]'hks = c := ⟨_, rfl⟩
      have HE := Lib.hid (show dstep d (s[k]'hks) = dstep d c by rw [hc])
      have hcl : c.toNat < 256 := c.toNat_lt
      by_cases n40 : c.toNat = 40
      · have HF := Lib.hid (dstep_up d c (.inl n40))
        have t40 : ((c.toNat : Int) == 40) = true := beq_iff_eq.2 (by omega)
        have t91 : ((c.toNat : Int) == 91) = false := beq_eq_false_iff_ne.2 (by omega)
        have t41 : ((c.toNat : Int) == 41) = false := beq_eq_false_iff_ne.2 (by omega)
        have t93 : ((c.toNat : Int) == 93) = false := beq_eq_false_iff_ne.2 (by omega)
        clear n40
        go_wp2
        go_round
        case rel => exact ⟨k + 1, by omega, by go_num, int_eq (by rw [HD.out, HE.out, HF.out]; rfl)⟩
        case measure => simp [intOf]; omega
      by_cases n91 : c.toNat = 91
      · have HF := Lib.hid (dstep_up d c (.inr n91))
        have t40 : ((c.toNat : Int) == 40) = false := beq_eq_false_iff_ne.2 (by omega)
        have t91 : ((c.toNat : Int) == 91) = true := beq_iff_eq.2 (by omega)
        have t41 : ((c.toNat : Int) == 41) = false := beq_eq_false_iff_ne.2 (by omega)
        have t93 : ((c.toNat : Int) == 93) = false := beq_eq_false_iff_ne.2 (by omega)
        clear n40 n91
        go_wp2
        go_round
        case rel => exact ⟨k + 1, by omega, by go_num, int_eq (by rw [HD.out, HE.out, HF.out]; rfl)⟩
        case measure => simp [intOf]; omega
      by_cases n41 : c.toNat = 41
      · have HF := Lib.hid (dstep_down d c (by omega) (.inl n41))
        have t40 : ((c.toNat : Int) == 40) = false := beq_eq_false_iff_ne.2 (by omega)
        have t91 : ((c.toNat : Int) == 91) = false := beq_eq_false_iff_ne.2 (by omega)
        have t41 : ((c.toNat : Int) == 41) = true := beq_iff_eq.2 (by omega)
        have t93 : ((c.toNat : Int) == 93) = false := beq_eq_false_iff_ne.2 (by omega)
        clear n40 n91 n41
        by_cases h0 : d = 0
        · have d0 : ¬ (0 : Int) < (d : Int) := by omega
          have H0 := Lib.hid h0
          clear h0
          go_wp2
          go_round
          case rel => exact ⟨k + 1, by omega, by go_num, int_eq (by rw [HD.out, HE.out, HF.out]; rw [H0.out])⟩
          case measure => simp [intOf]; omega
        · have d1 : (0 : Int) < (d : Int) := by omega
          clear h0
          go_wp2
          go_round
          case rel => exact ⟨k + 1, by omega, by go_num, int_eq (by rw [HD.out, HE.out, HF.out]; omega)⟩
          case measure => simp [intOf]; omega
      by_cases n93 : c.toNat = 93
      · have HF := Lib.hid (dstep_down d c (by omega) (.inr n93))
        have t40 : ((c.toNat : Int) == 40) = false := beq_eq_false_iff_ne.2 (by omega)
        have t91 : ((c.toNat : Int) == 91) = false := beq_eq_false_iff_ne.2 (by omega)
        have t41 : ((c.toNat : Int) == 41) = false := beq_eq_false_iff_ne.2 (by omega)
        have t93 : ((c.toNat : Int) == 93) = true := beq_iff_eq.2 (by omega)
        clear n40 n91 n41 n93
        by_cases h0 : d = 0
        · have d0 : ¬ (0 : Int) < (d : Int) := by omega
          have H0 := Lib.hid h0
          clear h0
          go_wp2
          go_round
          case rel => exact ⟨k + 1, by omega, by go_num, int_eq (by rw [HD.out, HE.out, HF.out]; rw [H0.out])⟩
          case measure => simp [intOf]; omega
        · have d1 : (0 : Int) < (d : Int) := by omega
          clear h0
          go_wp2
          go_round
          case rel => exact ⟨k + 1, by omega, by go_num, int_eq (by rw [HD.out, HE.out, HF.out]; omega)⟩
          case measure => simp [intOf]; omega
      have HF := Lib.hid (dstep_same d c (by omega) (by omega))
      have t40 : ((c.toNat : Int) == 40) = false := beq_eq_false_iff_ne.2 (by omega)
      have t91 : ((c.toNat : Int) == 91) = false := beq_eq_false_iff_ne.2 (by omega)
      have t41 : ((c.toNat : Int) == 41) = false := beq_eq_false_iff_ne.2 (by omega)
      have t93 : ((c.toNat : Int) == 93) = false := beq_eq_false_iff_ne.2 (by omega)
      clear n40 n91 n41 n93
      go_wp2
      go_round
      case rel => exact ⟨k + 1, by omega, by go_num, int_eq (by rw [HD.out, HE.out, HF.out])⟩
      case measure => simp [intOf]; omega
    · obtain rfl : k = n := by omega
      go_wp2
      go_ret
      exact ⟨rfl, rfl⟩
theorem same_ref (v u : Value) (xs ys : List ByteArray) (w : World) (hx : StrsAt w v xs) (hy : StrsAt w u ys) (bx : xs.length ≤ 1000000) (by_ : ys.length ≤ 1000000) :
    Calls Try.prog 18 #[v, u] w fun e w' => e = .returned (.bool (decide (xs = ys))) ∧ ∃ n, w' = w.drewN n := by
  obtain ⟨ao, ca, rfl, hx⟩ := hx
  obtain ⟨bo, cb, rfl, hy⟩ := hy
  by_cases hl : xs.length = ys.length
  · have hne : ((xs.length : Int) != (ys.length : Int)) = false := by rw [hl]; simp
    have HL := Lib.hid hl
    clear hl
    go_enter Try.func18, Try.ntmps18
    go_wp2
    go_loopw [5] (fun i wr => ∃ k : Nat, k ≤ xs.length ∧ i = .int .i64 k ∧ Hid (xs.take k = ys.take k) ∧ ∃ n, wr = w.drewN n) (fun i _ => xs.length - (intOf i).toNat)
    case atStart => exact ⟨0, by omega, rfl, Lib.hid rfl, 0, rfl⟩
    case round =>
      obtain ⟨k, hk, rfl, hpre, nd, rfl⟩ := hrel
      by_cases hlt : k < xs.length
      · have hlt2 : k < ys.length := by have := HL.out; omega
        rcases hx with hx | ⟨b1, o1, rfl, hb1, hc1, hx⟩
        · simp [hx] at hlt
        rcases hy with hy | ⟨b2, o2, rfl, hb2, hc2, hy⟩
        · simp [hy] at hlt2
        have q1 := hx k xs[k] (by simp)
        have q2 := hy k ys[k] (by simp)
        have i0 : (0 : Int) ≤ (k : Int) := by omega
        have i1 : (k : Int) < (xs.length : Int) := by omega
        have i2 : (k : Int) < (ys.length : Int) := by omega
        have HX := Lib.hid hx
        have HY := Lib.hid hy
        clear hx hy
        by_cases he : xs[k] = ys[k]
        · have t1 : (!(xs[k].toList == ys[k].toList)) = false := by rw [same_true he]; rfl
          have H := Lib.hid (show xs.take (k + 1) = ys.take (k + 1) by rw [List.take_succ_eq_append_getElem hlt, List.take_succ_eq_append_getElem hlt2, hpre.out, he])
          clear he
          go_wp2_with fail
          go_quiet (fail)
          go_wp2_with fail
          go_roundw
          case rel => exact ⟨k + 1, by omega, by go_num, H, _, rfl⟩
          case measure => simp [intOf]; omega
        · have t1 : (!(xs[k].toList == ys[k].toList)) = true := by rw [same_false he]; rfl
          have H := Lib.hid (show ¬ xs = ys from fun e => he (by subst e; rfl))
          clear he
          go_wp2_with fail
          go_quiet (fail)
          go_wp2_with fail
          go_ret
          exact ⟨ret_bool (by rw [decide_eq_false H.out]), _, World.drewN_drewN _ _ _⟩
      · have H := Lib.hid (show xs = ys by
          obtain rfl : k = xs.length := by omega
          have h1 := hpre.out
          rw [HL.out, List.take_length, ← HL.out, List.take_length] at h1
          exact h1)
        go_wp2
        go_ret
        exact ⟨ret_bool (by rw [decide_eq_true H.out]), nd, rfl⟩
  · have hne : ((xs.length : Int) != (ys.length : Int)) = true := by simp; omega
    have H := Lib.hid (show ¬ xs = ys from fun e => hl (by rw [e]))
    clear hl
    go_enter Try.func18, Try.ntmps18
    go_wp2
    go_ret
    exact ⟨ret_bool (by rw [decide_eq_false H.out]), 0, rfl⟩
end Go.Proofs.Ytihnjbbgfjckaaa
