/- Chapter 02: Lines, plain definitions and walks (the program's and the reference's). -/
import Derived.Test.YtihnjbbgfjckaaaWdC
namespace Go.Proofs.Ytihnjbbgfjckaaa
open Go Go.RowKit Cg
/-- The lines before a place, and where the next one begins. -/
def lin (s : ByteArray) : Nat → List ByteArray × Nat
  | 0 => ([], 0)
  | i + 1 => if bt s i = 10 then ((lin s i).1 ++ [s.extract (lin s i).2 i], i + 1) else lin s i
def linOk (s : ByteArray) : Bool := decide (s.size = 0 ∨ bt s (s.size - 1) = 10)
def lines (s : ByteArray) : List ByteArray := if linOk s then (lin s s.size).1 else []
theorem lin_le (s : ByteArray) : ∀ i, (lin s i).2 ≤ i ∧ (lin s i).1.length ≤ i
  | 0 => ⟨Nat.le_refl _, Nat.le_refl _⟩
  | i + 1 => by
    have h := lin_le s i
    rw [lin]
    split
    · exact ⟨Nat.le_refl _, by simp; omega⟩
    · omega
theorem lin_hit (s : ByteArray) (i : Nat) (h : bt s i = 10) : lin s (i + 1) = ((lin s i).1 ++ [s.extract (lin s i).2 i], i + 1) := by rw [lin, if_pos h]
theorem lin_miss (s : ByteArray) (i : Nat) (h : ¬ bt s i = 10) : lin s (i + 1) = lin s i := by rw [lin, if_neg h]
theorem size_zero {s : ByteArray} (h : s.size = 0) : s = ⟨#[]⟩ := bytes_ext (by
  have h1 : s.data.toList.length = 0 := by simpa using h
  simpa using List.eq_nil_of_length_eq_zero h1)
set_option maxHeartbeats 1000000 in
theorem lines_prog (s : ByteArray) (hs : s.size ≤ 1000000) (w : World) : Calls Try.prog 23 #[.string s] w fun e w' => ∃ v, e = .returned (.tuple #[v, .bool (linOk s)]) ∧ w'.ownsRow w.heap.size 9 1 v (lines s).length ((lines s).map Value.string) ∧ Below w.heap.size w w' := by
  by_cases h0 : s.size = 0
  · obtain rfl := size_zero h0
    clear h0
    rw [show linOk ⟨#[]⟩ = true from by decide, show lines ⟨#[]⟩ = [] from by decide]
    go_enter Try.func23, Try.ntmps23
    go_wp2
    go_step3
    go_wp2
    rw [Exit.noGoto_ret]
    go_ret2
    exact ⟨_, rfl, World.ownsRow_nil _ _ _ _, Below.refl _ _⟩
  have hpos : 0 < s.size := by omega
  have e0 : s.toList.isEmpty = false := by
    cases hh : s.toList.isEmpty
    · rfl
    · rw [ByteArray.toList_eq] at hh
      have : s.data.toList.length = 0 := by rw [List.isEmpty_iff.1 hh]; rfl
      rw [← Lib.size_eq] at this; omega
  have hq : s.size - 1 < s.size := by omega
  have HB0 := Lib.hid (bt_eq s (s.size - 1) hq)
  obtain ⟨z, hz⟩ : ∃ z, s[s.size - 1]'hq = z := ⟨_, rfl⟩
  have HZ := Lib.hid (show bt s (s.size - 1) = z by rw [HB0.out, hz])
  have hi1 : (1 : Int) ≤ (s.size : Int) := by omega
  have hi2 : (s.size : Int) - 1 < (s.size : Int) := by omega
  have H0 := Lib.hid h0
  clear h0
  by_cases hz10 : z = 10
  · have hok : linOk s = true := decide_eq_true (.inr (by rw [HZ.out, hz10]))
    have HL := Lib.hid (show lines s = (lin s s.size).1 by rw [lines, hok]; rfl)
    rw [hok, HL.out]
    have tz : (!(((z.toNat : Nat) : Int) == 10)) = false := by rw [hz10]; rfl
    have tz2 : ((((z.toNat : Nat) : Int) != 10)) = false := by rw [hz10]; rfl
    clear hok hz10
    go_enter Try.func23, Try.ntmps23
    go_wp2
    go_step3
    go_wp2
    go_step3
    go_wp2
    go_loopw [4, 5, 17] (fun out bg i wr => ∃ k : Nat, k ≤ s.size ∧ i = .int .i64 k ∧ bg = .int .i64 (lin s k).2 ∧ wr.ownsRow w.heap.size 9 1 out (lin s k).1.length ((lin s k).1.map Value.string) ∧ Below w.heap.size w wr) (fun _ _ i _ => s.size - (intOf i).toNat)
    case atStart => exact ⟨0, by omega, rfl, rfl, World.ownsRow_nil _ _ _ _, Below.refl _ _⟩
    case round =>
      obtain ⟨k, hk, rfl, rfl, hown, hnx⟩ := hrel
      have hsp := lin_le s k
      by_cases hlt : k < s.size
      · have H1 := Lib.hid (lin_hit s k)
        have H2 := Lib.hid (lin_miss s k)
        have HB := Lib.hid (bt_eq s k hlt)
        obtain ⟨f, hf⟩ : ∃ f, f = (lin s k).2 := ⟨_, rfl⟩
        obtain ⟨ps, hps⟩ : ∃ ps, ps = (lin s k).1 := ⟨_, rfl⟩
        have HP := Lib.hid (show lin s k = (ps, f) by rw [hps, hf])
        rw [← hf, ← hps] at hsp H1
        rw [← hps] at hown
        rw [← hf]
        clear hf hps
        obtain ⟨c, hc⟩ : ∃ c, s[k]'hlt = c := ⟨_, rfl⟩
        have HC := Lib.hid (show bt s k = c by rw [HB.out, hc])
        have hcl : c.toNat < 256 := c.toNat_lt
        obtain ⟨hf1, hf2⟩ := hsp
        by_cases he : c = 10
        · have HH := Lib.hid (H1.out (by rw [HC.out, he]))
          have t1 : ((c.toNat : Int) == 10) = true := by rw [he]; rfl
          have t2 : ((c.toNat : Int) != 10) = false := by rw [he]; rfl
          clear he
          go_wp2_with (at_builtin; refine wpList_append_new rfl (.tmp 24) (.tmp 29) 25 rfl w.heap.size stringsElem _ _ _ rfl hown [.string (s.extract f k)] rfl rfl rfl (by omega) (by omega) hnx.size ?_; intro v' w1 hown' hbel hne)
          go_roundw
          case rel => exact ⟨k + 1, by omega, by go_num, by rw [HH.out]; go_num, by rw [HH.out]; simpa using hown', hnx.trans hbel⟩
          case measure => simp [intOf]; omega
        · have HH := Lib.hid (H2.out (fun h => he (by rw [← h, HC.out])))
          have hn := u8_ne he
          have t1 : ((c.toNat : Int) == 10) = false := beq_eq_false_iff_ne.2 (fun e => hn (by simpa using Int.ofNat.inj e))
          have t2 : ((c.toNat : Int) != 10) = true := by rw [bne, t1]; rfl
          clear he hn
          go_wp2
          go_roundw
          case rel => exact ⟨k + 1, by omega, by go_num, by rw [HH.out, HP.out], by rw [HH.out, HP.out]; exact hown, hnx⟩
          case measure => simp [intOf]; omega
      · obtain rfl : k = s.size := by omega
        go_wp2
        rw [Exit.noGoto_ret]
        go_ret2
        exact ⟨_, rfl, hown, hnx⟩
  · have hok : linOk s = false := decide_eq_false (fun h => h.elim H0.out (fun h => hz10 (by rw [← HZ.out, h])))
    have HL := Lib.hid (show lines s = [] by rw [lines, hok]; rfl)
    rw [hok, HL.out]
    have hn := u8_ne hz10
    have tz : (!(((z.toNat : Nat) : Int) == 10)) = true := by rw [beq_eq_false_iff_ne.2 (fun e => hn (by simpa using Int.ofNat.inj e))]; rfl
    have tz2 : ((((z.toNat : Nat) : Int) != 10)) = true := tz
    clear hok hz10 hn
    go_enter Try.func23, Try.ntmps23
    go_wp2
    go_step3
    go_wp2
    rw [Exit.noGoto_ret]
    go_ret2
    exact ⟨_, rfl, World.ownsRow_nil _ _ _ _, Below.refl _ _⟩
set_option maxHeartbeats 1000000 in
theorem lines_ref (s : ByteArray) (hs : s.size ≤ 1000000) (w : World) : Calls Try.prog 24 #[.string s] w fun e w' => ∃ v, e = .returned (.tuple #[v, .bool (linOk s)]) ∧ w'.ownsRow w.heap.size 9 1 v (lines s).length ((lines s).map Value.string) ∧ Below w.heap.size w w' := by
  by_cases h0 : s.size = 0
  · obtain rfl := size_zero h0
    clear h0
    rw [show linOk ⟨#[]⟩ = true from by decide, show lines ⟨#[]⟩ = [] from by decide]
    go_enter Try.func24, Try.ntmps24
    go_wp2
    refine wp_loop_rounds 1 ?_
    rw [rounds_succ]
    go_wp2
    go_ret2
    exact ⟨_, rfl, World.ownsRow_nil _ _ _ _, Below.refl _ _⟩
  have hpos : 0 < s.size := by omega
  have e0 : s.toList.isEmpty = false := by
    cases hh : s.toList.isEmpty
    · rfl
    · rw [ByteArray.toList_eq] at hh
      have : s.data.toList.length = 0 := by rw [List.isEmpty_iff.1 hh]; rfl
      rw [← Lib.size_eq] at this; omega
  have hq : s.size - 1 < s.size := by omega
  have HB0 := Lib.hid (bt_eq s (s.size - 1) hq)
  obtain ⟨z, hz⟩ : ∃ z, s[s.size - 1]'hq = z := ⟨_, rfl⟩
  have HZ := Lib.hid (show bt s (s.size - 1) = z by rw [HB0.out, hz])
  have hi1 : (1 : Int) ≤ (s.size : Int) := by omega
  have hi2 : (s.size : Int) - 1 < (s.size : Int) := by omega
  have H0 := Lib.hid h0
  clear h0
  by_cases hz10 : z = 10
  · have hok : linOk s = true := decide_eq_true (.inr (by rw [HZ.out, hz10]))
    have HL := Lib.hid (show lines s = (lin s s.size).1 by rw [lines, hok]; rfl)
    rw [hok, HL.out]
    have tz : (!(((z.toNat : Nat) : Int) == 10)) = false := by rw [hz10]; rfl
    have tz2 : ((((z.toNat : Nat) : Int) != 10)) = false := by rw [hz10]; rfl
    clear hok hz10
    go_enter Try.func24, Try.ntmps24
    go_wp2
    go_loopw [4, 5, 6] (fun out bg i wr => ∃ k : Nat, k ≤ s.size ∧ i = .int .i64 k ∧ bg = .int .i64 (lin s k).2 ∧ wr.ownsRow w.heap.size 9 1 out (lin s k).1.length ((lin s k).1.map Value.string) ∧ Below w.heap.size w wr) (fun _ _ i _ => s.size - (intOf i).toNat)
    case atStart => exact ⟨0, by omega, rfl, rfl, World.ownsRow_nil _ _ _ _, Below.refl _ _⟩
    case round =>
      obtain ⟨k, hk, rfl, rfl, hown, hnx⟩ := hrel
      have hsp := lin_le s k
      by_cases hlt : k < s.size
      · have H1 := Lib.hid (lin_hit s k)
        have H2 := Lib.hid (lin_miss s k)
        have HB := Lib.hid (bt_eq s k hlt)
        obtain ⟨f, hf⟩ : ∃ f, f = (lin s k).2 := ⟨_, rfl⟩
        obtain ⟨ps, hps⟩ : ∃ ps, ps = (lin s k).1 := ⟨_, rfl⟩
        have HP := Lib.hid (show lin s k = (ps, f) by rw [hps, hf])
        rw [← hf, ← hps] at hsp H1
        rw [← hps] at hown
        rw [← hf]
        clear hf hps
        obtain ⟨c, hc⟩ : ∃ c, s[k]'hlt = c := ⟨_, rfl⟩
        have HC := Lib.hid (show bt s k = c by rw [HB.out, hc])
        have hcl : c.toNat < 256 := c.toNat_lt
        obtain ⟨hf1, hf2⟩ := hsp
        by_cases he : c = 10
        · have HH := Lib.hid (H1.out (by rw [HC.out, he]))
          have t1 : ((c.toNat : Int) == 10) = true := by rw [he]; rfl
          have t2 : ((c.toNat : Int) != 10) = false := by rw [he]; rfl
          clear he
          go_wp2_with (at_builtin; refine wpList_append_new rfl (.tmp 27) (.tmp 32) 25 rfl w.heap.size stringsElem _ _ _ rfl hown [.string (s.extract f k)] rfl rfl rfl (by omega) (by omega) hnx.size ?_; intro v' w1 hown' hbel hne)
          go_roundw
          case rel => exact ⟨k + 1, by omega, by go_num, by rw [HH.out]; go_num, by rw [HH.out]; simpa using hown', hnx.trans hbel⟩
          case measure => simp [intOf]; omega
        · have HH := Lib.hid (H2.out (fun h => he (by rw [← h, HC.out])))
          have hn := u8_ne he
          have t1 : ((c.toNat : Int) == 10) = false := beq_eq_false_iff_ne.2 (fun e => hn (by simpa using Int.ofNat.inj e))
          have t2 : ((c.toNat : Int) != 10) = true := by rw [bne, t1]; rfl
          clear he hn
          go_wp2
          go_roundw
          case rel => exact ⟨k + 1, by omega, by go_num, by rw [HH.out, HP.out], by rw [HH.out, HP.out]; exact hown, hnx⟩
          case measure => simp [intOf]; omega
      · obtain rfl : k = s.size := by omega
        go_wp2
        go_ret2
        exact ⟨_, rfl, hown, hnx⟩
  · have hok : linOk s = false := decide_eq_false (fun h => h.elim H0.out (fun h => hz10 (by rw [← HZ.out, h])))
    have HL := Lib.hid (show lines s = [] by rw [lines, hok]; rfl)
    rw [hok, HL.out]
    have hn := u8_ne hz10
    have tz : (!(((z.toNat : Nat) : Int) == 10)) = true := by rw [beq_eq_false_iff_ne.2 (fun e => hn (by simpa using Int.ofNat.inj e))]; rfl
    have tz2 : ((((z.toNat : Nat) : Int) != 10)) = true := tz
    clear hok hz10 hn
    go_enter Try.func24, Try.ntmps24
    go_wp2
    go_ret2
    exact ⟨_, rfl, World.ownsRow_nil _ _ _ _, Below.refl _ _⟩
end Go.Proofs.Ytihnjbbgfjckaaa
