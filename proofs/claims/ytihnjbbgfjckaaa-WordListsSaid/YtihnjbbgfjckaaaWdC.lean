/- Walks of chapter 02: Split, the program's and the reference's. -/
import Derived.Test.YtihnjbbgfjckaaaWdB
namespace Go.Proofs.Ytihnjbbgfjckaaa
open Go Go.RowKit Cg
theorem brack_index (b : UInt8) : decide (0 ≤ Lib.indexByte [40, 41, 91, 93] b) = brack b := by
  have h : ∀ n, n < 256 → decide (0 ≤ Lib.indexByte [40, 41, 91, 93] (UInt8.ofNat n)) = brack (UInt8.ofNat n) := by decide +kernel
  have := h b.toNat b.toNat_lt
  rwa [UInt8.ofNat_toNat] at this
theorem u8_ne {a b : UInt8} (h : ¬ a = b) : ¬ a.toNat = b.toNat := fun e => h (UInt8.toNat_inj.1 e)
theorem indexByte_c (s : ByteArray) (c : Int) (w : World) : Calls Try.prog 45 #[.string s, .int .u8 c] w fun e w' => e = .returned (.int .i64 (Lib.indexByte s.data.toList c.toNat.toUInt8)) ∧ w = w' :=
  (Try.strings_IndexByte s c w).mono fun _ _ ⟨h1, h2⟩ => ⟨h1, h2.symm⟩
theorem below_len {w w' : World} (h : Below w.heap.size w w') : w.heap.size ≤ w'.heap.size := h.size
set_option maxHeartbeats 1000000 in
theorem split_prog (s : ByteArray) (b : UInt8) (hs : s.size ≤ 1000000) (w : World) : Calls Try.prog 19 #[.string s, .int .u8 b.toNat] w fun e w' => ∃ v, e = .returned v ∧ w'.ownsRow w.heap.size 9 1 v (split s b).length ((split s b).map Value.string) ∧ Below w.heap.size w w' := by
  have hbl : b.toNat < 256 := b.toNat_lt
  cases hb : brack b
  · have HS := Lib.hid (show split s b = (spl s b s.size).1 ++ [s.extract (spl s b s.size).2 s.size] by rw [split, hb]; rfl)
    rw [HS.out]
    have hidx : Lib.indexByte [40, 41, 91, 93] b < 0 := by
      have := brack_index b
      rw [hb] at this
      simpa using this
    clear hb
    go_enter Try.func19, Try.ntmps19
    go_wp2_with (go_at_call 45; refine (indexByte_c _ _ _).mono ?_; rintro e w' ⟨rfl, rfl⟩)
    go_loopw [5, 6, 7, 8] (fun out bg dp i wr => ∃ k : Nat, k ≤ s.size ∧ i = .int .i64 k ∧ bg = .int .i64 (spl s b k).2 ∧ dp = .int .i64 (depth s k) ∧ wr.ownsRow w.heap.size 9 1 out (spl s b k).1.length ((spl s b k).1.map Value.string) ∧ Below w.heap.size w wr) (fun _ _ _ i _ => s.size - (intOf i).toNat)
    case atStart => exact ⟨0, by omega, rfl, rfl, rfl, World.ownsRow_nil _ _ _ _, Below.refl _ _⟩
    case round =>
      obtain ⟨k, hk, rfl, rfl, rfl, hown, hnx⟩ := hrel
      have hsp := spl_le s b k
      have hdl := depth_le s k
      by_cases hlt : k < s.size
      · have H1 := Lib.hid (spl_hit s b k)
        have H2 := Lib.hid (spl_miss s b k)
        have HB := Lib.hid (bt_eq s k hlt)
        have HD := Lib.hid (show depth s (k + 1) = dstep (depth s k) (s[k]'hlt) from by rw [depth, bt_eq s k hlt])
        obtain ⟨d, hd⟩ : ∃ d, d = depth s k := ⟨_, rfl⟩
        obtain ⟨f, hf⟩ : ∃ f, f = (spl s b k).2 := ⟨_, rfl⟩
        obtain ⟨ps, hps⟩ : ∃ ps, ps = (spl s b k).1 := ⟨_, rfl⟩
        have HP := Lib.hid (show spl s b k = (ps, f) by rw [hps, hf])
        rw [← hf, ← hps] at hsp H1
        rw [← hd] at hdl HD H1 H2
        have HDD := Lib.hid hd
        rw [← hps] at hown
        rw [← hf, ← hd]
        clear hd hf hps
        obtain ⟨c, hc⟩ : ∃ c, s[k]'hlt = c := ⟨_, rfl⟩
        have HC := Lib.hid (show bt s k = c by rw [HB.out, hc])
        have HE := Lib.hid (show dstep d (s[k]'hlt) = dstep d c by rw [hc])
        have hcl : c.toNat < 256 := c.toNat_lt
        obtain ⟨hf1, hf2⟩ := hsp
        by_cases he : c = b
        · have t1 : ((c.toNat : Int) == (b.toNat : Int)) = true := by rw [he]; simp
          by_cases h0 : d = 0
          · have HH := Lib.hid (H1.out (by rw [HC.out, he]) h0)
            have t2 : ((d : Int) == 0) = true := by rw [h0]; rfl
            clear he h0
            go_wp2_with (first
              | (at_builtin; refine wpList_append_new rfl (.tmp 29) (.tmp 34) 25 rfl w.heap.size stringsElem _ _ _ rfl hown [.string (s.extract f k)] rfl rfl rfl (by omega) (by omega) hnx.size ?_; intro v' w1 hown' hbel hne)
              | (go_at_call 46; refine (deeper d c (by omega) _).mono ?_; rintro e w' ⟨rfl, rfl⟩)
              | (go_at_call 47; refine (depth_ref s k (by omega) hs _).mono ?_; rintro e w' ⟨rfl, rfl⟩; rw [← HDD.out]))
            go_roundw
            case rel => exact ⟨k + 1, by omega, by go_num, by rw [HH.out]; go_num, by rw [HD.out, HE.out], by rw [HH.out]; simpa using hown', hnx.trans hbel⟩
            case measure => simp [intOf]; omega
          · have HH := Lib.hid (H2.out (fun h => h0 h.2))
            have t2 : ((d : Int) == 0) = false := beq_eq_false_iff_ne.2 (by omega)
            clear he h0
            go_wp2_with (first
              | (go_at_call 46; refine (deeper d c (by omega) _).mono ?_; rintro e w' ⟨rfl, rfl⟩)
              | (go_at_call 47; refine (depth_ref s k (by omega) hs _).mono ?_; rintro e w' ⟨rfl, rfl⟩; rw [← HDD.out]))
            go_roundw
            case rel => exact ⟨k + 1, by omega, by go_num, by rw [HH.out, HP.out], by rw [HD.out, HE.out], by rw [HH.out, HP.out]; exact hown, hnx⟩
            case measure => simp [intOf]; omega
        · have HH := Lib.hid (H2.out (fun h => he (by rw [← h.1, HC.out])))
          have t1 : ((c.toNat : Int) == (b.toNat : Int)) = false := by have := u8_ne he; exact beq_eq_false_iff_ne.2 (by omega)
          clear he
          go_wp2_with (go_at_call 46; refine (deeper d c (by omega) _).mono ?_; rintro e w' ⟨rfl, rfl⟩)
          go_roundw
          case rel => exact ⟨k + 1, by omega, by go_num, by rw [HH.out, HP.out], by rw [HD.out, HE.out], by rw [HH.out, HP.out]; exact hown, hnx⟩
          case measure => simp [intOf]; omega
      · obtain rfl : k = s.size := by omega
        obtain ⟨f, hf⟩ : ∃ f, f = (spl s b s.size).2 := ⟨_, rfl⟩
        rw [← hf] at hsp ⊢
        have HF := Lib.hid hf
        clear hf
        obtain ⟨hf1, hf2⟩ := hsp
        go_wp2_with (at_builtin; refine wpList_append_new rfl (.tmp 43) (.tmp 47) 25 rfl w.heap.size stringsElem _ _ _ rfl hown [.string (s.extract f s.size)] rfl rfl rfl (by omega) (by omega) hnx.size ?_; intro v' w1 hown' hbel hne)
        go_ret
        exact ⟨_, rfl, by rw [← HF.out]; simpa using hown', hnx.trans hbel⟩
  · have HS := Lib.hid (show split s b = [s] by rw [split, hb]; rfl)
    rw [HS.out]
    have hidx : 0 ≤ Lib.indexByte [40, 41, 91, 93] b := by
      have := brack_index b
      rw [hb] at this
      simpa using this
    clear hb
    go_enter Try.func19, Try.ntmps19
    go_wp2_with (go_at_call 45; refine (indexByte_c _ _ _).mono ?_; rintro e w1 ⟨rfl, rfl⟩)
    go_ret
    exact ⟨_, rfl, ⟨rfl, .inr ⟨w.heap.size, 1, #[.string s], rfl, Nat.le_refl _, heap_alloc_new w _, Nat.le_refl _, by unfold maxLen; omega, rfl, rfl⟩⟩, (Below.refl _ _).alloc (Nat.le_refl _) _⟩
set_option maxHeartbeats 1000000 in
theorem split_ref (s : ByteArray) (b : UInt8) (hs : s.size ≤ 1000000) (w : World) : Calls Try.prog 20 #[.string s, .int .u8 b.toNat] w fun e w' => ∃ v, e = .returned v ∧ w'.ownsRow w.heap.size 9 1 v (split s b).length ((split s b).map Value.string) ∧ Below w.heap.size w w' := by
  have hbl : b.toNat < 256 := b.toNat_lt
  cases hb : brack b
  · have HS := Lib.hid (show split s b = (spl s b s.size).1 ++ [s.extract (spl s b s.size).2 s.size] by rw [split, hb]; rfl)
    rw [HS.out]
    have hbb : ¬ (b.toNat = 40 ∨ b.toNat = 41 ∨ b.toNat = 91 ∨ b.toNat = 93) := of_decide_eq_false hb
    have t40 : ((b.toNat : Int) == 40) = false := beq_eq_false_iff_ne.2 (by omega)
    have t41 : ((b.toNat : Int) == 41) = false := beq_eq_false_iff_ne.2 (by omega)
    have t91 : ((b.toNat : Int) == 91) = false := beq_eq_false_iff_ne.2 (by omega)
    have t93 : ((b.toNat : Int) == 93) = false := beq_eq_false_iff_ne.2 (by omega)
    clear hbb
    clear hb
    go_enter Try.func20, Try.ntmps20
    go_wp2
    go_loopw [5, 6, 7] (fun out bg i wr => ∃ k : Nat, k ≤ s.size ∧ i = .int .i64 k ∧ bg = .int .i64 (spl s b k).2 ∧ wr.ownsRow w.heap.size 9 1 out (spl s b k).1.length ((spl s b k).1.map Value.string) ∧ Below w.heap.size w wr) (fun _ _ i _ => s.size - (intOf i).toNat)
    case atStart => exact ⟨0, by omega, rfl, rfl, World.ownsRow_nil _ _ _ _, Below.refl _ _⟩
    case round =>
      obtain ⟨k, hk, rfl, rfl, hown, hnx⟩ := hrel
      have hsp := spl_le s b k
      have hdl := depth_le s k
      by_cases hlt : k < s.size
      · have H1 := Lib.hid (spl_hit s b k)
        have H2 := Lib.hid (spl_miss s b k)
        have HB := Lib.hid (bt_eq s k hlt)
        have HD := Lib.hid (show depth s (k + 1) = dstep (depth s k) (s[k]'hlt) from by rw [depth, bt_eq s k hlt])
        obtain ⟨d, hd⟩ : ∃ d, d = depth s k := ⟨_, rfl⟩
        obtain ⟨f, hf⟩ : ∃ f, f = (spl s b k).2 := ⟨_, rfl⟩
        obtain ⟨ps, hps⟩ : ∃ ps, ps = (spl s b k).1 := ⟨_, rfl⟩
        have HP := Lib.hid (show spl s b k = (ps, f) by rw [hps, hf])
        rw [← hf, ← hps] at hsp H1
        rw [← hd] at hdl HD H1 H2
        have HDD := Lib.hid hd
        rw [← hps] at hown
        rw [← hf]
        clear hd hf hps
        obtain ⟨c, hc⟩ : ∃ c, s[k]'hlt = c := ⟨_, rfl⟩
        have HC := Lib.hid (show bt s k = c by rw [HB.out, hc])
        have HE := Lib.hid (show dstep d (s[k]'hlt) = dstep d c by rw [hc])
        have hcl : c.toNat < 256 := c.toNat_lt
        obtain ⟨hf1, hf2⟩ := hsp
        by_cases he : c = b
        · have t1 : ((c.toNat : Int) == (b.toNat : Int)) = true := by rw [he]; simp
          by_cases h0 : d = 0
          · have HH := Lib.hid (H1.out (by rw [HC.out, he]) h0)
            have t2 : ((d : Int) == 0) = true := by rw [h0]; rfl
            clear he h0
            go_wp2_with (first
              | (at_builtin; refine wpList_append_new rfl (.tmp 41) (.tmp 46) 25 rfl w.heap.size stringsElem _ _ _ rfl hown [.string (s.extract f k)] rfl rfl rfl (by omega) (by omega) hnx.size ?_; intro v' w1 hown' hbel hne)
              | (go_at_call 46; refine (deeper d c (by omega) _).mono ?_; rintro e w' ⟨rfl, rfl⟩)
              | (go_at_call 47; refine (depth_ref s k (by omega) hs _).mono ?_; rintro e w' ⟨rfl, rfl⟩; rw [← HDD.out]))
            go_roundw
            case rel => exact ⟨k + 1, by omega, by go_num, by rw [HH.out]; go_num, by rw [HH.out]; simpa using hown', hnx.trans hbel⟩
            case measure => simp [intOf]; omega
          · have HH := Lib.hid (H2.out (fun h => h0 h.2))
            have t2 : ((d : Int) == 0) = false := beq_eq_false_iff_ne.2 (by omega)
            clear he h0
            go_wp2_with (first
              | (go_at_call 46; refine (deeper d c (by omega) _).mono ?_; rintro e w' ⟨rfl, rfl⟩)
              | (go_at_call 47; refine (depth_ref s k (by omega) hs _).mono ?_; rintro e w' ⟨rfl, rfl⟩; rw [← HDD.out]))
            go_roundw
            case rel => exact ⟨k + 1, by omega, by go_num, by rw [HH.out, HP.out], by rw [HH.out, HP.out]; exact hown, hnx⟩
            case measure => simp [intOf]; omega
        · have HH := Lib.hid (H2.out (fun h => he (by rw [← h.1, HC.out])))
          have t1 : ((c.toNat : Int) == (b.toNat : Int)) = false := by have := u8_ne he; exact beq_eq_false_iff_ne.2 (by omega)
          clear he
          go_wp2_with (go_at_call 46; refine (deeper d c (by omega) _).mono ?_; rintro e w' ⟨rfl, rfl⟩)
          go_roundw
          case rel => exact ⟨k + 1, by omega, by go_num, by rw [HH.out, HP.out], by rw [HH.out, HP.out]; exact hown, hnx⟩
          case measure => simp [intOf]; omega
      · obtain rfl : k = s.size := by omega
        obtain ⟨f, hf⟩ : ∃ f, f = (spl s b s.size).2 := ⟨_, rfl⟩
        rw [← hf] at hsp ⊢
        have HF := Lib.hid hf
        clear hf
        obtain ⟨hf1, hf2⟩ := hsp
        go_wp2_with (at_builtin; refine wpList_append_new rfl (.tmp 50) (.tmp 54) 25 rfl w.heap.size stringsElem _ _ _ rfl hown [.string (s.extract f s.size)] rfl rfl rfl (by omega) (by omega) hnx.size ?_; intro v' w1 hown' hbel hne)
        go_ret
        exact ⟨_, rfl, by rw [← HF.out]; simpa using hown', hnx.trans hbel⟩
  · have HS := Lib.hid (show split s b = [s] by rw [split, hb]; rfl)
    rw [HS.out]
    have hbb : b.toNat = 40 ∨ b.toNat = 41 ∨ b.toNat = 91 ∨ b.toNat = 93 := of_decide_eq_true hb
    clear hb
    rcases hbb with h | h | h | h
    · have t40 : ((b.toNat : Int) == 40) = true := beq_iff_eq.2 (by omega)
      have t41 : ((b.toNat : Int) == 41) = false := beq_eq_false_iff_ne.2 (by omega)
      have t91 : ((b.toNat : Int) == 91) = false := beq_eq_false_iff_ne.2 (by omega)
      have t93 : ((b.toNat : Int) == 93) = false := beq_eq_false_iff_ne.2 (by omega)
      clear h
      go_enter Try.func20, Try.ntmps20
      go_wp2
      go_ret
      exact ⟨_, rfl, ⟨rfl, .inr ⟨w.heap.size, 1, #[.string s], rfl, Nat.le_refl _, heap_alloc_new w _, Nat.le_refl _, by unfold maxLen; omega, rfl, rfl⟩⟩, (Below.refl _ _).alloc (Nat.le_refl _) _⟩
    · have t40 : ((b.toNat : Int) == 40) = false := beq_eq_false_iff_ne.2 (by omega)
      have t41 : ((b.toNat : Int) == 41) = true := beq_iff_eq.2 (by omega)
      have t91 : ((b.toNat : Int) == 91) = false := beq_eq_false_iff_ne.2 (by omega)
      have t93 : ((b.toNat : Int) == 93) = false := beq_eq_false_iff_ne.2 (by omega)
      clear h
      go_enter Try.func20, Try.ntmps20
      go_wp2
      go_ret
      exact ⟨_, rfl, ⟨rfl, .inr ⟨w.heap.size, 1, #[.string s], rfl, Nat.le_refl _, heap_alloc_new w _, Nat.le_refl _, by unfold maxLen; omega, rfl, rfl⟩⟩, (Below.refl _ _).alloc (Nat.le_refl _) _⟩
    · have t40 : ((b.toNat : Int) == 40) = false := beq_eq_false_iff_ne.2 (by omega)
      have t41 : ((b.toNat : Int) == 41) = false := beq_eq_false_iff_ne.2 (by omega)
      have t91 : ((b.toNat : Int) == 91) = true := beq_iff_eq.2 (by omega)
      have t93 : ((b.toNat : Int) == 93) = false := beq_eq_false_iff_ne.2 (by omega)
      clear h
      go_enter Try.func20, Try.ntmps20
      go_wp2
      go_ret
      exact ⟨_, rfl, ⟨rfl, .inr ⟨w.heap.size, 1, #[.string s], rfl, Nat.le_refl _, heap_alloc_new w _, Nat.le_refl _, by unfold maxLen; omega, rfl, rfl⟩⟩, (Below.refl _ _).alloc (Nat.le_refl _) _⟩
    · have t40 : ((b.toNat : Int) == 40) = false := beq_eq_false_iff_ne.2 (by omega)
      have t41 : ((b.toNat : Int) == 41) = false := beq_eq_false_iff_ne.2 (by omega)
      have t91 : ((b.toNat : Int) == 91) = false := beq_eq_false_iff_ne.2 (by omega)
      have t93 : ((b.toNat : Int) == 93) = true := beq_iff_eq.2 (by omega)
      clear h
      go_enter Try.func20, Try.ntmps20
      go_wp2
      go_ret
      exact ⟨_, rfl, ⟨rfl, .inr ⟨w.heap.size, 1, #[.string s], rfl, Nat.le_refl _, heap_alloc_new w _, Nat.le_refl _, by unfold maxLen; omega, rfl, rfl⟩⟩, (Below.refl _ _).alloc (Nat.le_refl _) _⟩
end Go.Proofs.Ytihnjbbgfjckaaa
