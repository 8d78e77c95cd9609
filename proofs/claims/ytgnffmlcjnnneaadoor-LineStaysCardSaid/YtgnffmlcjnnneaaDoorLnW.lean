/- Chapter 02 again, for the chapter of lines: Is (the program's and the reference's), Depth and Split of the reference. -/
import Derived.Test.YtgnffmlcjnnneaaDoorShelf
import Derived.Test.YtgnffmlcjnnneaaDoorWdA
import Derived.Test.YtgnffmlcjnnneaaDoorRow
import Derived.WalkLawsBesides
import Derived.WalkSpells
import Derived.WalkSmall
import Derived.BigQuiet
import Derived.Deep.QuietTactic
namespace Go.Proofs.YtgnffmlcjnnneaaDoor
open Go Go.RowKit Cg
theorem stringsElem : ElemIs Tryd.prog 22 9 (.string ⟨#[]⟩) 1 16 := elemIs_mk Tryd.underlying22 (by kernel_rfl) rfl (by decide)
theorem depth_ref (s : ByteArray) (n : Nat) (hn : n ≤ s.size) (hs : s.size ≤ 1000000) (w : World) : Calls Tryd.prog 53 #[.string s, .int .i64 n] w fun e w' => e = .returned (.int .i64 (depth s n)) ∧ w = w' := by
  go_enter Tryd.func53, Tryd.ntmps53
  go_wp2
  go_loop [5, 6] (fun d i => ∃ k : Nat, k ≤ n ∧ i = .int .i64 k ∧ d = .int .i64 (depth s k)) (fun _ i => n - (intOf i).toNat)
  case atStart => exact ⟨0, by omega, rfl, rfl⟩
  case round =>
    obtain ⟨k, hk, rfl, rfl⟩ := hrel
    by_cases hlt : k < n
    · have hks : k < s.size := by omega
      have hdl := depth_le s k
      have HD := Lib.hid (show depth s (k + 1) = dstep (depth s k) (s[k]'hks) from by rw [depth, bt_eq s k hks])
      obtain ⟨d, hd⟩ : ∃ d, d = depth s k := ⟨_, rfl⟩
      rw [← hd] at hdl HD ⊢
      clear hd
      obtain ⟨c, hc⟩ : ∃ c, s[k]'hks = c := ⟨_, rfl⟩
      have HE := Lib.hid (show dstep d (s[k]'hks) = dstep d c by rw [hc])
      have hcl : c.toNat < 256 := c.toNat_lt
      by_cases n40 : c.toNat = 40
      · have HF := Lib.hid (dstep_up d c (.inl n40))
        have t40 : ((c.toNat : Int) == 40) = true := beq_iff_eq.2 (by omega)
        have t91 : ((c.toNat : Int) == 91) = false := beq_eq_false_iff_ne.2 (by omega)
        have t41 : ((c.toNat : Int) == 41) = false := beq_eq_false_iff_ne.2 (by omega)
        have t93 : ((c.toNat : Int) == 93) = false := beq_eq_false_iff_ne.2 (by omega)
        clear n40
        go_wp2
        go_round
        case rel => exact ⟨k + 1, by omega, by go_num, int_eq (by rw [HD.out, HE.out, HF.out]; rfl)⟩
        case measure => simp [intOf]; omega
      by_cases n91 : c.toNat = 91
      · have HF := Lib.hid (dstep_up d c (.inr n91))
        have t40 : ((c.toNat : Int) == 40) = false := beq_eq_false_iff_ne.2 (by omega)
        have t91 : ((c.toNat : Int) == 91) = true := beq_iff_eq.2 (by omega)
        have t41 : ((c.toNat : Int) == 41) = false := beq_eq_false_iff_ne.2 (by omega)
        have t93 : ((c.toNat : Int) == 93) = false := beq_eq_false_iff_ne.2 (by omega)
        clear n40 n91
        go_wp2
        go_round
        case rel => exact ⟨k + 1, by omega, by go_num, int_eq (by rw [HD.out, HE.out, HF.out]; rfl)⟩
        case measure => simp [intOf]; omega
      by_cases n41 : c.toNat = 41
      · have HF := Lib.hid (dstep_down d c (by omega) (.inl n41))
        have t40 : ((c.toNat : Int) == 40) = false := beq_eq_false_iff_ne.2 (by omega)
        have t91 : ((c.toNat : Int) == 91) = false := beq_eq_false_iff_ne.2 (by omega)
        have t41 : ((c.toNat : Int) == 41) = true := beq_iff_eq.2 (by omega)
        have t93 : ((c.toNat : Int) == 93) = false := beq_eq_false_iff_ne.2 (by omega)
        clear n40 n91 n41
        by_cases h0 : d = 0
        · have d0 : ¬ (0 : Int) < (d : Int) := by omega
          have H0 := Lib.hid h0
          clear h0
          go_wp2
          go_round
          case rel => exact ⟨k + 1, by omega, by go_num, int_eq (by rw [HD.out, HE.out, HF.out]; rw [H0.out])⟩
          case measure => simp [intOf]; omega
        · have d1 : (0 : Int) < (d : Int) := by omega
          clear h0
          go_wp2
          go_round
          case rel => exact ⟨k + 1, by omega, by go_num, int_eq (by rw [HD.out, HE.out, HF.out]; omega)⟩
          case measure => simp [intOf]; omega
      by_cases n93 : c.toNat = 93
      · have HF := Lib.hid (dstep_down d c (by omega) (.inr n93))
        have t40 : ((c.toNat : Int) == 40) = false := beq_eq_false_iff_ne.2 (by omega)
        have t91 : ((c.toNat : Int) == 91) = false := beq_eq_false_iff_ne.2 (by omega)
        have t41 : ((c.toNat : Int) == 41) = false := beq_eq_false_iff_ne.2 (by omega)
        have t93 : ((c.toNat : Int) == 93) = true := beq_iff_eq.2 (by omega)
        clear n40 n91 n41 n93
        by_cases h0 : d = 0
        · have d0 : ¬ (0 : Int) < (d : Int) := by omega
          have H0 := Lib.hid h0
          clear h0
          go_wp2
          go_round
          case rel => exact ⟨k + 1, by omega, by go_num, int_eq (by rw [HD.out, HE.out, HF.out]; rw [H0.out])⟩
          case measure => simp [intOf]; omega
        · have d1 : (0 : Int) < (d : Int) := by omega
          clear h0
          go_wp2
          go_round
          case rel => exact ⟨k + 1, by omega, by go_num, int_eq (by rw [HD.out, HE.out, HF.out]; omega)⟩
          case measure => simp [intOf]; omega
      have HF := Lib.hid (dstep_same d c (by omega) (by omega))
      have t40 : ((c.toNat : Int) == 40) = false := beq_eq_false_iff_ne.2 (by omega)
      have t91 : ((c.toNat : Int) == 91) = false := beq_eq_false_iff_ne.2 (by omega)
      have t41 : ((c.toNat : Int) == 41) = false := beq_eq_false_iff_ne.2 (by omega)
      have t93 : ((c.toNat : Int) == 93) = false := beq_eq_false_iff_ne.2 (by omega)
      clear n40 n91 n41 n93
      go_wp2
      go_round
      case rel => exact ⟨k + 1, by omega, by go_num, int_eq (by rw [HD.out, HE.out, HF.out])⟩
      case measure => simp [intOf]; omega
    · obtain rfl : k = n := by omega
      go_wp2
      go_ret
      exact ⟨rfl, rfl⟩
theorem u8_ne {a b : UInt8} (h : ¬ a = b) : ¬ a.toNat = b.toNat := fun e => h (UInt8.toNat_inj.1 e)
theorem below_len {w w' : World} (h : Below w.heap.size w w') : w.heap.size ≤ w'.heap.size := h.size
set_option maxHeartbeats 1000000 in
theorem split_ref (s : ByteArray) (b : UInt8) (hs : s.size ≤ 1000000) (w : World) : Calls Tryd.prog 33 #[.string s, .int .u8 b.toNat] w fun e w' => ∃ v, e = .returned v ∧ w'.ownsRow w.heap.size 9 1 v (split s b).length ((split s b).map Value.string) ∧ Below w.heap.size w w' := by
  have hbl : b.toNat < 256 := b.toNat_lt
  cases hb : brack b
  · have HS := Lib.hid (show split s b = (spl s b s.size).1 ++ [s.extract (spl s b s.size).2 s.size] by rw [split, hb]; rfl)
    rw [HS.out]
    have hbb : ¬ (b.toNat = 40 ∨ b.toNat = 41 ∨ b.toNat = 91 ∨ b.toNat = 93) := of_decide_eq_false hb
    have t40 : ((b.toNat : Int) == 40) = false := beq_eq_false_iff_ne.2 (by omega)
    have t41 : ((b.toNat : Int) == 41) = false := beq_eq_false_iff_ne.2 (by omega)
    have t91 : ((b.toNat : Int) == 91) = false := beq_eq_false_iff_ne.2 (by omega)
    have t93 : ((b.toNat : Int) == 93) = false := beq_eq_false_iff_ne.2 (by omega)
    clear hbb
    clear hb
    go_enter Tryd.func33, Tryd.ntmps33
    go_wp2
    go_loopw [5, 6, 7] (fun out bg i wr => ∃ k : Nat, k ≤ s.size ∧ i = .int .i64 k ∧ bg = .int .i64 (spl s b k).2 ∧ wr.ownsRow w.heap.size 9 1 out (spl s b k).1.length ((spl s b k).1.map Value.string) ∧ Below w.heap.size w wr) (fun _ _ i _ => s.size - (intOf i).toNat)
    case atStart => exact ⟨0, by omega, rfl, rfl, World.ownsRow_nil _ _ _ _, Below.refl _ _⟩
    case round =>
      obtain ⟨k, hk, rfl, rfl, hown, hnx⟩ := hrel
      have hsp := spl_le s b k
      have hdl := depth_le s k
      by_cases hlt : k < s.size
      · have H1 := Lib.hid (spl_hit s b k)
        have H2 := Lib.hid (spl_miss s b k)
        have HB := Lib.hid (bt_eq s k hlt)
        have HD := Lib.hid (show depth s (k + 1) = dstep (depth s k) (s[k]'hlt) from by rw [depth, bt_eq s k hlt])
        obtain ⟨d, hd⟩ : ∃ d, d = depth s k := ⟨_, rfl⟩
        obtain ⟨f, hf⟩ : ∃ f, f = (spl s b k).2 := ⟨_, rfl⟩
        obtain ⟨ps, hps⟩ : ∃ ps, ps = (spl s b k).1 := ⟨_, rfl⟩
        have HP := Lib.hid (show spl s b k = (ps, f) by rw [hps, hf])
        rw [← hf, ← hps] at hsp H1
        rw [← hd] at hdl HD H1 H2
        have HDD := Lib.hid hd
        rw [← hps] at hown
        rw [← hf]
        clear hd hf hps
        obtain ⟨c, hc⟩ : ∃ c, s[k]'hlt = c := ⟨_, rfl⟩
        have HC := Lib.hid (show bt s k = c by rw [HB.out, hc])
        have HE := Lib.hid (show dstep d (s[k]'hlt) = dstep d c by rw [hc])
        have hcl : c.toNat < 256 := c.toNat_lt
        obtain ⟨hf1, hf2⟩ := hsp
        by_cases he : c = b
        · have t1 : ((c.toNat : Int) == (b.toNat : Int)) = true := by rw [he]; simp
          by_cases h0 : d = 0
          · have HH := Lib.hid (H1.out (by rw [HC.out, he]) h0)
            have t2 : ((d : Int) == 0) = true := by rw [h0]; rfl
            clear he h0
            go_wp2_with (first
              | (at_builtin; refine wpList_append_new rfl (.tmp 41) (.tmp 46) 22 rfl w.heap.size stringsElem _ _ _ rfl hown [.string (s.extract f k)] rfl rfl rfl (by omega) (by omega) hnx.size ?_; intro v' w1 hown' hbel hne)
              | (go_at_call 99999; refine (deeper d c (by omega) _).mono ?_; rintro e w' ⟨rfl, rfl⟩)
              | (go_at_call 53; refine (depth_ref s k (by omega) hs _).mono ?_; rintro e w' ⟨rfl, rfl⟩; rw [← HDD.out]))
            go_roundw
            case rel => exact ⟨k + 1, by omega, by go_num, by rw [HH.out]; go_num, by rw [HH.out]; simpa using hown', hnx.trans hbel⟩
            case measure => simp [intOf]; omega
          · have HH := Lib.hid (H2.out (fun h => h0 h.2))
            have t2 : ((d : Int) == 0) = false := beq_eq_false_iff_ne.2 (by omega)
            clear he h0
            go_wp2_with (first
              | (go_at_call 99999; refine (deeper d c (by omega) _).mono ?_; rintro e w' ⟨rfl, rfl⟩)
              | (go_at_call 53; refine (depth_ref s k (by omega) hs _).mono ?_; rintro e w' ⟨rfl, rfl⟩; rw [← HDD.out]))
            go_roundw
            case rel => exact ⟨k + 1, by omega, by go_num, by rw [HH.out, HP.out], by rw [HH.out, HP.out]; exact hown, hnx⟩
            case measure => simp [intOf]; omega
        · have HH := Lib.hid (H2.out (fun h => he (by rw [← h.1, HC.out])))
          have t1 : ((c.toNat : Int) == (b.toNat : Int)) = false := by have := u8_ne he; exact beq_eq_false_iff_ne.2 (by omega)
          clear he
          go_wp2_with (go_at_call 99999; refine (deeper d c (by omega) _).mono ?_; rintro e w' ⟨rfl, rfl⟩)
          go_roundw
          case rel => exact ⟨k + 1, by omega, by go_num, by rw [HH.out, HP.out], by rw [HH.out, HP.out]; exact hown, hnx⟩
          case measure => simp [intOf]; omega
      · obtain rfl : k = s.size := by omega
        obtain ⟨f, hf⟩ : ∃ f, f = (spl s b s.size).2 := ⟨_, rfl⟩
        rw [← hf] at hsp ⊢
        have HF := Lib.hid hf
        clear hf
        obtain ⟨hf1, hf2⟩ := hsp
        go_wp2_with (at_builtin; refine wpList_append_new rfl (.tmp 50) (.tmp 54) 22 rfl w.heap.size stringsElem _ _ _ rfl hown [.string (s.extract f s.size)] rfl rfl rfl (by omega) (by omega) hnx.size ?_; intro v' w1 hown' hbel hne)
        go_ret
        exact ⟨_, rfl, by rw [← HF.out]; simpa using hown', hnx.trans hbel⟩
  · have HS := Lib.hid (show split s b = [s] by rw [split, hb]; rfl)
    rw [HS.out]
    have hbb : b.toNat = 40 ∨ b.toNat = 41 ∨ b.toNat = 91 ∨ b.toNat = 93 := of_decide_eq_true hb
    clear hb
    rcases hbb with h | h | h | h
    · have t40 : ((b.toNat : Int) == 40) = true := beq_iff_eq.2 (by omega)
      have t41 : ((b.toNat : Int) == 41) = false := beq_eq_false_iff_ne.2 (by omega)
      have t91 : ((b.toNat : Int) == 91) = false := beq_eq_false_iff_ne.2 (by omega)
      have t93 : ((b.toNat : Int) == 93) = false := beq_eq_false_iff_ne.2 (by omega)
      clear h
      go_enter Tryd.func33, Tryd.ntmps33
      go_wp2
      go_ret
      exact ⟨_, rfl, ⟨rfl, .inr ⟨w.heap.size, 1, #[.string s], rfl, Nat.le_refl _, heap_alloc_new w _, Nat.le_refl _, by unfold maxLen; omega, rfl, rfl⟩⟩, (Below.refl _ _).alloc (Nat.le_refl _) _⟩
    · have t40 : ((b.toNat : Int) == 40) = false := beq_eq_false_iff_ne.2 (by omega)
      have t41 : ((b.toNat : Int) == 41) = true := beq_iff_eq.2 (by omega)
      have t91 : ((b.toNat : Int) == 91) = false := beq_eq_false_iff_ne.2 (by omega)
      have t93 : ((b.toNat : Int) == 93) = false := beq_eq_false_iff_ne.2 (by omega)
      clear h
      go_enter Tryd.func33, Tryd.ntmps33
      go_wp2
      go_ret
      exact ⟨_, rfl, ⟨rfl, .inr ⟨w.heap.size, 1, #[.string s], rfl, Nat.le_refl _, heap_alloc_new w _, Nat.le_refl _, by unfold maxLen; omega, rfl, rfl⟩⟩, (Below.refl _ _).alloc (Nat.le_refl _) _⟩
    · have t40 : ((b.toNat : Int) == 40) = false := beq_eq_false_iff_ne.2 (by omega)
      have t41 : ((b.toNat : Int) == 41) = false := beq_eq_false_iff_ne.2 (by omega)
      have t91 : ((b.toNat : Int) == 91) = true := beq_iff_eq.2 (by omega)
      have t93 : ((b.toNat : Int) == 93) = false := beq_eq_false_iff_ne.2 (by omega)
      clear h
      go_enter Tryd.func33, Tryd.ntmps33
      go_wp2
      go_ret
      exact ⟨_, rfl, ⟨rfl, .inr ⟨w.heap.size, 1, #[.string s], rfl, Nat.le_refl _, heap_alloc_new w _, Nat.le_refl _, by unfold maxLen; omega, rfl, rfl⟩⟩, (Below.refl _ _).alloc (Nat.le_refl _) _⟩
    · have t40 : ((b.toNat : Int) == 40) = false := beq_eq_false_iff_ne.2 (by omega)
      have t41 : ((b.toNat : Int) == 41) = false := beq_eq_false_iff_ne.2 (by omega)
      have t91 : ((b.toNat : Int) == 91) = false := beq_eq_false_iff_ne.2 (by omega)
      have t93 : ((b.toNat : Int) == 93) = true := beq_iff_eq.2 (by omega)
      clear h
      go_enter Tryd.func33, Tryd.ntmps33
      go_wp2
      go_ret
      exact ⟨_, rfl, ⟨rfl, .inr ⟨w.heap.size, 1, #[.string s], rfl, Nat.le_refl _, heap_alloc_new w _, Nat.le_refl _, by unfold maxLen; omega, rfl, rfl⟩⟩, (Below.refl _ _).alloc (Nat.le_refl _) _⟩
theorem size_zero {s : ByteArray} (h : s.size = 0) : s = ⟨#[]⟩ := bytes_ext (by
  have h1 : s.data.toList.length = 0 := by simpa using h
  simpa using List.eq_nil_of_length_eq_zero h1)
theorem empty_iff {p : ByteArray} : p.toList.isEmpty = true ↔ p.size = 0 := by
  rw [ByteArray.toList_eq, List.isEmpty_iff, Lib.size_eq, List.length_eq_zero_iff]
theorem size_pos_false {p : ByteArray} (h : ¬ p.size = 0) : p.toList.isEmpty = false := by
  rw [Bool.eq_false_iff]; exact fun e => h (empty_iff.1 e)
theorem low_any (c : UInt8) (w : World) : Calls Tryd.prog 61 #[.int .u8 c.toNat] w fun e w' => e = .returned (.bool (lowB c)) ∧ w = w' := by
  have hc : c.toNat < 256 := c.toNat_lt
  by_cases h1 : 97 ≤ c.toNat
  · by_cases h2 : c.toNat ≤ 122
    · rw [show lowB c = true from decide_eq_true ⟨h1, h2⟩]
      go_enter Tryd.func61, Tryd.ntmps61
      go_wp2
      all_goals go_ret
      all_goals exact ⟨ret_bool (by simp; omega), rfl⟩
    · rw [show lowB c = false from decide_eq_false (fun h => h2 h.2)]
      go_enter Tryd.func61, Tryd.ntmps61
      go_wp2
      all_goals go_ret
      all_goals exact ⟨ret_bool (by simp; omega), rfl⟩
  · rw [show lowB c = false from decide_eq_false (fun h => h1 h.1)]
    go_enter Tryd.func61, Tryd.ntmps61
    go_wp2
    all_goals go_ret
    all_goals exact ⟨ret_bool (by simp), rfl⟩
def Goods (s : ByteArray) (k : Nat) : Prop := ∀ i, i < k → goodB (bt s i) = true
theorem Goods.step {s : ByteArray} {k : Nat} (h : Goods s k) (h2 : goodB (bt s k) = true) : Goods s (k + 1) := fun i hi => by
  by_cases e : i = k
  · rw [e]; exact h2
  · exact h i (by omega)
def NoDD (s : ByteArray) (k : Nat) : Prop := ∀ i, i < k → 0 < i → ¬ ((bt s i).toNat = 45 ∧ (bt s (i - 1)).toNat = 45)
theorem NoDD.step {s : ByteArray} {k : Nat} (h : NoDD s k) (h2 : 0 < k → ¬ ((bt s k).toNat = 45 ∧ (bt s (k - 1)).toNat = 45)) : NoDD s (k + 1) := fun i hi h0 => by
  by_cases e : i = k
  · rw [e] at h0 ⊢; exact h2 h0
  · exact h i (by omega) h0
theorem noDD_contains {s : ByteArray} (h : Lib.contains s.data.toList [45, 45] = false) : NoDD s s.size := fun i hi h0 hh => by
  have : Lib.contains s.data.toList [45, 45] = true := (contains_bt s).2 ⟨i - 1, by omega, (u8_45 _).2 hh.2, by rw [show i - 1 + 1 = i by omega]; exact (u8_45 _).2 hh.1⟩
  rw [h] at this
  cases this
theorem isW_contains {s : ByteArray} (h : Lib.contains s.data.toList [45, 45] = true) : isW s = false := isW_false (fun hw => by
  obtain ⟨i, h1, h2, h3⟩ := (contains_bt s).1 h
  exact hw.2.2.2.2.2 (i + 1) h1 (by omega) ⟨(u8_45 _).1 h3, by rw [show i + 1 - 1 = i by omega]; exact (u8_45 _).1 h2⟩)
theorem isW_bad {s : ByteArray} {k : Nat} (hk : k < s.size) (h : goodB (bt s k) = false) : isW s = false := isW_false (fun hw => by
  have := hw.2.2.2.2.1 k hk
  rw [h] at this
  cases this)
/-- The world of the tests: the search's variable holds a number. -/
def Mx (w : World) : Prop := ∃ m, w.cell? ⟨0, 0, none⟩ = some (.int .i64 m)
theorem Mx.lt {w : World} (h : Mx w) : 0 < w.heap.size := by obtain ⟨m, h⟩ := h; exact block_lt_of_cell h
theorem Mx.below {w w' : World} (h : Mx w) (hb : Below w.heap.size w w') : Mx w' := by
  have hl := h.lt
  obtain ⟨m, h⟩ := h
  exact ⟨m, (hb.cell (p := ⟨0, 0, none⟩) hl).trans h⟩
theorem contains_c (s p : ByteArray) (w : World) (hs : s.size < 4294967281) (hm : Mx w) : Calls Tryd.prog 60 #[.string s, .string p] w fun e w' => e = .returned (.bool (Lib.contains s.data.toList p.data.toList)) ∧ w = w' := by
  obtain ⟨m, hm⟩ := hm
  exact (Tryd.strings_Contains s p m w hs hm).mono fun _ _ ⟨h1, h2⟩ => ⟨h1, h2.symm⟩
set_option maxHeartbeats 1000000 in
theorem is_ref (s : ByteArray) (hs : s.size ≤ 1000000) (w : World) : Calls Tryd.prog 47 #[.string s] w fun e w' => e = .returned (.bool (isW s)) ∧ w = w' := by
  by_cases h0 : s.size = 0
  · rw [isW_false (s := s) (fun h => by have := h.1; omega)]
    obtain rfl := size_zero h0
    clear h0
    go_enter Tryd.func47, Tryd.ntmps47
    go_wp2
    go_ret
    exact ⟨rfl, rfl⟩
  have hpos : 0 < s.size := by omega
  have t0 : ((s.size : Int) == 0) = false := beq_eq_false_iff_ne.2 (by omega)
  by_cases h32 : 32 < s.size
  · rw [isW_false (s := s) (fun h => by have := h.2.1; omega)]
    clear h0
    go_enter Tryd.func47, Tryd.ntmps47
    go_wp2
    go_ret
    exact ⟨rfl, rfl⟩
  have HB0 := Lib.hid (bt_eq s 0 hpos)
  obtain ⟨a, ha⟩ : ∃ a, s[0]'hpos = a := ⟨_, rfl⟩
  have HA := Lib.hid (show bt s 0 = a by rw [HB0.out, ha])
  have hal : a.toNat < 256 := a.toNat_lt
  have hq : s.size - 1 < s.size := by omega
  have HB1 := Lib.hid (bt_eq s (s.size - 1) hq)
  obtain ⟨z, hz⟩ : ∃ z, s[s.size - 1]'hq = z := ⟨_, rfl⟩
  have HZ := Lib.hid (show bt s (s.size - 1) = z by rw [HB1.out, hz])
  have hzl : z.toNat < 256 := z.toNat_lt
  have i1 : (1 : Int) ≤ (s.size : Int) := by omega
  have i2 : (s.size : Int) - 1 < (s.size : Int) := by omega
  have h33 : s.size ≤ 32 := by omega
  clear h0 h32
  cases hla : lowB a
  · rw [isW_false (s := s) (fun h => by have := h.2.2.1; rw [HA.out, hla] at this; cases this)]
    have HLA := Lib.hid hla
    clear hla
    go_enter Tryd.func47, Tryd.ntmps47
    go_wp2_with (go_at_call 61; refine (low_any a _).mono ?_; rintro e w' ⟨rfl, rfl⟩; rw [HLA.out])
    go_ret
    exact ⟨rfl, rfl⟩
  have HLA := Lib.hid hla
  clear hla
  by_cases hz45 : z.toNat = 45
  · rw [isW_false (s := s) (fun h => h.2.2.2.1 (by rw [HZ.out]; exact hz45))]
    have tz : ((z.toNat : Int) == 45) = true := beq_iff_eq.2 (by omega)
    clear hz45
    go_enter Tryd.func47, Tryd.ntmps47
    go_wp2_with (go_at_call 61; refine (low_any a _).mono ?_; rintro e w' ⟨rfl, rfl⟩; rw [HLA.out])
    go_ret
    exact ⟨rfl, rfl⟩
  have tz : ((z.toNat : Int) == 45) = false := beq_eq_false_iff_ne.2 (by omega)
  go_enter Tryd.func47, Tryd.ntmps47
  go_wp2_with (go_at_call 61; refine (low_any a _).mono ?_; rintro e w' ⟨rfl, rfl⟩; rw [HLA.out])
  go_loop [3] (fun i => ∃ k : Nat, k ≤ s.size ∧ i = .int .i64 k ∧ Goods s k ∧ NoDD s k) (fun i => s.size - (intOf i).toNat)
  case atStart => exact ⟨0, by omega, rfl, (fun i hi => by omega), fun i hi => by omega⟩
  case round =>
    obtain ⟨k, hk, rfl, hgd, hdd⟩ := hrel
    by_cases hlt : k < s.size
    · have HB := Lib.hid (bt_eq s k hlt)
      obtain ⟨c, hc⟩ : ∃ c, s[k]'hlt = c := ⟨_, rfl⟩
      have HC := Lib.hid (show bt s k = c by rw [HB.out, hc])
      have hcl : c.toNat < 256 := c.toNat_lt
      have HG := Lib.hid hgd
      have HDD := Lib.hid hdd
      clear hgd hdd
      cases hlc : lowB c
      · have hnl : ¬ (97 ≤ c.toNat ∧ c.toNat ≤ 122) := of_decide_eq_false hlc
        have HLC := Lib.hid hlc
        clear hlc
        by_cases hdg : 48 ≤ c.toNat ∧ c.toNat ≤ 57
        · obtain ⟨d1, d2⟩ := hdg
          have HN := Lib.hid (HG.out.step (by rw [HC.out]; exact decide_eq_true (.inr (.inl ⟨d1, d2⟩))))
          have HM := Lib.hid (HDD.out.step (fun _ h => by rw [HC.out] at h; omega))
          have t45 : ((c.toNat : Int) == 45) = false := beq_eq_false_iff_ne.2 (by omega)
          clear hnl
          go_wp2_with (go_at_call 61; refine (low_any c _).mono ?_; rintro e w' ⟨rfl, rfl⟩; rw [HLC.out])
          all_goals go_round
          all_goals first
            | (case rel => exact ⟨k + 1, by omega, by go_num, HN.out, HM.out⟩)
            | (case measure => simp [intOf]; omega)
        · by_cases h45 : c.toNat = 45
          · have HN := Lib.hid (HG.out.step (by rw [HC.out]; exact decide_eq_true (.inr (.inr h45))))
            have t45 : ((c.toNat : Int) == 45) = true := beq_iff_eq.2 (by omega)
            have t46 : ((c.toNat : Int) != 45) = false := by rw [bne, t45]; rfl
            have c48 : (c.toNat : Int) < 48 := by omega
            by_cases hk0 : k = 0
            · exfalso
              subst hk0
              have hca : a = c := by rw [← HA.out, ← HC.out]
              have h1 := HLA.out
              rw [hca, HLC.out] at h1
              cases h1
            · have hq1 : k - 1 < s.size := by omega
              have HBQ := Lib.hid (bt_eq s (k - 1) hq1)
              obtain ⟨q, hqe⟩ : ∃ q, s[k - 1]'hq1 = q := ⟨_, rfl⟩
              have HQ := Lib.hid (show bt s (k - 1) = q by rw [HBQ.out, hqe])
              have hql : q.toNat < 256 := q.toNat_lt
              have k1 : (1 : Int) ≤ (k : Int) := by omega
              have k2 : (k : Int) - 1 < (s.size : Int) := by omega
              by_cases hq45 : q.toNat = 45
              · have HF := Lib.hid (isW_false (s := s) (fun h => h.2.2.2.2.2 k hlt (by omega) ⟨by rw [HC.out]; exact h45, by rw [HQ.out]; exact hq45⟩))
                have tq : ((q.toNat : Int) == 45) = true := beq_iff_eq.2 (by omega)
                clear hnl hdg h45 hq45 hk0
                go_wp2_with (go_at_call 61; refine (low_any c _).mono ?_; rintro e w' ⟨rfl, rfl⟩; rw [HLC.out])
                go_ret
                exact ⟨ret_bool HF.out.symm, rfl⟩
              · have HM := Lib.hid (HDD.out.step (fun _ h => hq45 (by rw [← HQ.out]; exact h.2)))
                have tq : ((q.toNat : Int) == 45) = false := beq_eq_false_iff_ne.2 (by omega)
                clear hnl hdg h45 hq45 hk0
                go_wp2_with (go_at_call 61; refine (low_any c _).mono ?_; rintro e w' ⟨rfl, rfl⟩; rw [HLC.out])
                go_round
                case rel => exact ⟨k + 1, by omega, by go_num, HN.out, HM.out⟩
                case measure => simp [intOf]; omega
          · have HF := Lib.hid (isW_bad hlt (by rw [HC.out]; exact decide_eq_false (by omega)))
            have t45 : ((c.toNat : Int) == 45) = false := beq_eq_false_iff_ne.2 (by omega)
            have t46 : ((c.toNat : Int) != 45) = true := by rw [bne, t45]; rfl
            rcases (show c.toNat < 48 ∨ 57 < c.toNat by omega) with hb | hb
            · clear hnl hdg h45
              go_wp2_with (go_at_call 61; refine (low_any c _).mono ?_; rintro e w' ⟨rfl, rfl⟩; rw [HLC.out])
              go_ret
              exact ⟨ret_bool HF.out.symm, rfl⟩
            · clear hnl hdg h45
              go_wp2_with (go_at_call 61; refine (low_any c _).mono ?_; rintro e w' ⟨rfl, rfl⟩; rw [HLC.out])
              go_ret
              exact ⟨ret_bool HF.out.symm, rfl⟩
      · have hlo : 97 ≤ c.toNat ∧ c.toNat ≤ 122 := of_decide_eq_true hlc
        have HLC := Lib.hid hlc
        have HN := Lib.hid (HG.out.step (by rw [HC.out]; exact decide_eq_true (.inl hlo)))
        have HM := Lib.hid (HDD.out.step (fun _ h => by rw [HC.out] at h; omega))
        have t45 : ((c.toNat : Int) == 45) = false := beq_eq_false_iff_ne.2 (by omega)
        clear hlc
        go_wp2_with (go_at_call 61; refine (low_any c _).mono ?_; rintro e w' ⟨rfl, rfl⟩; rw [HLC.out])
        all_goals go_round
        all_goals first
          | (case rel => exact ⟨k + 1, by omega, by go_num, HN.out, HM.out⟩)
          | (case measure => simp [intOf]; omega)
    · obtain rfl : k = s.size := by omega
      have HF := Lib.hid (isW_true (s := s) ⟨by omega, by omega, by rw [HA.out]; exact HLA.out, by rw [HZ.out]; exact hz45, hgd, hdd⟩)
      clear hgd hdd
      go_wp2
      go_ret
      exact ⟨ret_bool HF.out.symm, rfl⟩
set_option maxHeartbeats 1000000 in
theorem is_prog (s : ByteArray) (hs : s.size ≤ 1000000) (w : World) (hm : Mx w) : Calls Tryd.prog 46 #[.string s] w fun e w' => e = .returned (.bool (isW s)) ∧ Below w.heap.size w w' := by
  have HM := Lib.hid hm
  clear hm
  by_cases h0 : s.size = 0
  · rw [isW_false (s := s) (fun h => by have := h.1; omega)]
    obtain rfl := size_zero h0
    clear h0
    go_enter Tryd.func46, Tryd.ntmps46
    go_wp2
    go_ret
    exact ⟨rfl, Below.refl _ _⟩
  have hpos : 0 < s.size := by omega
  have t0 : ((s.size : Int) == 0) = false := beq_eq_false_iff_ne.2 (by omega)
  by_cases h32 : 32 < s.size
  · rw [isW_false (s := s) (fun h => by have := h.2.1; omega)]
    clear h0
    go_enter Tryd.func46, Tryd.ntmps46
    go_wp2
    go_ret
    exact ⟨rfl, Below.refl _ _⟩
  have HB0 := Lib.hid (bt_eq s 0 hpos)
  obtain ⟨a, ha⟩ : ∃ a, s[0]'hpos = a := ⟨_, rfl⟩
  have HA := Lib.hid (show bt s 0 = a by rw [HB0.out, ha])
  have hal : a.toNat < 256 := a.toNat_lt
  have hq : s.size - 1 < s.size := by omega
  have HB1 := Lib.hid (bt_eq s (s.size - 1) hq)
  obtain ⟨z, hz⟩ : ∃ z, s[s.size - 1]'hq = z := ⟨_, rfl⟩
  have HZ := Lib.hid (show bt s (s.size - 1) = z by rw [HB1.out, hz])
  have hzl : z.toNat < 256 := z.toNat_lt
  have i1 : (1 : Int) ≤ (s.size : Int) := by omega
  have i2 : (s.size : Int) - 1 < (s.size : Int) := by omega
  have h33 : s.size ≤ 32 := by omega
  clear h0 h32
  by_cases hla : 97 ≤ a.toNat ∧ a.toNat ≤ 122
  case neg =>
    rw [isW_false (s := s) (fun h => by have h1 := of_decide_eq_true h.2.2.1; rw [HA.out] at h1; exact hla h1)]
    rcases (show a.toNat < 97 ∨ (97 ≤ a.toNat ∧ 122 < a.toNat) by omega) with hb | ⟨hb, hb2⟩
    · clear hla
      go_enter Tryd.func46, Tryd.ntmps46
      go_wp2
      go_ret
      exact ⟨rfl, Below.refl _ _⟩
    · clear hla
      go_enter Tryd.func46, Tryd.ntmps46
      go_wp2
      go_ret
      exact ⟨rfl, Below.refl _ _⟩
  have HLA := Lib.hid (show lowB a = true from decide_eq_true hla)
  obtain ⟨hl1, hl2⟩ := hla
  by_cases hz45 : z.toNat = 45
  · rw [isW_false (s := s) (fun h => h.2.2.2.1 (by rw [HZ.out]; exact hz45))]
    have tz : ((z.toNat : Int) == 45) = true := beq_iff_eq.2 (by omega)
    clear hz45
    go_enter Tryd.func46, Tryd.ntmps46
    go_wp2
    go_ret
    exact ⟨rfl, Below.refl _ _⟩
  have tz : ((z.toNat : Int) == 45) = false := beq_eq_false_iff_ne.2 (by omega)
  cases hct : Lib.contains s.data.toList [45, 45]
  case true =>
    rw [isW_contains hct]
    have HCT := Lib.hid (show Lib.contains s.data.toList (ByteArray.mk #[45, 45]).data.toList = true from hct)
    clear hct hz45
    go_enter Tryd.func46, Tryd.ntmps46
    go_wp2_with (go_at_call 60; refine (contains_c s ⟨#[45, 45]⟩ _ (by omega) HM.out).mono ?_; rintro e w' ⟨rfl, rfl⟩; rw [HCT.out])
    go_ret
    exact ⟨rfl, Below.refl _ _⟩
  have HDD := Lib.hid (noDD_contains hct)
  have HCT := Lib.hid (show Lib.contains s.data.toList (ByteArray.mk #[45, 45]).data.toList = false from hct)
  have HZ45 := Lib.hid hz45
  clear hct hz45
  go_enter Tryd.func46, Tryd.ntmps46
  go_wp2_with (first
    | (go_at_call 60; refine (contains_c s ⟨#[45, 45]⟩ _ (by omega) HM.out).mono ?_; rintro e w' ⟨rfl, rfl⟩; rw [HCT.out])
    | (with_reducible refine wpList_bytes rfl 9 66 5 (.tmp 35) rfl Tryd.underlying9 Tryd.underlying66 Tryd.underlying5 s rfl ?_; intro cap w1 hcap hbel hsz hcell; have HC1 := Lib.hid hcell; clear hcell))
  go_loop [38] (fun i => ∃ k : Nat, k ≤ s.size ∧ i = .int .i64 k ∧ Goods s k) (fun i => s.size - (intOf i).toNat)
  case atStart => exact ⟨0, by omega, rfl, (fun i hi => by omega)⟩
  case round =>
    obtain ⟨k, hk, rfl, hgd⟩ := hrel
    by_cases hlt : k < s.size
    · have HB := Lib.hid (bt_eq s k hlt)
      have hcell := HC1.out k hlt
      obtain ⟨c, hc⟩ : ∃ c, s[k]'hlt = c := ⟨_, rfl⟩
      have HC := Lib.hid (show bt s k = c by rw [HB.out, hc])
      rw [hc] at hcell
      clear hc
      have hcl : c.toNat < 256 := c.toNat_lt
      have HG := Lib.hid hgd
      clear hgd
      by_cases hgood : goodB c = true
      · have HN := Lib.hid (HG.out.step (by rw [HC.out]; exact hgood))
        have hg3 : (97 ≤ c.toNat ∧ c.toNat ≤ 122) ∨ (48 ≤ c.toNat ∧ c.toNat ≤ 57) ∨ c.toNat = 45 := of_decide_eq_true hgood
        clear hgood
        rcases hg3 with ⟨c1, c2⟩ | ⟨c1, c2⟩ | c1
        · go_wp2
          go_round
          case rel => exact ⟨k + 1, by omega, by go_num, HN.out⟩
          case measure => simp [intOf]; omega
        · go_wp2
          go_round
          case rel => exact ⟨k + 1, by omega, by go_num, HN.out⟩
          case measure => simp [intOf]; omega
        · have t45 : ((c.toNat : Int) != 45) = false := by rw [bne, beq_iff_eq.2 (show (c.toNat : Int) = 45 by omega)]; rfl
          have c48 : (c.toNat : Int) < 48 := by omega
          clear c1
          go_wp2
          go_round
          case rel => exact ⟨k + 1, by omega, by go_num, HN.out⟩
          case measure => simp [intOf]; omega
      · have HF := Lib.hid (isW_bad hlt (by rw [HC.out]; simpa using hgood))
        have hn : ¬ ((97 ≤ c.toNat ∧ c.toNat ≤ 122) ∨ (48 ≤ c.toNat ∧ c.toNat ≤ 57) ∨ c.toNat = 45) := fun h => hgood (decide_eq_true h)
        have t45 : ((c.toNat : Int) != 45) = true := by rw [bne, beq_eq_false_iff_ne.2 (show ¬ (c.toNat : Int) = 45 by omega)]; rfl
        clear hgood
        rcases (show c.toNat < 48 ∨ (57 < c.toNat ∧ c.toNat < 97) ∨ 122 < c.toNat by omega) with c1 | ⟨c1, c2⟩ | c1
        all_goals
          clear hn
          go_wp2
          go_ret
          exact ⟨ret_bool HF.out.symm, hbel⟩
    · obtain rfl : k = s.size := by omega
      have HF := Lib.hid (isW_true (s := s) ⟨by omega, by omega, by rw [HA.out]; exact HLA.out, by rw [HZ.out]; exact HZ45.out, hgd, HDD.out⟩)
      clear hgd
      go_wp2
      go_ret
      exact ⟨ret_bool HF.out.symm, hbel⟩
theorem brack_step {b : UInt8} (hb : brack b = false) (d : Nat) : dstep d b = d := by
  have : ¬ (b.toNat = 40 ∨ b.toNat = 41 ∨ b.toNat = 91 ∨ b.toNat = 93) := of_decide_eq_false hb
  exact dstep_same _ _ (by omega) (by omega)
end Go.Proofs.YtgnffmlcjnnneaaDoor
