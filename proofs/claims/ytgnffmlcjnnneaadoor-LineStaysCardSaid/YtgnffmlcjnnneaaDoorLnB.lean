/- Walks of chapter 10: the words, bit, words, IsSub, combines, and the reference's small functions. -/
import Derived.Test.YtgnffmlcjnnneaaDoorLnA
namespace Go.Proofs.YtgnffmlcjnnneaaDoor
open Go Go.RowKit Cg
theorem superN_index (w : World) (i : Nat) (hi : i < 2) : (Instr.index 58 (.agg #[.string ⟨#[98, 97, 115, 105, 99]⟩, .string ⟨#[117, 110, 105, 113, 117, 101]⟩]) (.int .i64 i)).run Tryd.prog w = .ok (.string (superN i)) w := by
  rcases (show i = 0 ∨ i = 1 by omega) with rfl | rfl
  · simp [Instr.index, asIntOf, run_underlying Tryd.underlying58, Go.part, Tryd.sizeOf9, Tryd.isAgg9, superN]
  · simp [Instr.index, asIntOf, run_underlying Tryd.underlying58, Go.part, Tryd.sizeOf9, Tryd.isAgg9, superN]
theorem superN_any (i : Nat) (hi : i < 2) (w : World) : Calls Tryd.prog 31 #[.int .i64 i] w fun e w' => e = .returned (.string (superN i)) ∧ w = w' := by
  have hr := superN_index w i hi
  go_enter Tryd.func31, Tryd.ntmps31
  go_wp2
  go_ret
  exact ⟨rfl, rfl⟩
theorem bit_superN (s : ByteArray) (w : World) : Calls Tryd.prog 30 #[.string s, .int .i64 2, .func (.func 31) #[] #[]] w fun e w' => e = .returned (.int .i64 (bitW superN s 2 : Nat)) ∧ w = w' := by
  have eg : ∀ args w, (callFunc 31 args).run Tryd.prog w = .ok (.enter 31 args) w := enters_of Tryd.func31 (by kernel_rfl) rfl
  go_enter Tryd.func30, Tryd.ntmps30
  go_wp2_with fail
  go_step3
  go_wp2_with fail
  go_step3
  go_wp2_with fail
  go_loop [9] (fun i => ∃ k : Nat, k ≤ 2 ∧ i = .int .i64 k ∧ Hid (bitW superN s k = 0)) (fun i => 2 - (intOf i).toNat)
  case atStart => exact ⟨0, by omega, rfl, Lib.hid rfl⟩
  case round =>
    obtain ⟨k, hk, rfl, H⟩ := hrel
    by_cases hlt : k < 2
    · have i0 : (0 : Int) ≤ (k : Int) := by omega
      have i1 : (k : Int) < 2 := by omega
      by_cases he : superN k = s
      · have HR := Lib.hid (bitW_hit superN s k H.out he 2 hlt)
        have ht := same_true he
        have hpk : 2 ^ k < 2 ^ 2 := Nat.pow_lt_pow_right (by omega) hlt
        obtain ⟨p2, hp2⟩ : ∃ p2, p2 = 2 ^ k := ⟨_, rfl⟩
        have hsh : IntKind.i64.wrap ((2 : Int) ^ k) = (p2 : Int) := by
          have : ((2 : Int) ^ k) = (p2 : Int) := by rw [hp2]; simp
          rw [this, IntKind.wrap_i64]
          rw [← hp2] at hpk
          omega
        rw [← hp2] at HR
        clear he hp2 hpk
        go_wp2_with fail
        refine (superN_any k hlt _).mono ?_
        rintro e w1 ⟨rfl, rfl⟩
        go_wp2_with fail
        rw [Exit.noGoto_ret]
        go_ret
        exact ⟨ret_int (by rw [HR.out]), rfl⟩
      · have H2 := Lib.hid (bitW_next superN s k H.out he)
        have ht := same_false he
        clear he H
        go_wp2_with fail
        refine (superN_any k hlt _).mono ?_
        rintro e w1 ⟨rfl, rfl⟩
        go_wp2_with fail
        go_round
        case rel => exact ⟨k + 1, by omega, by go_num, H2⟩
        case measure => simp [intOf]; omega
    · obtain rfl : k = 2 := by omega
      go_wp2_with fail
      go_ret
      exact ⟨by rw [H.out]; rfl, rfl⟩
theorem typeN_index (w : World) (i : Nat) (hi : i < 6) : (Instr.index 59 (.agg #[.string ⟨#[99, 114, 101, 97, 116, 117, 114, 101]⟩, .string ⟨#[105, 110, 115, 116, 97, 110, 116]⟩, .string ⟨#[114, 105, 116, 117, 97, 108]⟩, .string ⟨#[114, 101, 108, 105, 99]⟩, .string ⟨#[99, 104, 97, 114, 109]⟩, .string ⟨#[108, 97, 110, 100]⟩]) (.int .i64 i)).run Tryd.prog w = .ok (.string (typeN i)) w := by
  rcases (show i = 0 ∨ i = 1 ∨ i = 2 ∨ i = 3 ∨ i = 4 ∨ i = 5 by omega) with rfl | rfl | rfl | rfl | rfl | rfl
  · simp [Instr.index, asIntOf, run_underlying Tryd.underlying59, Go.part, Tryd.sizeOf9, Tryd.isAgg9, typeN]
  · simp [Instr.index, asIntOf, run_underlying Tryd.underlying59, Go.part, Tryd.sizeOf9, Tryd.isAgg9, typeN]
  · simp [Instr.index, asIntOf, run_underlying Tryd.underlying59, Go.part, Tryd.sizeOf9, Tryd.isAgg9, typeN]
  · simp [Instr.index, asIntOf, run_underlying Tryd.underlying59, Go.part, Tryd.sizeOf9, Tryd.isAgg9, typeN]
  · simp [Instr.index, asIntOf, run_underlying Tryd.underlying59, Go.part, Tryd.sizeOf9, Tryd.isAgg9, typeN]
  · simp [Instr.index, asIntOf, run_underlying Tryd.underlying59, Go.part, Tryd.sizeOf9, Tryd.isAgg9, typeN]
theorem typeN_any (i : Nat) (hi : i < 6) (w : World) : Calls Tryd.prog 32 #[.int .i64 i] w fun e w' => e = .returned (.string (typeN i)) ∧ w = w' := by
  have hr := typeN_index w i hi
  go_enter Tryd.func32, Tryd.ntmps32
  go_wp2
  go_ret
  exact ⟨rfl, rfl⟩
theorem bit_typeN (s : ByteArray) (w : World) : Calls Tryd.prog 30 #[.string s, .int .i64 6, .func (.func 32) #[] #[]] w fun e w' => e = .returned (.int .i64 (bitW typeN s 6 : Nat)) ∧ w = w' := by
  have eg : ∀ args w, (callFunc 32 args).run Tryd.prog w = .ok (.enter 32 args) w := enters_of Tryd.func32 (by kernel_rfl) rfl
  go_enter Tryd.func30, Tryd.ntmps30
  go_wp2_with fail
  go_step3
  go_wp2_with fail
  go_step3
  go_wp2_with fail
  go_loop [9] (fun i => ∃ k : Nat, k ≤ 6 ∧ i = .int .i64 k ∧ Hid (bitW typeN s k = 0)) (fun i => 6 - (intOf i).toNat)
  case atStart => exact ⟨0, by omega, rfl, Lib.hid rfl⟩
  case round =>
    obtain ⟨k, hk, rfl, H⟩ := hrel
    by_cases hlt : k < 6
    · have i0 : (0 : Int) ≤ (k : Int) := by omega
      have i1 : (k : Int) < 6 := by omega
      by_cases he : typeN k = s
      · have HR := Lib.hid (bitW_hit typeN s k H.out he 6 hlt)
        have ht := same_true he
        have hpk : 2 ^ k < 2 ^ 6 := Nat.pow_lt_pow_right (by omega) hlt
        obtain ⟨p2, hp2⟩ : ∃ p2, p2 = 2 ^ k := ⟨_, rfl⟩
        have hsh : IntKind.i64.wrap ((2 : Int) ^ k) = (p2 : Int) := by
          have : ((2 : Int) ^ k) = (p2 : Int) := by rw [hp2]; simp
          rw [this, IntKind.wrap_i64]
          rw [← hp2] at hpk
          omega
        rw [← hp2] at HR
        clear he hp2 hpk
        go_wp2_with fail
        refine (typeN_any k hlt _).mono ?_
        rintro e w1 ⟨rfl, rfl⟩
        go_wp2_with fail
        rw [Exit.noGoto_ret]
        go_ret
        exact ⟨ret_int (by rw [HR.out]), rfl⟩
      · have H2 := Lib.hid (bitW_next typeN s k H.out he)
        have ht := same_false he
        clear he H
        go_wp2_with fail
        refine (typeN_any k hlt _).mono ?_
        rintro e w1 ⟨rfl, rfl⟩
        go_wp2_with fail
        go_round
        case rel => exact ⟨k + 1, by omega, by go_num, H2⟩
        case measure => simp [intOf]; omega
    · obtain rfl : k = 6 := by omega
      go_wp2_with fail
      go_ret
      exact ⟨by rw [H.out]; rfl, rfl⟩
theorem intsElem : ElemIs Tryd.prog 63 3 (.int .i64 0) 1 8 := elemIs_mk Tryd.underlying63 (by kernel_rfl) rfl (by decide)
/-- The set bits below k, in order. -/
def bsel (n : Nat) : Nat → List Nat
  | 0 => []
  | k + 1 => if n / 2 ^ k % 2 = 1 then bsel n k ++ [k] else bsel n k
theorem bsel_hit (n k : Nat) (h : n / 2 ^ k % 2 = 1) : bsel n (k + 1) = bsel n k ++ [k] := by rw [bsel, if_pos h]
theorem bsel_miss (n k : Nat) (h : ¬ n / 2 ^ k % 2 = 1) : bsel n (k + 1) = bsel n k := by rw [bsel, if_neg h]
theorem bsel_len (n : Nat) : ∀ k, (bsel n k).length ≤ k
  | 0 => Nat.le_refl _
  | k + 1 => by
    have := bsel_len n k
    rw [bsel]
    split <;> simp <;> omega
theorem bsel_lt (n : Nat) : ∀ k, ∀ x ∈ bsel n k, x < k
  | 0, x, hx => by simp [bsel] at hx
  | k + 1, x, hx => by
    rw [bsel] at hx
    split at hx
    · rcases List.mem_append.1 hx with hx | hx
      · have := bsel_lt n k x hx; omega
      · have := List.mem_singleton.1 hx; omega
    · have := bsel_lt n k x hx; omega
theorem bits_prog (n : Nat) (hn : n < 131072) (w : World) : Calls Tryd.prog 55 #[.int .i64 n] w fun e w' => ∃ v, e = .returned v ∧ w'.ownsRow w.heap.size 3 1 v (bsel n 31).length ((bsel n 31).map fun (k : Nat) => Value.int .i64 (k : Int)) ∧ Below w.heap.size w w' := by
  go_enter Tryd.func55, Tryd.ntmps55
  go_wp2
  go_loopw [3, 8] (fun out i wr => ∃ k : Nat, k ≤ 31 ∧ i = .int .i64 k ∧ wr.ownsRow w.heap.size 3 1 out (bsel n k).length ((bsel n k).map fun (k : Nat) => Value.int .i64 (k : Int)) ∧ Below w.heap.size w wr) (fun _ i _ => 31 - (intOf i).toNat)
  case atStart => exact ⟨0, by omega, rfl, World.ownsRow_nil _ _ _ _, Below.refl _ _⟩
  case round =>
    obtain ⟨k, hk, rfl, hown, hnx⟩ := hrel
    have hbl := bsel_len n k
    by_cases hlt : k < 31
    · have hpw : n / 2 ^ k ≤ n := Nat.div_le_self _ _
      have hand := i64_and_one (n / 2 ^ k) (by omega)
      obtain ⟨q, hq⟩ : ∃ q, q = n / 2 ^ k := ⟨_, rfl⟩
      have HQ := Lib.hid hq
      have hsh : (n : Int) / 2 ^ k = (q : Int) := by rw [hq]; simp
      rw [← hq] at hand hpw
      clear hq
      by_cases hb : q % 2 = 1
      · have HH := Lib.hid (bsel_hit n k (by rw [← HQ.out]; exact hb))
        rw [hb] at hand
        clear hb
        go_wp2_with (at_builtin; refine wpList_append_new rfl (.tmp 16) (.tmp 18) 63 rfl w.heap.size intsElem _ _ _ rfl hown [.int .i64 k] rfl rfl rfl (by omega) (by omega) hnx.size ?_; intro v' w1 hown' hbel hne)
        go_roundw
        case rel => exact ⟨k + 1, by omega, by go_num, by rw [HH.out]; simpa using hown', hnx.trans hbel⟩
        case measure => simp [intOf]; omega
      · have HH := Lib.hid (bsel_miss n k (by rw [← HQ.out]; exact hb))
        rw [show q % 2 = 0 by omega] at hand
        clear hb
        go_wp2
        go_roundw
        case rel => exact ⟨k + 1, by omega, by go_num, by rw [HH.out]; exact hown, hnx⟩
        case measure => simp [intOf]; omega
    · obtain rfl : k = 31 := by omega
      go_wp2
      go_ret
      exact ⟨_, rfl, hown, hnx⟩
end Go.Proofs.YtgnffmlcjnnneaaDoor
