/- Walks of chapter 11: num.Bits, word.Join, Text (the program's and the reference's). -/
import Derived.Test.YtihnjbbgfjckaaaKwB
import Derived.Test.YtihnjbbgfjckaaaWdC
namespace Go.Proofs.Ytihnjbbgfjckaaa
open Go Go.RowKit Cg
theorem intsElem : ElemIs Try.prog 51 3 (.int .i64 0) 1 8 := elemIs_mk Try.underlying51 (by kernel_rfl) rfl (by decide)
/-- The set bits below k, in order. -/
def bsel (n : Nat) : Nat → List Nat
  | 0 => []
  | k + 1 => if n / 2 ^ k % 2 = 1 then bsel n k ++ [k] else bsel n k
theorem bsel_hit (n k : Nat) (h : n / 2 ^ k % 2 = 1) : bsel n (k + 1) = bsel n k ++ [k] := by rw [bsel, if_pos h]
theorem bsel_miss (n k : Nat) (h : ¬ n / 2 ^ k % 2 = 1) : bsel n (k + 1) = bsel n k := by rw [bsel, if_neg h]
theorem bsel_len (n : Nat) : ∀ k, (bsel n k).length ≤ k
  | 0 => Nat.le_refl _
  | k + 1 => by
    have := bsel_len n k
    rw [bsel]
    split <;> simp <;> omega
theorem bsel_lt (n : Nat) : ∀ k, ∀ x ∈ bsel n k, x < k
  | 0, x, hx => by simp [bsel] at hx
  | k + 1, x, hx => by
    rw [bsel] at hx
    split at hx
    · rcases List.mem_append.1 hx with hx | hx
      · have := bsel_lt n k x hx; omega
      · have := List.mem_singleton.1 hx; omega
    · have := bsel_lt n k x hx; omega
theorem ksel_bsel (n : Nat) : ∀ k, ksel n k = (bsel n k).map kn
  | 0 => rfl
  | k + 1 => by
    rw [ksel, bsel, ksel_bsel n k]
    split <;> simp
theorem ksel_up (n : Nat) (hn : n < 131072) : ∀ j, ksel n (17 + j) = ksel n 17
  | 0 => rfl
  | j + 1 => by
    rw [show 17 + (j + 1) = (17 + j) + 1 by omega, ksel_miss, ksel_up n hn j]
    have : n / 2 ^ (17 + j) = 0 := by
      apply Nat.div_eq_of_lt
      rw [Nat.pow_add]
      have : 1 ≤ 2 ^ j := Nat.one_le_two_pow
      omega
    rw [this]
    decide
theorem ksel_31 (n : Nat) (hn : n < 131072) : (bsel n 31).map kn = ksel n 17 := by rw [← ksel_bsel]; exact ksel_up n hn 14
theorem bits_prog (n : Nat) (hn : n < 131072) (w : World) : Calls Try.prog 51 #[.int .i64 n] w fun e w' => ∃ v, e = .returned v ∧ w'.ownsRow w.heap.size 3 1 v (bsel n 31).length ((bsel n 31).map fun (k : Nat) => Value.int .i64 (k : Int)) ∧ Below w.heap.size w w' := by
  go_enter Try.func51, Try.ntmps51
  go_wp2
  go_loopw [3, 8] (fun out i wr => ∃ k : Nat, k ≤ 31 ∧ i = .int .i64 k ∧ wr.ownsRow w.heap.size 3 1 out (bsel n k).length ((bsel n k).map fun (k : Nat) => Value.int .i64 (k : Int)) ∧ Below w.heap.size w wr) (fun _ i _ => 31 - (intOf i).toNat)
  case atStart => exact ⟨0, by omega, rfl, World.ownsRow_nil _ _ _ _, Below.refl _ _⟩
  case round =>
    obtain ⟨k, hk, rfl, hown, hnx⟩ := hrel
    have hbl := bsel_len n k
    by_cases hlt : k < 31
    · have hpw : n / 2 ^ k ≤ n := Nat.div_le_self _ _
      have hand := i64_and_one (n / 2 ^ k) (by omega)
      obtain ⟨q, hq⟩ : ∃ q, q = n / 2 ^ k := ⟨_, rfl⟩
      have HQ := Lib.hid hq
      have hsh : (n : Int) / 2 ^ k = (q : Int) := by rw [hq]; simp
      rw [← hq] at hand hpw
      clear hq
      by_cases hb : q % 2 = 1
      · have HH := Lib.hid (bsel_hit n k (by rw [← HQ.out]; exact hb))
        rw [hb] at hand
        clear hb
        go_wp2_with (at_builtin; refine wpList_append_new rfl (.tmp 16) (.tmp 18) 51 rfl w.heap.size intsElem _ _ _ rfl hown [.int .i64 k] rfl rfl rfl (by omega) (by omega) hnx.size ?_; intro v' w1 hown' hbel hne)
        go_roundw
        case rel => exact ⟨k + 1, by omega, by go_num, by rw [HH.out]; simpa using hown', hnx.trans hbel⟩
        case measure => simp [intOf]; omega
      · have HH := Lib.hid (bsel_miss n k (by rw [← HQ.out]; exact hb))
        rw [show q % 2 = 0 by omega] at hand
        clear hb
        go_wp2
        go_roundw
        case rel => exact ⟨k + 1, by omega, by go_num, by rw [HH.out]; exact hown, hnx⟩
        case measure => simp [intOf]; omega
    · obtain rfl : k = 31 := by omega
      go_wp2
      go_ret
      exact ⟨_, rfl, hown, hnx⟩
theorem join_prog (v : Value) (xs : List ByteArray) (sep : ByteArray) (w : World) (h : StrsAt w v xs) (hN : xs.length ≤ 140737488355328) (hlen : (Lib.join (xs.map (·.data.toList)) sep.data.toList).length ≤ 140737488355328) :
    Calls Try.prog 36 #[v, .string sep] w fun e w' => e = .returned (.string ⟨(Lib.join (xs.map (·.data.toList)) sep.data.toList).toArray⟩) ∧ Below w.heap.size w w' := by
  obtain ⟨ao, cap, rfl, h⟩ := h
  by_cases hx : xs = []
  · subst hx
    go_enter Try.func36, Try.ntmps36
    go_wp2_with fail
    refine (Try.strings_Join_none _ _ _ _).mono ?_
    rintro e w1 ⟨rfl, rfl⟩
    go_wp2_with fail
    go_ret
    exact ⟨rfl, Below.refl _ _⟩
  · rcases h with h | ⟨b, o, rfl, hlt, hc, hcell⟩
    · exact absurd h hx
    clear hx
    go_enter Try.func36, Try.ntmps36
    go_wp2_with fail
    refine (Try.strings_Join b o cap xs sep w hcell hlt hN hc hlen).mono ?_
    rintro e w1 ⟨rfl, b1⟩
    go_wp2_with fail
    go_ret
    exact ⟨rfl, b1⟩
end Go.Proofs.Ytihnjbbgfjckaaa
