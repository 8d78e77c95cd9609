/- Bits of an int in two's complement: what '&' answers, bit by bit. They hold for any program. -/
import Derived.Test.YtgnffmlcjnnneaaDoorBase
namespace Cg
open Go Go.RowKit
def u64 (x : Int) : Nat := (x % 18446744073709551616).toNat
theorem u64_bv (x : Int) : (BitVec.ofInt 64 x).toNat = u64 x := by rw [BitVec.toNat_ofInt]; rfl
theorem u64_lt (x : Int) : u64 x < 18446744073709551616 := by unfold u64; omega
theorem u64_int (x : Int) : ((u64 x : Nat) : Int) = x % 18446744073709551616 := by unfold u64; omega
theorem wrap_u64 (x : Int) (h1 : -9223372036854775808 ≤ x) (h2 : x ≤ 9223372036854775807) : IntKind.i64.wrap (u64 x : Nat) = x := by
  rw [IntKind.wrap_i64, u64_int]; omega
theorem wrap_inj (a b : Nat) (ha : a < 18446744073709551616) (hb : b < 18446744073709551616) (h : IntKind.i64.wrap (a : Int) = IntKind.i64.wrap (b : Int)) : a = b := by
  rw [IntKind.wrap_i64, IntKind.wrap_i64] at h; omega
theorem u64_bit (x : Int) (i : Nat) (hi : i < 64) : (u64 x).testBit i = decide (x / 2 ^ i % 2 = 1) := by
  rw [Nat.testBit_eq_decide_div_mod_eq]
  have hp : (2 : Int) ^ i * 2 ^ (64 - i) = 18446744073709551616 := by
    rw [← Int.pow_add, show i + (64 - i) = 64 by omega]; rfl
  have h2 : ((2 : Int) ^ (64 - i)) = 2 * 2 ^ (63 - i) := by
    rw [show 64 - i = (63 - i) + 1 by omega, Int.pow_succ, Int.mul_comm]
  have e : x / 2 ^ i = (u64 x / 2 ^ i : Nat) + 2 * (2 ^ (63 - i) * (x / 18446744073709551616)) := by
    have hx : x = (u64 x : Nat) + 2 ^ i * (2 * (2 ^ (63 - i) * (x / 18446744073709551616))) := by
      rw [u64_int, show 2 ^ i * (2 * (2 ^ (63 - i) * (x / 18446744073709551616))) = (2 ^ i * (2 * 2 ^ (63 - i))) * (x / 18446744073709551616) by simp only [Int.mul_assoc], ← h2, hp]; omega
    conv => lhs; rw [hx]
    rw [Int.add_mul_ediv_left _ _ (by have : (0 : Int) < 2 ^ i := Int.pow_pos (by omega); omega)]
    simp
  rw [e]
  congr 1
  rw [eq_iff_iff]
  generalize 2 ^ (63 - i) * (x / 18446744073709551616) = z
  omega
theorem bits_and (m k : Int) : bits .and .i64 m k = IntKind.i64.wrap ((u64 m &&& u64 k : Nat) : Int) := by
  show IntKind.i64.wrap ((BitVec.ofInt 64 m &&& BitVec.ofInt 64 k).toNat : Int) = _
  rw [BitVec.toNat_and, u64_bv, u64_bv]
theorem bits_and_one (x : Int) : bits .and .i64 x 1 = x % 2 := by
  rw [bits_and, show u64 1 = 1 by rfl, Nat.and_one_is_mod, IntKind.wrap_i64]
  have := u64_int x
  omega
theorem u64_sign (x : Int) (h1 : -9223372036854775808 ≤ x) (h2 : x ≤ 9223372036854775807) : (u64 x).testBit 63 = decide (x < 0) := by
  rw [u64_bit x 63 (by omega)]
  congr 1
  rw [eq_iff_iff]
  omega
theorem bits_has (m k : Int) (m1 : -9223372036854775808 ≤ m) (m2 : m ≤ 9223372036854775807) (k1 : -9223372036854775808 ≤ k) (k2 : k ≤ 9223372036854775807) :
    bits .and .i64 m k = k ↔ (∀ i, i < 63 → k / 2 ^ i % 2 = 0 ∨ m / 2 ^ i % 2 = 1) ∧ (0 ≤ k ∨ m < 0) := by
  have hk := wrap_u64 k k1 k2
  have step1 : bits .and .i64 m k = k ↔ u64 m &&& u64 k = u64 k := by
    rw [bits_and]
    constructor
    · intro h
      exact wrap_inj _ _ (Nat.lt_of_le_of_lt Nat.and_le_right (u64_lt k)) (u64_lt k) (h.trans hk.symm)
    · intro h
      rw [h, hk]
  rw [step1]
  constructor
  · intro h
    have hb : ∀ i, (u64 k).testBit i = true → (u64 m).testBit i = true := by
      intro i hi
      rw [← h, Nat.testBit_and] at hi
      simp at hi
      exact hi.1
    refine ⟨fun i hi => ?_, ?_⟩
    · have := hb i
      rw [u64_bit k i (by omega), u64_bit m i (by omega), decide_eq_true_eq, decide_eq_true_eq] at this
      omega
    · have := hb 63
      rw [u64_sign k k1 k2, u64_sign m m1 m2, decide_eq_true_eq, decide_eq_true_eq] at this
      omega
  · rintro ⟨h1, h2⟩
    apply Nat.eq_of_testBit_eq
    intro i
    rw [Nat.testBit_and]
    by_cases hi : i < 63
    · rw [u64_bit k i (by omega), u64_bit m i (by omega)]
      have := h1 i hi
      generalize k / 2 ^ i % 2 = a at *
      generalize m / 2 ^ i % 2 = b at *
      rcases this with h | h
      · subst h; simp
      · subst h; simp
    · by_cases h63 : i = 63
      · subst h63
        rw [u64_sign k k1 k2, u64_sign m m1 m2]
        rcases h2 with h | h
        · rw [decide_eq_false (by omega : ¬ k < 0)]; simp
        · rw [decide_eq_true h]; simp
      · have : (u64 k).testBit i = false := Nat.testBit_lt_two_pow (Nat.lt_of_lt_of_le (u64_lt k) (Nat.pow_le_pow_right (n := 2) (by omega) (show 64 ≤ i by omega)))
        rw [this]; simp
end Cg
