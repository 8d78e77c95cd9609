/- Plain definitions for chapter 10 (type lines): the words, their bits, subtypes; no program in sight. -/
import Derived.Test.YtgnffmlcjnnneaaDoorLnW
import Derived.Test.YtgnffmlcjnnneaaDoorSet
import Derived.Test.YtgnffmlcjnnneaaDoorBit
import Derived.Lib.Join
namespace Go.Proofs.YtgnffmlcjnnneaaDoor
open Go Go.RowKit Cg
def superN : Nat → ByteArray
  | 0 => ⟨#[98, 97, 115, 105, 99]⟩
  | 1 => ⟨#[117, 110, 105, 113, 117, 101]⟩
  | _ => ⟨#[]⟩
def typeN : Nat → ByteArray
  | 0 => ⟨#[99, 114, 101, 97, 116, 117, 114, 101]⟩
  | 1 => ⟨#[105, 110, 115, 116, 97, 110, 116]⟩
  | 2 => ⟨#[114, 105, 116, 117, 97, 108]⟩
  | 3 => ⟨#[114, 101, 108, 105, 99]⟩
  | 4 => ⟨#[99, 104, 97, 114, 109]⟩
  | 5 => ⟨#[108, 97, 110, 100]⟩
  | _ => ⟨#[]⟩
/-- The bit of the first name below k that the string is, or 0. -/
def bitW (nm : Nat → ByteArray) (s : ByteArray) : Nat → Nat
  | 0 => 0
  | k + 1 => if bitW nm s k = 0 then (if nm k = s then 2 ^ k else 0) else bitW nm s k
theorem bitW_next (nm : Nat → ByteArray) (s : ByteArray) (k : Nat) (h : bitW nm s k = 0) (h2 : ¬ nm k = s) : bitW nm s (k + 1) = 0 := by rw [bitW, if_pos h, if_neg h2]
theorem bitW_hit (nm : Nat → ByteArray) (s : ByteArray) (k : Nat) (h : bitW nm s k = 0) (h2 : nm k = s) : ∀ n, k < n → bitW nm s n = 2 ^ k
  | 0, hn => by omega
  | n + 1, hn => by
    by_cases e : n = k
    · subst e; rw [bitW, if_pos h, if_pos h2]
    · have ih := bitW_hit nm s k h h2 n (by omega)
      rw [bitW, if_neg (by rw [ih]; exact Nat.pos_iff_ne_zero.1 (Nat.two_pow_pos k)), ih]
theorem bitW_zero (nm : Nat → ByteArray) (s : ByteArray) : ∀ n, bitW nm s n = 0 ↔ ∀ i, i < n → ¬ nm i = s
  | 0 => by simp [bitW]
  | n + 1 => by
    have ih := bitW_zero nm s n
    rw [bitW]
    by_cases h : bitW nm s n = 0
    · rw [if_pos h]
      have ih' := ih.1 h
      by_cases e : nm n = s
      · rw [if_pos e]
        constructor
        · intro h2; have := Nat.two_pow_pos n; omega
        · intro h2; exact absurd e (h2 n (by omega))
      · rw [if_neg e]
        refine ⟨fun _ i hi => ?_, fun _ => rfl⟩
        by_cases e2 : i = n
        · rw [e2]; exact e
        · exact ih' i (by omega)
    · rw [if_neg h]
      refine ⟨fun h2 => absurd h2 h, fun h2 => absurd (ih.2 fun i hi => h2 i (by omega)) h⟩
theorem bitW_lt (nm : Nat → ByteArray) (s : ByteArray) : ∀ n, bitW nm s n < 2 ^ n
  | 0 => by simp [bitW]
  | n + 1 => by
    have ih := bitW_lt nm s n
    have hp : 2 ^ n < 2 ^ (n + 1) := Nat.pow_lt_pow_right (by omega) (by omega)
    rw [bitW]
    split
    · split
      · exact hp
      · exact Nat.two_pow_pos _
    · omega
def isSub (s : ByteArray) : Bool := isW s && (decide (bitW superN s 2 = 0) && decide (bitW typeN s 6 = 0))
theorem idx_superN (s : ByteArray) : decide (Lib.idxOfS [superN 0, superN 1] s < 0) = decide (bitW superN s 2 = 0) := by
  refine decide_eq_decide.2 ?_
  rw [bitW_zero]
  have h := Lib.idxOfS_nonneg_iff [superN 0, superN 1] s
  constructor
  · intro hlt i hi e
    have : s ∈ [superN 0, superN 1] := by
      rcases (show i = 0 ∨ i = 1 by omega) with rfl | rfl <;> simp [e]
    have := h.2 this
    omega
  · intro hall
    refine Int.not_le.1 fun hge => ?_
    have hm := h.1 hge
    simp only [List.mem_cons, List.mem_nil_iff, or_false] at hm
    rcases hm with e | e
    · exact hall 0 (by omega) e.symm
    · exact hall 1 (by omega) e.symm
theorem idx_typeN (s : ByteArray) : decide (Lib.idxOfS [typeN 0, typeN 1, typeN 2, typeN 3, typeN 4, typeN 5] s < 0) = decide (bitW typeN s 6 = 0) := by
  refine decide_eq_decide.2 ?_
  rw [bitW_zero]
  have h := Lib.idxOfS_nonneg_iff [typeN 0, typeN 1, typeN 2, typeN 3, typeN 4, typeN 5] s
  constructor
  · intro hlt i hi e
    have : s ∈ [typeN 0, typeN 1, typeN 2, typeN 3, typeN 4, typeN 5] := by
      rcases (show i = 0 ∨ i = 1 ∨ i = 2 ∨ i = 3 ∨ i = 4 ∨ i = 5 by omega) with rfl | rfl | rfl | rfl | rfl | rfl <;> simp [e]
    have := h.2 this
    omega
  · intro hall
    refine Int.not_le.1 fun hge => ?_
    have hm := h.1 hge
    simp only [List.mem_cons, List.mem_nil_iff, or_false] at hm
    rcases hm with e | e | e | e | e | e
    · exact hall 0 (by omega) e.symm
    · exact hall 1 (by omega) e.symm
    · exact hall 2 (by omega) e.symm
    · exact hall 3 (by omega) e.symm
    · exact hall 4 (by omega) e.symm
    · exact hall 5 (by omega) e.symm
end Go.Proofs.YtgnffmlcjnnneaaDoor
