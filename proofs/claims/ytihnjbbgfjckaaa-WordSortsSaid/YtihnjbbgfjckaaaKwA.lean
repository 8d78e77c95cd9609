/- Plain definitions for chapter 11 (keywords): names, the text of a mask; no program in sight. -/
import Derived.Test.YtihnjbbgfjckaaaBase
import Derived.Lib.Join
namespace Go.Proofs.Ytihnjbbgfjckaaa
open Go Go.RowKit Cg
def kn : Nat → ByteArray
  | 0 => ⟨#[102, 108, 121, 105, 110, 103]⟩
  | 1 => ⟨#[114, 101, 97, 99, 104]⟩
  | 2 => ⟨#[104, 97, 115, 116, 101]⟩
  | 3 => ⟨#[118, 105, 103, 105, 108, 97, 110, 116]⟩
  | 4 => ⟨#[116, 114, 97, 109, 112, 108, 101]⟩
  | 5 => ⟨#[102, 105, 114, 115, 116, 45, 115, 116, 114, 105, 107, 101]⟩
  | 6 => ⟨#[100, 111, 117, 98, 108, 101, 45, 115, 116, 114, 105, 107, 101]⟩
  | 7 => ⟨#[100, 101, 97, 100, 108, 121]⟩
  | 8 => ⟨#[108, 105, 102, 101, 108, 105, 110, 107]⟩
  | 9 => ⟨#[109, 101, 110, 97, 99, 101]⟩
  | 10 => ⟨#[100, 101, 102, 101, 110, 100, 101, 114]⟩
  | 11 => ⟨#[119, 97, 114, 100, 101, 100]⟩
  | 12 => ⟨#[115, 116, 117, 114, 100, 121]⟩
  | 13 => ⟨#[101, 108, 117, 115, 105, 118, 101]⟩
  | 14 => ⟨#[110, 111, 45, 97, 116, 116, 97, 99, 107]⟩
  | 15 => ⟨#[110, 111, 45, 98, 108, 111, 99, 107]⟩
  | 16 => ⟨#[109, 117, 115, 116, 45, 97, 116, 116, 97, 99, 107]⟩
  | _ => ⟨#[]⟩
def knI (n : Int) : ByteArray := if 0 ≤ n then kn n.toNat else ⟨#[]⟩
theorem kn_small : ∀ i, (kn i).size ≤ 13 := by
  intro i
  unfold kn
  split <;> decide
theorem kn_pos : ∀ i, i < 17 → 0 < (kn i).size := by decide
theorem knI_nat (k : Nat) : knI (k : Int) = kn k := by unfold knI; rw [if_pos (by omega)]; rfl
theorem knI_out (n : Int) (h : n < 0 ∨ 17 ≤ n) : knI n = ⟨#[]⟩ := by
  unfold knI
  split
  · obtain ⟨k, hk⟩ : ∃ k, n.toNat = k + 17 := ⟨n.toNat - 17, by omega⟩
    rw [hk]; rfl
  · rfl
def okK (n : Int) : Bool := decide (0 ≤ n) && decide (n ≤ 131071)
theorem okK_iff (n : Int) : okK n = true ↔ 0 ≤ n ∧ n ≤ 131071 := by simp [okK]
/-- The names of the bits below k, in order. -/
def ksel (n : Nat) : Nat → List ByteArray
  | 0 => []
  | k + 1 => if n / 2 ^ k % 2 = 1 then ksel n k ++ [kn k] else ksel n k
theorem ksel_hit (n k : Nat) (h : n / 2 ^ k % 2 = 1) : ksel n (k + 1) = ksel n k ++ [kn k] := by rw [ksel, if_pos h]
theorem ksel_miss (n k : Nat) (h : ¬ n / 2 ^ k % 2 = 1) : ksel n (k + 1) = ksel n k := by rw [ksel, if_neg h]
theorem ksel_len (n : Nat) : ∀ k, (ksel n k).length ≤ k
  | 0 => Nat.le_refl _
  | k + 1 => by
    have := ksel_len n k
    rw [ksel]
    split <;> simp <;> omega
theorem ksel_mem (n : Nat) : ∀ k, ∀ x ∈ ksel n k, ∃ i, i < k ∧ x = kn i
  | 0, x, hx => by simp [ksel] at hx
  | k + 1, x, hx => by
    rw [ksel] at hx
    split at hx
    · rcases List.mem_append.1 hx with hx | hx
      · obtain ⟨i, hi, he⟩ := ksel_mem n k x hx
        exact ⟨i, by omega, he⟩
      · exact ⟨k, by omega, List.mem_singleton.1 hx⟩
    · obtain ⟨i, hi, he⟩ := ksel_mem n k x hx
      exact ⟨i, by omega, he⟩
def jn (xs : List ByteArray) : List UInt8 := Lib.join (xs.map (·.data.toList)) [43]
theorem joinTail_snoc (sep : List UInt8) (r : List (List UInt8)) (x : List UInt8) : Lib.joinTail sep (r ++ [x]) = Lib.joinTail sep r ++ (sep ++ x) := by simp [Lib.joinTail]
theorem jn_snoc (xs : List ByteArray) (x : ByteArray) (h : xs ≠ []) : jn (xs ++ [x]) = jn xs ++ 43 :: x.data.toList := by
  cases xs with
  | nil => exact absurd rfl h
  | cons a r =>
    unfold jn
    simp only [List.cons_append, List.map_cons, List.map_append, List.map_nil, Lib.join_cons, joinTail_snoc]
    simp
theorem jn_one (x : ByteArray) : jn [x] = x.data.toList := Lib.join_one _ _
theorem jn_len (n : Nat) : ∀ k, (jn (ksel n k)).length ≤ 14 * k
  | 0 => Nat.le_refl _
  | k + 1 => by
    have ih := jn_len n k
    have hs := kn_small k
    rw [Lib.size_eq] at hs
    rw [ksel]
    split
    · by_cases h : ksel n k = []
      · rw [h, List.nil_append, jn_one]; omega
      · rw [jn_snoc _ _ h]; simp only [List.length_append, List.length_cons]; omega
    · omega
theorem jn_ne (n : Nat) : ∀ k, k ≤ 17 → (jn (ksel n k) = [] ↔ ksel n k = [])
  | 0, _ => by simp [ksel, jn, Lib.join_nil]
  | k + 1, hk => by
    have ih := jn_ne n k (by omega)
    have hs := kn_pos k (by omega)
    rw [Lib.size_eq] at hs
    rw [ksel]
    split
    · by_cases h : ksel n k = []
      · rw [h, List.nil_append, jn_one]
        simp only [List.cons_ne_self, iff_false]
        intro e
        rw [e] at hs
        simp at hs
      · rw [jn_snoc _ _ h]; simp
    · exact ih
/-- The reference's text after k rounds. -/
def kacc (n k : Nat) : ByteArray := ⟨(jn (ksel n k)).toArray⟩
theorem kacc_data (n k : Nat) : (kacc n k).data.toList = jn (ksel n k) := by simp [kacc]
theorem kacc_size (n k : Nat) : (kacc n k).size ≤ 14 * k := by rw [Lib.size_eq, kacc_data]; exact jn_len n k
theorem kacc_empty (n k : Nat) (hk : k ≤ 17) : (kacc n k).toList.isEmpty = true ↔ ksel n k = [] := by
  rw [ByteArray.toList_eq, kacc_data, List.isEmpty_iff]
  exact jn_ne n k hk
theorem kacc_first (n k : Nat) (h : n / 2 ^ k % 2 = 1) (he : ksel n k = []) : kacc n (k + 1) = kacc n k ++ kn k := by
  apply bytes_ext
  rw [kacc_data, ksel_hit n k h, he, List.nil_append, jn_one]
  simp [kacc_data, he, jn, Lib.join_nil]
theorem kacc_more (n k : Nat) (h : n / 2 ^ k % 2 = 1) (he : ¬ ksel n k = []) : kacc n (k + 1) = kacc n k ++ ⟨#[43]⟩ ++ kn k := by
  apply bytes_ext
  rw [kacc_data, ksel_hit n k h, jn_snoc _ _ he]
  simp [kacc_data]
theorem kacc_miss (n k : Nat) (h : ¬ n / 2 ^ k % 2 = 1) : kacc n (k + 1) = kacc n k := by rw [kacc, kacc, ksel_miss n k h]
def ktx (n : Nat) : ByteArray := if ksel n 17 = [] then ⟨#[110, 111, 110, 101]⟩ else kacc n 17
def ktext (n : Int) : ByteArray := if okK n then ktx n.toNat else ⟨#[]⟩
end Go.Proofs.Ytihnjbbgfjckaaa
