/- Plain definitions for chapter 02 (words): names, the depth, the parts between separators, the first cut, lines; no program in sight. -/
import Derived.Test.YtgnffmlcjnnneaaDoorBase
import Derived.Lib.IndexMore
namespace Go.Proofs.YtgnffmlcjnnneaaDoor
open Go Go.RowKit Cg
/-- The byte at a place, 0 behind the end. -/
def bt (s : ByteArray) (i : Nat) : UInt8 := s.data.toList.getD i 0
theorem bt_eq (s : ByteArray) (i : Nat) (h : i < s.size) : bt s i = s[i]'h := by
  have h' : i < s.data.toList.length := by simpa using h
  unfold bt
  rw [List.getD_eq_getElem?_getD, List.getElem?_eq_getElem h']
  rfl
def lowB (c : UInt8) : Bool := decide (97 ≤ c.toNat ∧ c.toNat ≤ 122)
def goodB (c : UInt8) : Bool := decide ((97 ≤ c.toNat ∧ c.toNat ≤ 122) ∨ (48 ≤ c.toNat ∧ c.toNat ≤ 57) ∨ c.toNat = 45)
def IsW (s : ByteArray) : Prop := 1 ≤ s.size ∧ s.size ≤ 32 ∧ lowB (bt s 0) = true ∧ ¬ (bt s (s.size - 1)).toNat = 45 ∧ (∀ i, i < s.size → goodB (bt s i) = true) ∧ ∀ i, i < s.size → 0 < i → ¬ ((bt s i).toNat = 45 ∧ (bt s (i - 1)).toNat = 45)
instance (s : ByteArray) : Decidable (IsW s) := by unfold IsW; infer_instance
def isW (s : ByteArray) : Bool := decide (IsW s)
theorem isW_true {s : ByteArray} (h : IsW s) : isW s = true := decide_eq_true h
theorem isW_false {s : ByteArray} (h : ¬ IsW s) : isW s = false := decide_eq_false h
/-- '--' occurs iff two neighbours are '-'. -/
theorem contains_dd (l : List UInt8) : Lib.contains l [45, 45] = true ↔ ∃ i, i + 1 < l.length ∧ l.getD i 0 = 45 ∧ l.getD (i + 1) 0 = 45 := by
  induction l with
  | nil => simp [Lib.contains, Lib.index]
  | cons a l ih =>
    have hge := Lib.index_ge l [45, 45]
    unfold Lib.contains at ih ⊢
    rw [decide_eq_true_eq] at ih ⊢
    rw [Lib.index]
    by_cases hp : ([45, 45] : List UInt8).isPrefixOf (a :: l) = true
    · rw [if_pos hp]
      simp only [Int.le_refl, true_iff]
      cases l with
      | nil => simp [List.isPrefixOf] at hp
      | cons b l =>
        simp [List.isPrefixOf] at hp
        exact ⟨0, by simp, by simp [hp.1], by simp [hp.2]⟩
    · rw [if_neg hp]
      have step : (∃ i, i + 1 < (a :: l).length ∧ (a :: l).getD i 0 = 45 ∧ (a :: l).getD (i + 1) 0 = 45) ↔ ∃ i, i + 1 < l.length ∧ l.getD i 0 = 45 ∧ l.getD (i + 1) 0 = 45 := by
        constructor
        · rintro ⟨i, h1, h2, h3⟩
          cases i with
          | zero =>
            exfalso
            apply hp
            cases l with
            | nil => simp at h1
            | cons b l => simp at h2 h3; simp [List.isPrefixOf, h2, h3]
          | succ i => exact ⟨i, by simpa using h1, by simpa using h2, by simpa using h3⟩
        · rintro ⟨i, h1, h2, h3⟩
          exact ⟨i + 1, by simpa using h1, by simpa using h2, by simpa using h3⟩
      rw [step, ← ih]
      by_cases hm : (Lib.index l [45, 45] == -1) = true
      · rw [if_pos hm]
        have := beq_iff_eq.1 hm
        omega
      · rw [if_neg hm]
        have : ¬ Lib.index l [45, 45] = -1 := fun e => hm (beq_iff_eq.2 e)
        omega
theorem contains_bt (s : ByteArray) : Lib.contains s.data.toList [45, 45] = true ↔ ∃ i, i + 1 < s.size ∧ bt s i = 45 ∧ bt s (i + 1) = 45 := by
  rw [contains_dd]
  have : s.data.toList.length = s.size := (Lib.size_eq s).symm
  rw [this]
  rfl
theorem u8_45 (c : UInt8) : c = 45 ↔ c.toNat = 45 := ⟨fun h => by rw [h]; rfl, fun h => UInt8.toNat_inj.1 h⟩

/-- The depth after a byte, and the depth of a place. -/
def dstep (d : Nat) (c : UInt8) : Nat := if c.toNat = 40 ∨ c.toNat = 91 then d + 1 else if c.toNat = 41 ∨ c.toNat = 93 then d - 1 else d
def depth (s : ByteArray) : Nat → Nat
  | 0 => 0
  | i + 1 => dstep (depth s i) (bt s i)
theorem dstep_le (d : Nat) (c : UInt8) : dstep d c ≤ d + 1 := by unfold dstep; split; omega; split <;> omega
theorem depth_le (s : ByteArray) : ∀ i, depth s i ≤ i
  | 0 => Nat.le_refl _
  | i + 1 => by
    have h1 := depth_le s i
    have h2 := dstep_le (depth s i) (bt s i)
    rw [depth]
    omega
theorem dstep_up (d : Nat) (c : UInt8) (h : c.toNat = 40 ∨ c.toNat = 91) : dstep d c = d + 1 := by rw [dstep, if_pos h]
theorem dstep_down (d : Nat) (c : UInt8) (h : ¬ (c.toNat = 40 ∨ c.toNat = 91)) (h2 : c.toNat = 41 ∨ c.toNat = 93) : dstep d c = d - 1 := by rw [dstep, if_neg h, if_pos h2]
theorem dstep_same (d : Nat) (c : UInt8) (h : ¬ (c.toNat = 40 ∨ c.toNat = 91)) (h2 : ¬ (c.toNat = 41 ∨ c.toNat = 93)) : dstep d c = d := by rw [dstep, if_neg h, if_neg h2]
/-- The parts before a place, and where the next part begins. -/
def spl (s : ByteArray) (b : UInt8) : Nat → List ByteArray × Nat
  | 0 => ([], 0)
  | i + 1 => if bt s i = b ∧ depth s i = 0 then ((spl s b i).1 ++ [s.extract (spl s b i).2 i], i + 1) else spl s b i
def brack (b : UInt8) : Bool := decide (b.toNat = 40 ∨ b.toNat = 41 ∨ b.toNat = 91 ∨ b.toNat = 93)
def split (s : ByteArray) (b : UInt8) : List ByteArray := if brack b then [s] else (spl s b s.size).1 ++ [s.extract (spl s b s.size).2 s.size]
theorem spl_le (s : ByteArray) (b : UInt8) : ∀ i, (spl s b i).2 ≤ i ∧ (spl s b i).1.length ≤ i
  | 0 => ⟨Nat.le_refl _, Nat.le_refl _⟩
  | i + 1 => by
    have h := spl_le s b i
    rw [spl]
    split
    · exact ⟨Nat.le_refl _, by simp; omega⟩
    · omega
theorem spl_hit (s : ByteArray) (b : UInt8) (i : Nat) (h : bt s i = b) (h2 : depth s i = 0) : spl s b (i + 1) = ((spl s b i).1 ++ [s.extract (spl s b i).2 i], i + 1) := by rw [spl, if_pos ⟨h, h2⟩]
theorem spl_miss (s : ByteArray) (b : UInt8) (i : Nat) (h : ¬ (bt s i = b ∧ depth s i = 0)) : spl s b (i + 1) = spl s b i := by rw [spl, if_neg h]
end Go.Proofs.YtgnffmlcjnnneaaDoor
