/- Lists that rise strictly: an order that is total decides them by their elements; insertion and 'compact' of a sorted list give such lists. No program in sight. -/
import Derived.Lib.SlicesCompact
namespace Cg
variable {α : Type}
/-- A strict total order as a Bool. -/
structure Ord (lt : α → α → Bool) : Prop where
  irrefl : ∀ a, lt a a = false
  trans : ∀ a b c, lt a b = true → lt b c = true → lt a c = true
  conn : ∀ a b, lt a b = false → lt b a = false → a = b
def SI (lt : α → α → Bool) (l : List α) : Prop := l.Pairwise (fun a b => lt a b = true)
theorem SI.ext {lt : α → α → Bool} (O : Ord lt) : ∀ {a b : List α}, SI lt a → SI lt b → (∀ x, x ∈ a ↔ x ∈ b) → a = b
  | [], [], _, _, _ => rfl
  | [], y :: b, _, _, h => by have := (h y).2 (by simp); simp at this
  | x :: a, [], _, _, h => by have := (h x).1 (by simp); simp at this
  | x :: a, y :: b, ha, hb, h => by
    have ha' := List.pairwise_cons.1 ha
    have hb' := List.pairwise_cons.1 hb
    have asym : ∀ u v, lt u v = true → lt v u = true → False := fun u v h1 h2 => by
      have := O.trans u v u h1 h2
      rw [O.irrefl] at this
      cases this
    have hxy : x = y := by
      have h1 := (h x).1 (by simp)
      have h2 := (h y).2 (by simp)
      rcases List.mem_cons.1 h1 with e | h1
      · exact e
      · rcases List.mem_cons.1 h2 with e | h2
        · exact e.symm
        · exact (asym _ _ (hb'.1 x h1) (ha'.1 y h2)).elim
    subst hxy
    congr 1
    refine SI.ext O ha'.2 hb'.2 fun z => ⟨fun hz => ?_, fun hz => ?_⟩
    · rcases List.mem_cons.1 ((h z).1 (by simp [hz])) with e | h1
      · have := ha'.1 z hz
        rw [e, O.irrefl] at this
        cases this
      · exact h1
    · rcases List.mem_cons.1 ((h z).2 (by simp [hz])) with e | h1
      · have := hb'.1 z hz
        rw [e, O.irrefl] at this
        cases this
      · exact h1
section insert
variable [DecidableEq α]
/-- The insertion of n that the references make: the smaller ones, n, the others without n. -/
def ins (lt : α → α → Bool) (n : α) (l : List α) : List α := l.takeWhile (lt · n) ++ n :: (l.dropWhile (lt · n)).filter (fun x => decide (¬ x = n))
theorem mem_ins (lt : α → α → Bool) (n : α) (l : List α) (x : α) : x ∈ ins lt n l ↔ x = n ∨ x ∈ l := by
  have hs : x ∈ l ↔ x ∈ l.takeWhile (lt · n) ∨ x ∈ l.dropWhile (lt · n) := by
    rw [← List.mem_append, List.takeWhile_append_dropWhile]
  unfold ins
  rw [List.mem_append, List.mem_cons, List.mem_filter, hs, decide_eq_true_eq]
  by_cases e : x = n <;> simp [e]
omit [DecidableEq α] in
theorem takeWhile_all {p : α → Bool} : ∀ {l : List α}, ∀ x ∈ l.takeWhile p, p x = true
  | [], x, h => by simp at h
  | a :: l, x, h => by
    rw [List.takeWhile_cons] at h
    split at h
    · rcases List.mem_cons.1 h with e | h
      · rw [e]; assumption
      · exact takeWhile_all x h
    · simp at h
omit [DecidableEq α] in
theorem SI.drop_ge {lt : α → α → Bool} (O : Ord lt) {n : α} : ∀ {l : List α}, SI lt l → ∀ x ∈ l.dropWhile (lt · n), lt x n = false
  | [], _, x, h => by simp at h
  | a :: l, hs, x, h => by
    rw [List.dropWhile_cons] at h
    split at h
    · exact SI.drop_ge O (List.pairwise_cons.1 hs).2 x h
    · rename_i hn
      have hn : lt a n = false := by simpa using hn
      rcases List.mem_cons.1 h with e | h
      · rw [e]; exact hn
      · cases hx : lt x n
        · rfl
        · have := O.trans a x n ((List.pairwise_cons.1 hs).1 x h) hx
          rw [hn] at this
          cases this
theorem SI.ins {lt : α → α → Bool} (O : Ord lt) {n : α} {l : List α} (h : SI lt l) : SI lt (ins lt n l) := by
  have hp : SI lt (l.takeWhile (lt · n) ++ l.dropWhile (lt · n)) := by rw [List.takeWhile_append_dropWhile]; exact h
  obtain ⟨h1, h2, h3⟩ := List.pairwise_append.1 hp
  unfold Cg.ins
  refine List.pairwise_append.2 ⟨h1, List.pairwise_cons.2 ⟨fun x hx => ?_, h2.filter _⟩, fun x hx y hy => ?_⟩
  · obtain ⟨hx, hn⟩ := List.mem_filter.1 hx
    have hn : ¬ x = n := by simpa using hn
    have hge := SI.drop_ge O h x hx
    cases hnx : lt n x
    · exact absurd (O.conn x n hge hnx) hn
    · rfl
  · rcases List.mem_cons.1 hy with e | hy
    · rw [e]; exact takeWhile_all x hx
    · exact h3 x hx y (List.mem_filter.1 hy).1
/-- The insertions of a list's elements, one behind the other. -/
def insAll (lt : α → α → Bool) (o : List α) (l : List α) : List α := l.foldl (fun o x => ins lt x o) o
theorem insAll_snoc (lt : α → α → Bool) (o l : List α) (x : α) : insAll lt o (l ++ [x]) = ins lt x (insAll lt o l) := by rw [insAll, List.foldl_append]; rfl
theorem insAll_si {lt : α → α → Bool} (O : Ord lt) (l : List α) : ∀ {o : List α}, SI lt o → SI lt (insAll lt o l) := by
  induction l with
  | nil => exact fun h => h
  | cons a l ih => exact fun h => ih (h.ins O)
theorem mem_insAll (lt : α → α → Bool) (l : List α) : ∀ (o : List α) (x : α), x ∈ insAll lt o l ↔ x ∈ o ∨ x ∈ l := by
  induction l with
  | nil => intro o x; simp [insAll]
  | cons a l ih =>
    intro o x
    show x ∈ insAll lt (ins lt a o) l ↔ _
    rw [ih, mem_ins, List.mem_cons]
    constructor
    · rintro ((h | h) | h)
      · exact .inr (.inl h)
      · exact .inl h
      · exact .inr (.inr h)
    · rintro (h | h | h)
      · exact .inl (.inr h)
      · exact .inl (.inl h)
      · exact .inr h
theorem ins_len (lt : α → α → Bool) (n : α) (l : List α) : (ins lt n l).length ≤ l.length + 1 := by
  have h1 : (l.takeWhile (lt · n)).length + (l.dropWhile (lt · n)).length = l.length := by rw [← List.length_append, List.takeWhile_append_dropWhile]
  have h2 := List.length_filter_le (fun x => decide (¬ x = n)) (l.dropWhile (lt · n))
  unfold ins
  rw [List.length_append, List.length_cons]
  omega
theorem insAll_len (lt : α → α → Bool) (l : List α) : ∀ o : List α, (insAll lt o l).length ≤ o.length + l.length := by
  induction l with
  | nil => exact fun o => Nat.le_refl _
  | cons a l ih =>
    intro o
    have h1 := ih (ins lt a o)
    have h2 := ins_len lt a o
    show (insAll lt (ins lt a o) l).length ≤ _
    rw [List.length_cons]
    omega
/-- One step of a reference's loop: what is out, and whether n is. -/
def insStep (lt : α → α → Bool) (n : α) (s : List α × Bool) (x : α) : List α × Bool :=
  if s.2 = false ∧ lt x n = false then (if x = n then s.1 ++ [n] else s.1 ++ [n] ++ [x], true) else (if x = n then s.1 else s.1 ++ [x], s.2)
theorem insStep_done (lt : α → α → Bool) (n : α) : ∀ (l : List α) (o : List α), l.foldl (insStep lt n) (o, true) = (o ++ l.filter (fun x => decide (¬ x = n)), true)
  | [], o => by simp
  | a :: l, o => by
    rw [List.foldl_cons]
    have : insStep lt n (o, true) a = (if a = n then o else o ++ [a], true) := by simp [insStep]
    rw [this, insStep_done lt n l]
    by_cases e : a = n <;> simp [e]
theorem insStep_open (lt : α → α → Bool) (O : Ord lt) (n : α) : ∀ (l : List α) (o : List α), (if (l.foldl (insStep lt n) (o, false)).2 then (l.foldl (insStep lt n) (o, false)).1 else (l.foldl (insStep lt n) (o, false)).1 ++ [n]) = o ++ ins lt n l
  | [], o => by simp [ins]
  | a :: l, o => by
    rw [List.foldl_cons]
    cases h : lt a n
    · have : insStep lt n (o, false) a = (if a = n then o ++ [n] else o ++ [n] ++ [a], true) := by simp [insStep, h]
      rw [this, insStep_done lt n l]
      by_cases e : a = n <;> simp [e, ins, h, O.irrefl]
    · have ne : ¬ a = n := fun e => by rw [e, O.irrefl] at h; cases h
      have : insStep lt n (o, false) a = (o ++ [a], false) := by simp [insStep, h, ne]
      rw [this, insStep_open lt O n l]
      simp [ins, h]
end insert
section compact
variable [Inhabited α] [DecidableEq α]
open Go.Lib
theorem compactUpTo_si {lt : α → α → Bool} (O : Ord lt) (d : Array α) (hs : ∀ j k, j < k → k < d.size → lt d[k]! d[j]! = false) : ∀ m, m ≤ d.size → SI lt (compactUpTo d m) ∧ (∀ x, x ∈ compactUpTo d m ↔ ∃ j, j < m ∧ d[j]! = x)
  | 0, _ => ⟨List.Pairwise.nil, fun x => by simp [compactUpTo]⟩
  | m + 1, hm => by
    obtain ⟨h1, h2⟩ := compactUpTo_si O d hs m (by omega)
    rw [compactUpTo_succ]
    cases hk : keeps d m
    · have hk : ¬ (m = 0 ∨ d[m]! ≠ d[m - 1]!) := of_decide_eq_false hk
      have hm0 : ¬ m = 0 := fun e => hk (.inl e)
      have he : d[m]! = d[m - 1]! := Decidable.byContradiction fun e => hk (.inr e)
      rw [if_neg (by decide), List.append_nil]
      refine ⟨h1, fun x => ?_⟩
      rw [h2]
      constructor
      · rintro ⟨j, hj, e⟩; exact ⟨j, by omega, e⟩
      · rintro ⟨j, hj, e⟩
        by_cases hjm : j = m
        · exact ⟨m - 1, by omega, by rw [← he, ← hjm]; exact e⟩
        · exact ⟨j, by omega, e⟩
    · have hk : m = 0 ∨ d[m]! ≠ d[m - 1]! := of_decide_eq_true hk
      rw [if_pos rfl]
      refine ⟨List.pairwise_append.2 ⟨h1, List.pairwise_singleton _ _, fun x hx y hy => ?_⟩, fun x => ?_⟩
      · rw [List.mem_singleton.1 hy]
        obtain ⟨j, hj, rfl⟩ := (h2 x).1 hx
        have g1 := hs j m hj (by omega)
        cases g : lt d[j]! d[m]!
        · have e1 : d[j]! = d[m]! := O.conn _ _ g g1
          rcases hk with hk | hk
          · omega
          · exfalso
            apply hk
            by_cases hjm : j = m - 1
            · rw [← hjm]; exact e1.symm
            · have g2 := hs j (m - 1) (by omega) (by omega)
              have g3 := hs (m - 1) m (by omega) (by omega)
              rw [e1] at g2
              exact O.conn _ _ g3 g2
        · rfl
      · rw [List.mem_append, h2, List.mem_singleton]
        constructor
        · rintro (⟨j, hj, e⟩ | e)
          · exact ⟨j, by omega, e⟩
          · exact ⟨m, by omega, e.symm⟩
        · rintro ⟨j, hj, e⟩
          by_cases hjm : j = m
          · right; rw [← e, hjm]
          · left; exact ⟨j, by omega, e⟩
theorem compact_si {lt : α → α → Bool} (O : Ord lt) (l : List α) (hs : l.Pairwise (fun a b => lt b a = false)) : SI lt (compact l) ∧ ∀ x, x ∈ compact l ↔ x ∈ l := by
  have hg : ∀ j (hj : j < l.length), l.toArray[j]! = l[j] := fun j hj => by simp [getElem!_pos, hj]
  obtain ⟨h1, h2⟩ := compactUpTo_si O l.toArray (fun j k hjk hk => by
    have hk' : k < l.length := by simpa using hk
    rw [hg k hk', hg j (by omega)]
    exact List.pairwise_iff_getElem.1 hs j k (by omega) hk' hjk) l.length (by simp)
  refine ⟨h1, fun x => ?_⟩
  show x ∈ compactUpTo l.toArray l.length ↔ _
  rw [h2, List.mem_iff_getElem]
  constructor
  · rintro ⟨j, hj, e⟩; exact ⟨j, hj, by rw [← hg j hj]; exact e⟩
  · rintro ⟨j, hj, e⟩; exact ⟨j, hj, by rw [hg j hj]; exact e⟩
/-- Sorted and compacted: strictly rising, with the same elements. -/
theorem sort_compact_si {lt : α → α → Bool} (O : Ord lt) (le : α → α → Bool) (hle : ∀ a b, le a b = !lt b a) (l : List α) : SI lt (compact (l.mergeSort le)) ∧ ∀ x, x ∈ compact (l.mergeSort le) ↔ x ∈ l := by
  have asym : ∀ u v, lt u v = true → lt v u = false := fun u v h1 => by
    cases h2 : lt v u
    · rfl
    · have := O.trans u v u h1 h2
      rw [O.irrefl] at this
      cases this
  have hp := List.pairwise_mergeSort (le := le) (fun a b c h1 h2 => by
    rw [hle, Bool.not_eq_true'] at *
    cases h : lt c a
    · rfl
    · cases hb : lt b c
      · have e : b = c := O.conn b c hb h2
        rw [e, h] at h1
        cases h1
      · have := O.trans b c a hb h
        rw [this] at h1
        cases h1) (fun a b => by
    rw [hle, hle, Bool.or_eq_true, Bool.not_eq_true', Bool.not_eq_true']
    cases h : lt b a
    · exact .inl rfl
    · exact .inr (asym _ _ h)) l
  obtain ⟨h1, h2⟩ := compact_si O (l.mergeSort le) (hp.imp fun {a b} h => by
    have h : le a b = true := h
    rw [hle, Bool.not_eq_true'] at h
    exact h)
  exact ⟨h1, fun x => (h2 x).trans (List.mergeSort_perm l le).mem_iff⟩
end compact
end Cg
