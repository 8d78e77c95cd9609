/- Chapter 03: the library's functions on slices of ints, said on lists. -/
import Derived.Test.YthhlpcmgcblopaaRow
import Derived.Test.YthhlpcmgcblopaaSet
import Derived.Test.YthhlpcmgcblopaaShelf
namespace Go.Proofs.Ythhlpcmgcblopaa
open Go Go.RowKit Go.Sort Go.Lib Cg
def encZ (n : Int) : Value := .int .i64 n
def leZ (x y : Int) : Bool := decide (x ≤ y)
theorem clone_i (v : Value) (xs : List Int) (w : World) (h : RowAt (Value.int .i64) w v xs) (hn : xs.length ≤ 1000000) :
    Calls Try.prog 53 #[v] w fun e w' => ∃ v', e = .returned v' ∧ w'.ownsRow w.heap.size 3 1 v' xs.length (xs.map (Value.int .i64)) ∧ Below w.heap.size w w' := by
  rcases h.cases with ⟨rfl, ao, cap, rfl⟩ | ⟨_, b, o, cap, rfl, _, _, hc⟩
  · cases ao with
    | none => exact (Try.slices_Clone_int_nil _ _ _).mono fun e w' ⟨h1, h2⟩ => ⟨_, h1, World.ownsRow_nil _ _ _ _, h2 ▸ Below.refl _ _⟩
    | some a => exact (Try.slices_Clone_int_zero a _ _).mono fun e w' ⟨v', h1, h2, _, h4⟩ => ⟨v', h1, h2, h4⟩
  · exact (Try.slices_Clone_int b o xs.length cap xs w (Nat.le_refl _) (by omega) (cells_getD 0 hc)).mono fun e w' ⟨v', h1, h2, _, h4⟩ => ⟨v', h1, by rw [List.take_length] at h2; exact h2, h4⟩
theorem index_i (v : Value) (xs : List Int) (x : Int) (w : World) (h : RowAt (Value.int .i64) w v xs) (hn : xs.length ≤ 1000000) :
    Calls Try.prog 51 #[v, .int .i64 x] w fun e w' => e = .returned (.int .i64 (Lib.idxOf xs x)) ∧ w = w' := by
  rcases h.cases with ⟨rfl, ao, cap, rfl⟩ | ⟨_, b, o, cap, rfl, _, _, hc⟩
  · exact (Try.slices_Index_int_empty ao cap x w).mono fun e w' ⟨h1, h2⟩ => ⟨h1, h2.symm⟩
  · exact (Try.slices_Index_int b o xs.length cap xs x w (Nat.le_refl _) (by omega) (cells_getD 0 hc)).mono fun e w' ⟨h1, h2⟩ => ⟨by rw [List.take_length] at h1; exact h1, h2.symm⟩
theorem contains_i (v : Value) (xs : List Int) (x : Int) (w : World) (h : RowAt (Value.int .i64) w v xs) (hn : xs.length ≤ 1000000) :
    Calls Try.prog 50 #[v, .int .i64 x] w fun e w' => e = .returned (.bool (decide (x ∈ xs))) ∧ w = w' := by
  have hd : ∀ l : List Int, l.contains x = decide (x ∈ l) := fun l => by simp
  rcases h.cases with ⟨rfl, ao, cap, rfl⟩ | ⟨_, b, o, cap, rfl, _, _, hc⟩
  · exact (Try.slices_Contains_int_empty ao cap x w).mono fun e w' ⟨h1, h2⟩ => ⟨by rw [h1]; simp, h2.symm⟩
  · exact (Try.slices_Contains_int b o xs.length cap xs x w (Nat.le_refl _) (by omega) (cells_getD 0 hc)).mono fun e w' ⟨h1, h2⟩ => ⟨by rw [List.take_length, hd] at h1; exact h1, h2.symm⟩
theorem equal_i (v u : Value) (xs ys : List Int) (w : World) (h : RowAt (Value.int .i64) w v xs) (k : RowAt (Value.int .i64) w u ys) (hn : xs.length ≤ 1000000) (hm : ys.length ≤ 1000000) :
    Calls Try.prog 55 #[v, u] w fun e w' => e = .returned (.bool (decide (xs = ys))) ∧ ∃ n, w' = w.drewN n := by
  have hd : (xs == ys) = decide (xs = ys) := by rw [Bool.eq_iff_iff, beq_iff_eq, decide_eq_true_eq]
  by_cases hl : xs.length = ys.length
  · rcases h.cases with ⟨rfl, ao, cap, rfl⟩ | ⟨hx, b, o, cap, rfl, _, _, hc⟩
    · obtain ⟨au, cu, rfl⟩ := k.form
      have : ys = [] := List.eq_nil_of_length_eq_zero hl.symm
      subst this
      exact (Try.slices_Equal_int_empty ao au cap 0 cu w (by omega)).mono fun e w' ⟨h1, h2⟩ => ⟨by rw [h1]; rfl, 0, h2⟩
    · rcases k.cases with ⟨rfl, au, cu, rfl⟩ | ⟨_, b2, o2, cap2, rfl, _, _, hc2⟩
      · exact absurd (List.eq_nil_of_length_eq_zero hl) hx
      · exact (Try.slices_Equal_int b o xs.length cap b2 o2 ys.length cap2 xs ys w (Nat.le_refl _) (Nat.le_refl _) (by omega) (by omega) (cells_getD 0 hc) (cells_getD 0 hc2)).mono fun e w' ⟨h1, h2⟩ => ⟨by rw [h1, List.take_length, List.take_length, hd], h2⟩
  · obtain ⟨a1, c1, rfl⟩ := h.form
    obtain ⟨a2, c2, rfl⟩ := k.form
    exact (Try.slices_Equal_int_lens a1 a2 _ c1 _ c2 w hl).mono fun e w' ⟨h1, h2⟩ => ⟨by rw [h1, decide_eq_false (fun e => hl (by rw [e]))], 0, h2⟩
theorem sort_i (B : Nat) (v : Value) (xs : List Int) (w : World) (h : w.ownsRow B 3 1 v xs.length (xs.map (Value.int .i64))) (hB : B ≤ w.heap.size) (hn : xs.length ≤ 1000000) :
    Calls Try.prog 69 #[v] w fun e w' => e = .returned (.tuple #[]) ∧ w'.ownsRow B 3 1 v xs.length ((xs.mergeSort leZ).map (Value.int .i64)) ∧ Below B w w' := by
  by_cases hv : v = .slice none 0 0
  · subst hv
    have h0 : xs.length = 0 := by
      rcases h.2 with ⟨_, h0⟩ | ⟨g, cap, cur, he, _⟩
      · exact h0
      · cases he
    have : xs = [] := List.eq_nil_of_length_eq_zero h0
    subst this
    exact (Try.slices_Sort_int_none none 0 w).mono fun e w' ⟨h1, h2⟩ => ⟨h1, by rw [h2, List.mergeSort_nil]; exact World.ownsRow_nil _ _ _ _, by rw [h2]; exact Below.refl _ _⟩
  · obtain ⟨g, cap, rfl, hbg, hlt, _, _, _, hH⟩ := holds_of_ownsRow h hv
    refine (Try.slices_Sort_int g 0 cap xs w hH hlt (by omega)).mono fun e w' ⟨h1, n, os, h2⟩ => ⟨h1, ?_, ?_⟩
    · rw [h2]
      have h3 := ownsRow_putRow (q := n) (ys := xs.mergeSort leZ) h (List.length_mergeSort xs) (Nat.le_refl _)
      rw [List.take_of_length_le (Nat.le_of_eq (List.length_mergeSort xs))] at h3
      refine own_block h3 ?_
      exact below_grow (Below.refl _ _) (Nat.le_refl _) os
    · rw [h2]
      exact below_grow (below_putRow (Below.refl _ _) hbg) (by rw [size_putRow]; exact hB) os
theorem compact_i (B : Nat) (v : Value) (xs : List Int) (w : World) (h : w.ownsRow B 3 1 v xs.length (xs.map (Value.int .i64))) (hn : xs.length ≤ 1000000) :
    Calls Try.prog 70 #[v] w fun e w' => ∃ v', e = .returned v' ∧ w'.ownsRow B 3 1 v' (Lib.compact xs).length ((Lib.compact xs).map (Value.int .i64)) ∧ Below B w w' := by
  by_cases hv : v = .slice none 0 0
  · subst hv
    have h0 : xs.length = 0 := by
      rcases h.2 with ⟨_, h0⟩ | ⟨g, cap, cur, he, _⟩
      · exact h0
      · cases he
    have : xs = [] := List.eq_nil_of_length_eq_zero h0
    subst this
    exact (Try.slices_Compact_int_empty none 0 w).mono fun e w' ⟨h1, h2⟩ => ⟨_, h1, by rw [h2]; exact World.ownsRow_nil _ _ _ _, by rw [h2]; exact Below.refl _ _⟩
  · obtain ⟨g, cap, rfl, hbg, hlt, hcap, _, _, hH⟩ := holds_of_ownsRow h hv
    have hl := compact_length_le xs
    refine (Try.slices_Compact_int g 0 cap xs w hH (by omega) hcap).mono fun e w' ⟨h1, n, h2⟩ => ⟨_, h1, ?_, ?_⟩
    · rw [h2]
      have h3 := ownsRow_putRow (q := n) (ys := Lib.compact xs ++ List.replicate (xs.length - (Lib.compact xs).length) 0) h (by rw [List.length_append, List.length_replicate]; omega) hl
      rw [List.take_left] at h3
      exact h3
    · rw [h2]
      exact below_putRow (Below.refl _ _) hbg
theorem delete_nil (g : Nat) (lb : Array Value) (w : World) : Calls Try.prog 52 #[.slice none 0 0, .func (.func g) #[] lb] w fun e w' => e = .returned (.slice none 0 0) ∧ w = w' := by
  go_enter Try.func52, Try.ntmps52
  go_wp2_with fail
  refine (Try.slices_IndexFunc_empty (α := Int) none 0 _ w).mono ?_
  rintro e w' ⟨rfl, rfl⟩
  go_wp2_with fail
  go_ret
  exact ⟨rfl, rfl⟩
theorem delete_i (B : Nat) (v : Value) (xs : List Int) (p : Int → Bool) (g : Nat) (lb : Array Value) (eg : ∀ args w, (callFunc g args).run Try.prog w = .ok (.enter g args) w) (w : World) (h : w.ownsRow B 3 1 v xs.length (xs.map (Value.int .i64)))
    (hp : PredAt Try.prog g lb (Value.int .i64) p w) (hpo : ∀ blk, B ≤ blk → PredOver Try.prog g lb (Value.int .i64) p blk 0 xs.length w) (hn : xs.length ≤ 1000000) :
    Calls Try.prog 52 #[v, .func (.func g) #[] lb] w fun e w' => ∃ v', e = .returned v' ∧ w'.ownsRow B 3 1 v' (xs.filter fun x => !p x).length ((xs.filter fun x => !p x).map (Value.int .i64)) ∧ Below B w w' := by
  by_cases hne : v = .slice none 0 0
  · subst hne
    have h0 : xs.length = 0 := by
      rcases h.2 with ⟨_, h0⟩ | ⟨g, cap, cur, he, _⟩
      · exact h0
      · cases he
    have : xs = [] := List.eq_nil_of_length_eq_zero h0
    subst this
    exact (delete_nil g lb w).mono fun e w' ⟨h1, h2⟩ => ⟨_, h1, h2 ▸ World.ownsRow_nil _ _ _ _, h2 ▸ Below.refl _ _⟩
  obtain ⟨b, cap, rfl, hbg, hlt, hcap, _, _, hH⟩ := holds_of_ownsRow h hne
  have hl := List.length_filter_le (fun x => !p x) xs
  refine (Try.slices_DeleteFunc (Value.int .i64) (fun _ => rfl) p g lb eg 0 Try.zeroValue3 b 0 cap xs.toArray w hp (by simpa using hpo b hbg) hH (by simp; omega) (by simpa using hcap)).mono fun e w' ⟨h1, n, h2⟩ => ⟨_, h1, ?_, ?_⟩
  · rw [h2]
    have h3 := ownsRow_putRow (q := n) (ys := (xs.filter fun x => !p x) ++ List.replicate (xs.length - (xs.filter fun x => !p x).length) 0) h (by rw [List.length_append, List.length_replicate]; omega) hl
    rw [List.take_left] at h3
    simpa using h3
  · rw [h2]
    exact below_putRow (Below.refl _ _) hbg
end Go.Proofs.Ythhlpcmgcblopaa
