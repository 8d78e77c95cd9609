/- A slice whose elements take one cell each, as a list, wherever it lies; what the call owns read so. They hold for any program. -/
import Derived.Test.YtiebjkbofoppaaaBase
import Derived.Lib.OwnBridge
import Derived.Sort.OwnSortedInts
import Derived.WalkSmall
import Derived.Laws.AppendOwnNone
namespace Cg
open Go Go.RowKit Go.Sort Go.Lib
variable {α : Type}
/-- A value that is a slice of the elements xs, wherever it lies. -/
def RowAt (enc : α → Value) (w : World) (v : Value) (xs : List α) : Prop :=
  ∃ ao cap, v = .slice ao xs.length cap ∧ (xs.length ≤ cap ∧ (ao = none → cap = 0)) ∧ (xs = [] ∨ ∃ b o, ao = some ⟨b, o, none⟩ ∧ b < w.heap.size ∧ ∀ (j : Nat) x, xs[j]? = some x → w.cell? ⟨b, o + j, none⟩ = some (enc x))
theorem RowAt.below {enc : α → Value} {w w' : World} {v : Value} {xs : List α} (h : RowAt enc w v xs) (hb : Below w.heap.size w w') : RowAt enc w' v xs := by
  obtain ⟨ao, cap, rfl, hc, h⟩ := h
  refine ⟨ao, cap, rfl, hc, ?_⟩
  rcases h with h | ⟨b, o, rfl, hlt, hx⟩
  · exact .inl h
  · exact .inr ⟨b, o, rfl, Nat.lt_of_lt_of_le hlt hb.size, fun j x hj => (hb.cell (p := ⟨b, o + j, none⟩) hlt).trans (hx j x hj)⟩
theorem rowAt_own {enc : α → Value} {w : World} {base : Nat} {e : TypeId} {v : Value} {xs : List α} (h : w.ownsRow base e 1 v xs.length (xs.map enc)) : RowAt enc w v xs := by
  by_cases hn : xs = []
  · subst hn
    rcases h.2 with ⟨rfl, _⟩ | ⟨g, cap, cur, rfl, _, _, hc, _⟩
    · exact ⟨none, 0, rfl, ⟨Nat.le_refl _, fun _ => rfl⟩, .inl rfl⟩
    · exact ⟨_, cap, rfl, ⟨hc, fun h => by cases h⟩, .inl rfl⟩
  · obtain ⟨g, cap, rfl, _, hlt, hc, hx⟩ := own_nil_or h (List.length_pos_iff.2 hn)
    exact ⟨_, cap, rfl, ⟨hc, fun h => by cases h⟩, .inr ⟨g, 0, rfl, hlt, fun j x hj => by rw [Nat.zero_add]; exact hx j _ (by simp [hj])⟩⟩
theorem rowAt_nil (enc : α → Value) (w : World) : RowAt enc w (.slice none 0 0) [] := ⟨none, 0, rfl, ⟨Nat.le_refl _, fun _ => rfl⟩, .inl rfl⟩
theorem rowAt_lit (enc : α → Value) (w : World) (xs : List α) (t : TypeId) : RowAt enc (w.alloc (.cells (xs.map enc).toArray t)) (.slice (some ⟨w.heap.size, 0, none⟩) xs.length xs.length) xs := by
  refine ⟨_, _, rfl, ⟨Nat.le_refl _, fun h => by cases h⟩, .inr ⟨w.heap.size, 0, rfl, ?_, fun j x hj => ?_⟩⟩
  · show w.heap.size < (w.heap.push _).size
    simp
  · rw [Nat.zero_add, cell_of_row _ _ j _ t (0, 0) (heap_alloc_new w _)]
    simp [hj]
theorem RowAt.form {enc : α → Value} {w : World} {v : Value} {xs : List α} (h : RowAt enc w v xs) : ∃ ao cap, v = .slice ao xs.length cap := by
  obtain ⟨ao, cap, rfl, _⟩ := h
  exact ⟨ao, cap, rfl⟩
/-- The slice is empty, or its elements lie so. -/
theorem RowAt.cases {enc : α → Value} {w : World} {v : Value} {xs : List α} (h : RowAt enc w v xs) : (xs = [] ∧ ∃ ao cap, v = .slice ao 0 cap) ∨
    (¬ xs = [] ∧ ∃ b o cap, v = .slice (some ⟨b, o, none⟩) xs.length cap ∧ xs.length ≤ cap ∧ b < w.heap.size ∧ ∀ (j : Nat) x, xs[j]? = some x → w.cell? ⟨b, o + j, none⟩ = some (enc x)) := by
  obtain ⟨ao, cap, rfl, hc, h⟩ := h
  by_cases hx : xs = []
  · subst hx
    exact .inl ⟨rfl, ao, cap, rfl⟩
  · rcases h with h | ⟨b, o, rfl, hlt, hcell⟩
    · exact absurd h hx
    · exact .inr ⟨hx, b, o, cap, rfl, hc.1, hlt, hcell⟩
theorem cells_getD {enc : α → Value} {w : World} {b o : Nat} {xs : List α} (z : α) (h : ∀ (j : Nat) x, xs[j]? = some x → w.cell? ⟨b, o + j, none⟩ = some (enc x)) : ∀ j, j < xs.length → w.cell? ⟨b, o + j, none⟩ = some (enc (xs.getD j z)) := by
  intro j hj
  rw [List.getD_eq_getElem?_getD, List.getElem?_eq_getElem hj]
  exact h j _ (List.getElem?_eq_getElem hj)
theorem own_block {w w' : World} {B e size n : Nat} {v : Value} {xs : List Value} (h : w.ownsRow B e size v n xs) (hb : Below w.heap.size w w') : w'.ownsRow B e size v n xs := by
  refine ⟨h.1, ?_⟩
  rcases h.2 with hn | ⟨g, cap, cur, rfl, hg, hgg, rest⟩
  · exact .inl hn
  · exact .inr ⟨g, cap, cur, rfl, hg, by rw [hb.block g (Array.getElem?_eq_some_iff.1 hgg).1]; exact hgg, rest⟩
theorem own_low {w : World} {B B' e size n : Nat} {v : Value} {xs : List Value} (h : w.ownsRow B e size v n xs) (hb : B' ≤ B) : w.ownsRow B' e size v n xs := by
  refine ⟨h.1, ?_⟩
  rcases h.2 with hn | ⟨g, cap, cur, rfl, hg, rest⟩
  · exact .inl hn
  · exact .inr ⟨g, cap, cur, rfl, by omega, rest⟩
theorem below_grow {B : Nat} {w0 w : World} (h : Below B w0 w) (hB : B ≤ w.heap.size) (os : Array Obj) : Below B w0 (grow w os) :=
  ⟨h.os, h.tape, h.output, by show w0.heap.size ≤ (w.heap ++ os).size; rw [Array.size_append]; have := h.size; omega, fun k hk => by
    rw [heap_grow_old w os (by omega)]; exact h.block k hk⟩
/-- 'out = append(out, ys...)': out is the call's own, ys lies wherever it lies. -/
theorem wpList_append_row {P : Program} {w : World} {ops : Array Oper} {rest : List Oper} {o : Oper} {a : Act} {Q : Exit → Act → World → Prop} (hgd : o.guard = none) (s x : Operand) (t : TypeId)
    (ho : o.op = .call { callee := .builtin .append, args := #[s, x], argTypes := #[t, t] })
    (base : Nat) {e : TypeId} {z : Value} {bytes : Nat} (hE : ElemIs P t e z 1 bytes)
    (v : Value) (n : Nat) (xs : List Value) (hs : a.eval s = v) (hown : w.ownsRow base e 1 v n xs)
    (enc : α → Value) (h1 : ∀ y, (enc y).oneCell' = true) (ys : List α) (vx : Value) (hx : a.eval x = vx) (hr : RowAt enc w vx ys)
    (hn : (n + ys.length) * bytes ≤ 140737488355328) (hn1 : n + ys.length < 140737488355328) (hbase : base ≤ w.heap.size)
    (h : ∀ v' w', w'.ownsRow base e 1 v' (n + ys.length) (xs ++ ys.map enc) → Below base w w' → wpList P ops Q rest (a.put o.dst v') w') :
    wpList P ops Q (o :: rest) a w := by
  obtain ⟨ht, hzs, hsz, i, hi, hz, hsize, hby⟩ := hE
  obtain ⟨ao, cap, rfl, ⟨hc, hnil⟩, hr⟩ := hr
  cases ao with
  | none =>
    have hc0 := hnil rfl
    subst hc0
    have hy : ys = [] := List.eq_nil_of_length_eq_zero (by omega)
    subst hy
    refine wpList_append_own_none hgd s x t ho base e i 1 ht hi v n xs hs hown hx (h v w ?_ (Below.refl _ _))
    simpa using hown
  | some ad =>
    have hcells : ∀ (j : Nat) u, (ys.map enc)[j]? = some u → w.cell? (ad.add j) = some u := by
      intro j u hj
      rcases hr with rfl | ⟨b, oo, hao, _, hcell⟩
      · simp at hj
      · cases hao
        rw [List.getElem?_map] at hj
        cases hq : ys[j]? with
        | none => rw [hq] at hj; simp at hj
        | some y =>
          rw [hq] at hj
          have hadd : (⟨b, oo, none⟩ : Addr).add j = ⟨b, oo + j, none⟩ := by unfold Addr.add; split <;> simp_all
          rw [hadd, hcell j y hq]
          simpa using hj
    refine wpList_append_own w hgd s x t ho base e i z 1 bytes ht hi hz hsize hby hzs hsz v n xs hs hown ad ys.length cap (ys.map enc) hx (by simp) hcells (fun u hu => by
      obtain ⟨y, _, rfl⟩ := List.mem_map.1 hu
      exact h1 y) (by simp only [maxLen]; omega) hn hbase ?_
    intro v' w' hown' hgrow _
    exact h v' w' hown' ((Below.refl base w).grown hgrow hbase (fun k hk => (hown.lt k hk).1))
theorem drewN_grow (w : World) (n : Nat) : Below w.heap.size w (w.drewN n) := below_drewN (Below.refl _ _) n
end Cg
