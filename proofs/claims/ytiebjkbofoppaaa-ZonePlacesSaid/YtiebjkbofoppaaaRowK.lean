/- A slice whose elements take k cells each (structs), as a list, wherever it lies; rows in a known block, one element written. They hold for any program. -/
import Derived.Test.YtiebjkbofoppaaaRow
namespace Cg
open Go Go.RowKit Go.Sort Go.Lib
variable {α : Type}
/-- A value that is a slice of the elements xs, k cells each, wherever it lies. -/
def RowK (k : Nat) (enc : α → List Value) (w : World) (v : Value) (xs : List α) : Prop :=
  ∃ ao cap, v = .slice ao xs.length cap ∧ (xs.length ≤ cap ∧ (ao = none → cap = 0)) ∧ (xs = [] ∨ ∃ b o, ao = some ⟨b, o, none⟩ ∧ b < w.heap.size ∧ ∀ (j : Nat) x, xs[j]? = some x → ∀ (i : Nat) u, (enc x)[i]? = some u → w.cell? ⟨b, o + j * k + i, none⟩ = some u)
theorem RowK.below {k : Nat} {enc : α → List Value} {w w' : World} {v : Value} {xs : List α} (h : RowK k enc w v xs) (hb : Below w.heap.size w w') : RowK k enc w' v xs := by
  obtain ⟨ao, cap, rfl, hc, h⟩ := h
  refine ⟨ao, cap, rfl, hc, ?_⟩
  rcases h with h | ⟨b, o, rfl, hlt, hx⟩
  · exact .inl h
  · exact .inr ⟨b, o, rfl, Nat.lt_of_lt_of_le hlt hb.size, fun j x hj i u hu => (hb.cell (p := ⟨b, o + j * k + i, none⟩) hlt).trans (hx j x hj i u hu)⟩
theorem RowK.form {k : Nat} {enc : α → List Value} {w : World} {v : Value} {xs : List α} (h : RowK k enc w v xs) : ∃ ao cap, v = .slice ao xs.length cap := by
  obtain ⟨ao, cap, rfl, _⟩ := h
  exact ⟨ao, cap, rfl⟩
theorem rowK_nil (k : Nat) (enc : α → List Value) (w : World) : RowK k enc w (.slice none 0 0) [] := ⟨none, 0, rfl, ⟨Nat.le_refl _, fun _ => rfl⟩, .inl rfl⟩
/-- The cells of a list of elements. -/
theorem flat_get {k : Nat} {enc : α → List Value} (hk : ∀ x, (enc x).length = k) : ∀ (xs : List α) (j : Nat) x, xs[j]? = some x → ∀ (i : Nat), i < k → (xs.flatMap enc)[j * k + i]? = (enc x)[i]?
  | [], j, x, h, _, _ => by simp at h
  | y :: xs, 0, x, h, i, hi => by
    obtain rfl : y = x := by simpa using h
    rw [List.flatMap_cons, Nat.zero_mul, Nat.zero_add, List.getElem?_append_left (by rw [hk]; exact hi)]
  | y :: xs, j + 1, x, h, i, hi => by
    have ih := flat_get hk xs j x (by simpa using h) i hi
    rw [List.flatMap_cons, List.getElem?_append_right (by rw [hk, Nat.add_mul]; omega), hk, show (j + 1) * k + i - k = j * k + i by rw [Nat.add_mul]; omega]
    exact ih
theorem flat_len {k : Nat} {enc : α → List Value} (hk : ∀ x, (enc x).length = k) (xs : List α) : (xs.flatMap enc).length = xs.length * k := by
  induction xs with
  | nil => simp
  | cons x xs ih => rw [List.flatMap_cons, List.length_append, ih, hk, List.length_cons, Nat.add_mul]; omega
theorem rowK_own {k : Nat} {enc : α → List Value} (hk : ∀ x, (enc x).length = k) {w : World} {base : Nat} {e : TypeId} {v : Value} {xs : List α} (h : w.ownsRow base e k v xs.length (xs.flatMap enc)) : RowK k enc w v xs := by
  by_cases hx : xs = []
  · subst hx
    rcases h.2 with ⟨rfl, _⟩ | ⟨g, cap, cur, rfl, _, _, hc, _⟩
    · exact ⟨none, 0, rfl, ⟨Nat.le_refl _, fun _ => rfl⟩, .inl rfl⟩
    · exact ⟨_, cap, rfl, ⟨hc, fun h => by cases h⟩, .inl rfl⟩
  · obtain ⟨g, cap, rfl, _, hlt, hc, hcell⟩ := own_nil_or h (List.length_pos_iff.2 hx)
    refine ⟨_, cap, rfl, ⟨hc, fun h => by cases h⟩, .inr ⟨g, 0, rfl, hlt, fun j x hj i u hu => ?_⟩⟩
    have hi : i < k := by have := (List.getElem?_eq_some_iff.1 hu).1; rwa [hk] at this
    rw [Nat.zero_add]
    exact hcell _ u ((flat_get hk xs j x hj i hi).trans hu)
theorem elemIsK {P : Program} {t e : TypeId} {z : Value} {size bytes : Nat} (h : ElemIs P t e z size bytes) : 0 < size := h.2.2.1
/-- 'out = append(out, ys...)' at structs: out is the call's own, ys lies wherever it lies. -/
theorem wpList_append_rowK {P : Program} {w : World} {ops : Array Oper} {rest : List Oper} {o : Oper} {a : Act} {Q : Exit → Act → World → Prop} (hgd : o.guard = none) (s x : Operand) (t : TypeId)
    (ho : o.op = .call { callee := .builtin .append, args := #[s, x], argTypes := #[t, t] })
    (base : Nat) {e : TypeId} {z : Value} {k bytes : Nat} (hE : ElemIs P t e z k bytes)
    (v : Value) (n : Nat) (xs : List Value) (hs : a.eval s = v) (hown : w.ownsRow base e k v n xs)
    (enc : α → List Value) (hk : ∀ x, (enc x).length = k) (h1 : ∀ y, ∀ u ∈ enc y, u.oneCell' = true) (ys : List α) (vx : Value) (hx : a.eval x = vx) (hr : RowK k enc w vx ys)
    (hn : (n + ys.length) * bytes ≤ 140737488355328) (hn1 : n + ys.length < 140737488355328) (hbase : base ≤ w.heap.size)
    (h : ∀ v' w', w'.ownsRow base e k v' (n + ys.length) (xs ++ ys.flatMap enc) → w.grownBy w' v.ownBlock → Below base w w' → wpList P ops Q rest (a.put o.dst v') w') :
    wpList P ops Q (o :: rest) a w := by
  obtain ⟨ht, hzs, hsz, i, hi, hz, hsize, hby⟩ := hE
  obtain ⟨ao, cap, rfl, ⟨hc, hnil⟩, hr⟩ := hr
  cases ao with
  | none =>
    have hc0 := hnil rfl
    subst hc0
    have hy : ys = [] := List.eq_nil_of_length_eq_zero (by omega)
    subst hy
    refine wpList_append_own_none hgd s x t ho base e i k ht hi v n xs hs hown hx (h v w ?_ ⟨rfl, rfl, rfl, Nat.le_refl _, fun _ _ _ => rfl⟩ (Below.refl _ _))
    simpa using hown
  | some ad =>
    have hcells : ∀ (j : Nat) u, (ys.flatMap enc)[j]? = some u → w.cell? (ad.add j) = some u := by
      intro j u hj
      rcases hr with rfl | ⟨b, oo, hao, _, hcell⟩
      · simp at hj
      · cases hao
        have hjl := (List.getElem?_eq_some_iff.1 hj).1
        rw [flat_len hk] at hjl
        have hq : j / k < ys.length := Nat.div_lt_of_lt_mul (by rw [Nat.mul_comm]; exact hjl)
        have hm : j % k < k := Nat.mod_lt _ hsz
        have ha : (⟨b, oo, none⟩ : Addr).add j = ⟨b, oo + j, none⟩ := by unfold Addr.add; split <;> simp_all
        have hj2 : j = j / k * k + j % k := by rw [Nat.mul_comm]; exact (Nat.div_add_mod j k).symm
        have hg := flat_get hk ys (j / k) _ (List.getElem?_eq_getElem hq) (j % k) hm
        rw [← hj2, hj] at hg
        have hadd : (⟨b, oo, none⟩ : Addr).add j = ⟨b, oo + j / k * k + j % k, none⟩ := by
          rw [ha, Nat.add_assoc, ← hj2]
        rw [hadd]
        exact hcell (j / k) _ (List.getElem?_eq_getElem hq) (j % k) u hg.symm
    refine wpList_append_own w hgd s x t ho base e i z k bytes ht hi hz hsize hby hzs hsz v n xs hs hown ad ys.length cap (ys.flatMap enc) hx (flat_len hk ys) hcells (fun u hu => by
      obtain ⟨y, _, hu⟩ := List.mem_flatMap.1 hu
      exact h1 y u hu) (by simp only [maxLen]; omega) hn hbase ?_
    intro v' w' hown' hgrow _
    exact h v' w' hown' hgrow ((Below.refl base w).grown hgrow hbase (fun k hk => (hown.lt k hk).1))
/-- The block g holds the elements xs, k cells each, from its beginning on. -/
def BlkK (k : Nat) (enc : α → List Value) (t : TypeId) (w : World) (g : Nat) (xs : List α) : Prop :=
  ∃ cur, w.heap[g]? = some (.cells cur t (0, 0)) ∧ xs.length * k ≤ cur.size ∧ ∀ (j : Nat) x, xs[j]? = some x → ∀ (i : Nat) u, (enc x)[i]? = some u → cur[j * k + i]? = some u
theorem BlkK.cell {k : Nat} {enc : α → List Value} {t : TypeId} {w : World} {g : Nat} {xs : List α} (h : BlkK k enc t w g xs) (j : Nat) (x : α) (hj : xs[j]? = some x) (i : Nat) (u : Value) (hu : (enc x)[i]? = some u) : w.cell? ⟨g, j * k + i, none⟩ = some u := by
  obtain ⟨cur, hg, _, hc⟩ := h
  rw [cell_of_row _ _ _ _ _ _ hg]
  exact hc j x hj i u hu
theorem BlkK.frozen {k : Nat} {enc : α → List Value} {t : TypeId} {w : World} {g : Nat} {xs : List α} (h : BlkK k enc t w g xs) (o : Nat) : w.frozen? ⟨g, o, none⟩ = false := by
  obtain ⟨cur, hg, _⟩ := h
  simp [World.frozen?, hg]
theorem BlkK.lt {k : Nat} {enc : α → List Value} {t : TypeId} {w : World} {g : Nat} {xs : List α} (h : BlkK k enc t w g xs) : g < w.heap.size := by
  obtain ⟨cur, hg, _⟩ := h
  exact (Array.getElem?_eq_some_iff.1 hg).1
theorem BlkK.same {k : Nat} {enc : α → List Value} {t : TypeId} {w w' : World} {g : Nat} {xs : List α} (h : BlkK k enc t w g xs) (hb : w'.heap[g]? = w.heap[g]?) : BlkK k enc t w' g xs := by
  obtain ⟨cur, hg, h⟩ := h
  exact ⟨cur, hb.trans hg, h⟩
theorem BlkK.row {k : Nat} {enc : α → List Value} {t : TypeId} {w : World} {g : Nat} {xs : List α} (h : BlkK k enc t w g xs) (cap : Nat) (hc : xs.length ≤ cap) : RowK k enc w (.slice (some ⟨g, 0, none⟩) xs.length cap) xs :=
  ⟨_, cap, rfl, ⟨hc, fun h => by cases h⟩, .inr ⟨g, 0, rfl, h.lt, fun j x hj i u hu => by rw [Nat.zero_add]; exact h.cell j x hj i u hu⟩⟩
/-- One element written, cell by cell. -/
theorem BlkK.setCells {k : Nat} {enc : α → List Value} (hk : ∀ x, (enc x).length = k) {t : TypeId} {w : World} {g : Nat} {xs : List α} (h : BlkK k enc t w g xs) (j : Nat) (hj : j < xs.length) (y : α) : BlkK k enc t (w.setCells g (j * k) (enc y)) g (xs.set j y) := by
  have key : ∀ (vs : List Value) (o : Nat) (w : World) (cur : Array Value), w.heap[g]? = some (.cells cur t (0, 0)) → o + vs.length ≤ cur.size →
      ∃ cur', (w.setCells g o vs).heap[g]? = some (.cells cur' t (0, 0)) ∧ cur'.size = cur.size ∧ ∀ m, cur'[m]? = if o ≤ m ∧ m < o + vs.length then vs[m - o]? else cur[m]? := by
    intro vs
    induction vs with
    | nil => intro o w cur hg _; exact ⟨cur, hg, rfl, fun m => by rw [if_neg (by simp)]⟩
    | cons v vs ih =>
      intro o w cur hg hl
      rw [List.length_cons] at hl
      have hg2 : (w.setCell ⟨g, o, none⟩ v).heap[g]? = some (.cells (cur.setIfInBounds o v) t (0, 0)) := by
        simp only [World.setCell, Array.getElem?_modify]
        simp [hg]
      obtain ⟨cur', h1, h2, h3⟩ := ih (o + 1) _ _ hg2 (by rw [Array.size_setIfInBounds]; omega)
      refine ⟨cur', h1, by rw [h2, Array.size_setIfInBounds], fun m => ?_⟩
      rw [h3 m, List.length_cons]
      by_cases hm : m = o
      · subst hm
        rw [if_neg (by omega), if_pos (by omega), Nat.sub_self, Array.getElem?_setIfInBounds, if_pos rfl, if_pos (by omega)]
        simp
      · by_cases hr : o + 1 ≤ m ∧ m < o + 1 + vs.length
        · rw [if_pos hr, if_pos (by omega), show m - o = m - (o + 1) + 1 by omega, List.getElem?_cons_succ]
        · rw [if_neg hr, if_neg (by omega), Array.getElem?_setIfInBounds, if_neg (fun e => hm e.symm)]
  obtain ⟨cur, hg, hl, hc⟩ := h
  have hjk : j * k + k ≤ xs.length * k := by rw [← Nat.succ_mul]; exact Nat.mul_le_mul_right k hj
  obtain ⟨cur', h1, h2, h3⟩ := key (enc y) (j * k) w cur hg (by rw [hk]; omega)
  refine ⟨cur', h1, by rw [List.length_set, h2]; exact hl, fun m x hm i u hu => ?_⟩
  have hi : i < k := by have := (List.getElem?_eq_some_iff.1 hu).1; rwa [hk] at this
  rw [h3, hk]
  by_cases e : m = j
  · subst e
    rw [if_pos (by omega), show m * k + i - m * k = i by omega]
    rw [List.getElem?_set_self hj] at hm
    cases hm
    exact hu
  · have hne : ¬ (j * k ≤ m * k + i ∧ m * k + i < j * k + k) := by
      rcases Nat.lt_or_gt_of_ne e with h | h
      · have : (m + 1) * k ≤ j * k := Nat.mul_le_mul_right k h
        rw [Nat.add_mul] at this
        omega
      · have : (j + 1) * k ≤ m * k := Nat.mul_le_mul_right k h
        rw [Nat.add_mul] at this
        omega
    rw [if_neg hne]
    rw [List.getElem?_set_ne (fun h => e h.symm)] at hm
    exact hc m x hm i u hu
/-- One cell of one element written. -/
theorem BlkK.setCell {k : Nat} {enc : α → List Value} (hk : ∀ x, (enc x).length = k) {t : TypeId} {w : World} {g : Nat} {xs : List α} (h : BlkK k enc t w g xs) (j : Nat) (x : α) (hj : xs[j]? = some x) (c : Nat) (hck : c < k) (u : Value) (y : α) (hy : ∀ i, (enc y)[i]? = if i = c then some u else (enc x)[i]?) : BlkK k enc t (w.setCell ⟨g, j * k + c, none⟩ u) g (xs.set j y) := by
  obtain ⟨cur, hg, hl, hc⟩ := h
  have hjl := (List.getElem?_eq_some_iff.1 hj).1
  have hjk : j * k + k ≤ xs.length * k := by rw [← Nat.succ_mul]; exact Nat.mul_le_mul_right k hjl
  have hg2 : (w.setCell ⟨g, j * k + c, none⟩ u).heap[g]? = some (.cells (cur.setIfInBounds (j * k + c) u) t (0, 0)) := by
    simp only [World.setCell, Array.getElem?_modify]
    simp [hg]
  refine ⟨_, hg2, by rw [List.length_set, Array.size_setIfInBounds]; exact hl, fun m z hm i v hv => ?_⟩
  have hi : i < k := by have := (List.getElem?_eq_some_iff.1 hv).1; rwa [hk] at this
  rw [Array.getElem?_setIfInBounds]
  by_cases e : m = j
  · subst e
    rw [List.getElem?_set_self hjl] at hm
    cases hm
    rw [hy i] at hv
    by_cases ec : i = c
    · subst ec
      rw [if_pos rfl] at hv
      rw [if_pos rfl, if_pos (by omega)]
      exact hv
    · rw [if_neg ec] at hv
      rw [if_neg (by omega)]
      exact hc m x hj i v hv
  · rw [List.getElem?_set_ne (fun h => e h.symm)] at hm
    have hne : ¬ (j * k + c = m * k + i) := by
      rcases Nat.lt_or_gt_of_ne e with h | h
      · have : (m + 1) * k ≤ j * k := Nat.mul_le_mul_right k h
        rw [Nat.add_mul] at this
        omega
      · have : (j + 1) * k ≤ m * k := Nat.mul_le_mul_right k h
        rw [Nat.add_mul] at this
        omega
    rw [if_neg hne]
    exact hc m z hm i v hv
end Cg
