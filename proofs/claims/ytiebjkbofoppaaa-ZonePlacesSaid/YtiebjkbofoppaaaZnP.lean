/- Chapter 25: rows of structs: elements written, copied, appended. -/
import Derived.Test.YtiebjkbofoppaaaZnH
import Derived.Laws.IdiomCopy
import Derived.Lib.AppendZerosOnto
import Derived.Lib.Overlaps
import Derived.Shelf.Spec.SlicesInsertGrow
import Derived.Deep.RegionLaw
namespace Go.Proofs.Ytiebjkbofoppaaa
open Go Go.RowKit Go.Sort Cg
theorem setCells_arr {t : TypeId} {g : Nat} : ∀ (vs : List Value) (o : Nat) (w : World) (cur : Array Value), w.heap[g]? = some (.cells cur t (0, 0)) → o + vs.length ≤ cur.size →
    ∃ cur', (w.setCells g o vs).heap[g]? = some (.cells cur' t (0, 0)) ∧ cur'.size = cur.size ∧ ∀ m, cur'[m]? = if o ≤ m ∧ m < o + vs.length then vs[m - o]? else cur[m]?
  | [], o, w, cur, hg, _ => ⟨cur, hg, rfl, fun m => by rw [if_neg (by simp)]⟩
  | v :: vs, o, w, cur, hg, hl => by
    rw [List.length_cons] at hl
    have hg2 : (w.setCell ⟨g, o, none⟩ v).heap[g]? = some (.cells (cur.setIfInBounds o v) t (0, 0)) := by
      simp only [World.setCell, Array.getElem?_modify]
      simp [hg]
    obtain ⟨cur', h1, h2, h3⟩ := setCells_arr vs (o + 1) _ _ hg2 (by rw [Array.size_setIfInBounds]; omega)
    refine ⟨cur', h1, by rw [h2, Array.size_setIfInBounds], fun m => ?_⟩
    rw [h3 m, List.length_cons]
    by_cases hm : m = o
    · subst hm
      rw [if_neg (by omega), if_pos (by omega), Nat.sub_self, Array.getElem?_setIfInBounds, if_pos rfl, if_pos (by omega)]
      simp
    · by_cases hr : o + 1 ≤ m ∧ m < o + 1 + vs.length
      · rw [if_pos hr, if_pos (by omega), show m - o = m - (o + 1) + 1 by omega, List.getElem?_cons_succ]
      · rw [if_neg hr, if_neg (by omega), Array.getElem?_setIfInBounds, if_neg (fun e => hm e.symm)]
/-- Elements written from place j on, behind the last one too. -/
theorem BlkC.write {k : Nat} {t : TypeId} {B g cap : Nat} {w : World} {es : List (Cl k)} (h : BlkC k t w g es) (hd : HdC B t k w g cap) (j : Nat) (ys : List (Cl k)) (hj : j ≤ es.length) (hc : j + ys.length ≤ cap) :
    BlkC k t (w.setCells g (j * k) (ys.flatMap Subtype.val)) g (es.take j ++ ys ++ es.drop (j + ys.length)) ∧ HdC B t k (w.setCells g (j * k) (ys.flatMap Subtype.val)) g cap := by
  refine ⟨?_, hd.sets _ _ _⟩
  obtain ⟨cur, hg, hl, hcell⟩ := h
  obtain ⟨_, _, cur0, hg0, hs0⟩ := hd
  rw [hg] at hg0
  obtain rfl : cur = cur0 := by simpa using hg0
  have hyl := flat_len (enc := Subtype.val) Cl.len ys
  have hle : j * k + ys.length * k ≤ cap * k := by rw [← Nat.add_mul]; exact Nat.mul_le_mul_right k hc
  obtain ⟨cur', h1, h2, h3⟩ := setCells_arr (t := t) (g := g) (ys.flatMap Subtype.val) (j * k) w cur hg (by rw [hyl, hs0]; exact hle)
  refine ⟨cur', h1, ?_, fun q x hq i u hu => ?_⟩
  · rw [h2]
    simp only [List.length_append, List.length_take, List.length_drop]
    by_cases hx : j + ys.length ≤ es.length
    · rw [show min j es.length + ys.length + (es.length - (j + ys.length)) = es.length by omega]; exact hl
    · rw [show min j es.length + ys.length + (es.length - (j + ys.length)) = j + ys.length by omega, Nat.add_mul, hs0]; exact hle
  · have hik : i < k := by have := (List.getElem?_eq_some_iff.1 hu).1; rwa [Cl.len] at this
    have htl : (es.take j).length = j := by rw [List.length_take]; omega
    rw [h3, hyl]
    rcases Nat.lt_trichotomy q j with hlt | heq | hgt
    · have : q * k + k ≤ j * k := by rw [← Nat.succ_mul]; exact Nat.mul_le_mul_right k hlt
      rw [if_neg (by omega)]
      rw [List.append_assoc, List.getElem?_append_left (by omega), List.getElem?_take, if_pos hlt] at hq
      exact hcell q x hq i u hu
    · subst heq
      rw [List.append_assoc, List.getElem?_append_right (by omega), htl, Nat.sub_self] at hq
      by_cases hy0 : 0 < ys.length
      · rw [List.getElem?_append_left hy0] at hq
        have hk1 : k ≤ ys.length * k := Nat.le_mul_of_pos_left k hy0
        rw [if_pos (by omega), show q * k + i - q * k = 0 * k + i by omega]
        exact (flat_get Cl.len ys 0 x hq i hik).trans hu
      · have hy : ys = [] := List.eq_nil_of_length_eq_zero (by omega)
        subst hy
        rw [if_neg (by simp)]
        simp only [List.nil_append, List.length_nil, Nat.add_zero, List.getElem?_drop] at hq
        exact hcell q x hq i u hu
    · rw [List.append_assoc, List.getElem?_append_right (by omega), htl] at hq
      by_cases hy : q - j < ys.length
      · rw [List.getElem?_append_left hy] at hq
        have e1 : j * k + (q - j) * k = q * k := by rw [← Nat.add_mul]; congr 1; omega
        have e2 : (q - j) * k + k ≤ ys.length * k := by rw [← Nat.succ_mul]; exact Nat.mul_le_mul_right k hy
        rw [if_pos (by omega), show q * k + i - j * k = (q - j) * k + i by omega]
        exact (flat_get Cl.len ys (q - j) x hq i hik).trans hu
      · rw [List.getElem?_append_right (by omega), List.getElem?_drop, show j + ys.length + (q - j - ys.length) = q by omega] at hq
        have e1 : (j + ys.length) * k ≤ q * k := Nat.mul_le_mul_right k (by omega)
        rw [Nat.add_mul] at e1
        rw [if_neg (by omega)]
        exact hcell q x hq i u hu
theorem BlkC.take {k : Nat} {t : TypeId} {g : Nat} {w : World} {es : List (Cl k)} (h : BlkC k t w g es) (n : Nat) : BlkC k t w g (es.take n) := by
  obtain ⟨cur, hg, hl, hcell⟩ := h
  refine ⟨cur, hg, Nat.le_trans (Nat.mul_le_mul_right k (by rw [List.length_take]; exact Nat.min_le_right _ _)) hl, fun j x hj => ?_⟩
  rw [List.getElem?_take] at hj
  split at hj
  · exact hcell j x hj
  · cases hj
/-- A copy of elements of k cells: all is read before anything is written. -/
theorem run_copy_cellsK {P : Program} (w : World) (dT sT ty elem : TypeId) (k b o dLen dCap : Nat) (a : Addr) (sLen sCap : Nat) (cs : List Value)
    (hu : P.underlying dT = some (.slice elem)) (hs : (P.info? elem).map (·.size) = some k) (hn : cs.length = Nat.min sLen dLen * k)
    (hsrc : ∀ j v, cs[j]? = some v → w.cell? (a.add j) = some v) (hc : ∀ j, j < cs.length → (w.cell? ⟨b, o + j, none⟩).isSome = true) (hf : ∀ j, j < cs.length → w.frozen? ⟨b, o + j, none⟩ = false) (h1 : ∀ v ∈ cs, v.oneCell' = true) :
    (Builtin.copy_ #[dT, sT] ty #[.slice (some ⟨b, o, none⟩) dLen dCap, .slice (some a) sLen sCap]).run P w = .ok (goInt (Nat.min sLen dLen)) (w.setCells b o cs) := by
  have hl := run_loadCells_list (P := P) w a cs hsrc
  have hst := run_storeCells_cells (P := P) b o cs 0 w (by simpa using hc) (by simpa using hf) h1
  cases hq : P.info? elem with
  | none => simp [hq] at hs
  | some i =>
    have hi : i.size = k := by simpa [hq] using hs
    simp [Builtin.copy_, run_underlying hu, Builtin.lenOf, Builtin.firstCells, sizeOf, typeInfo, hq, hi, ← hn, hl, hst]
/-- append to a row of the call's own: the row stays in its block or moves to a new one. -/
theorem run_append_own2 {P : Program} (w : World) (base : Nat) (t ty e : TypeId) {z : Value} {k bytes : Nat} (hE : ElemIs P t e z k bytes)
    (v : Value) (n : Nat) (xs : List Value) (hown : w.ownsRow base e k v n xs)
    (a : Addr) (m c : Nat) (news : List Value) (hl : news.length = m * k) (hnews : ∀ j u, news[j]? = some u → w.cell? (a.add j) = some u) (h1 : ∀ u ∈ news, u.oneCell' = true)
    (h63 : n + m ≤ maxLen) (hbytes : (n + m) * bytes ≤ 140737488355328) (hbase : base ≤ w.heap.size) (hm : 0 < m) :
    ∃ v' w', (Builtin.append_ #[t, t] ty #[v, .slice (some a) m c]).run P w = .ok v' w' ∧ w'.ownsRow base e k v' (n + m) (xs ++ news) ∧ w.grownBy w' v.ownBlock ∧ (v'.ownBlock = v.ownBlock ∨ v'.ownBlock = some w.heap.size) := by
  obtain ⟨ht, hzs, hsz, i, hi, hz, hsize, hby⟩ := hE
  obtain ⟨v', w', hr, h2, h3, _⟩ := run_append_own (P := P) w base t ty e i z k bytes ht hi hz hsize hby hzs hsz v n xs hown a m c news hl hnews h1 h63 hbytes hbase
  refine ⟨v', w', hr, h2, h3, ?_⟩
  have hsmall : n + m ≤ 9223372036854775807 := by simp only [maxLen] at h63; omega
  subst hsize
  subst hby
  rcases hown.2 with ⟨rfl, rfl⟩ | ⟨g, cap, cur, rfl, hbg, hg, hnc, hcm, hcs, htake⟩
  · have hq := run_append_nil (P := P) w t ty e i z ht hi hz a m c news hl hnews (by omega) (by omega) (by have hb := hbytes; simp only [Nat.zero_add] at hb; omega)
    rw [hq] at hr
    cases hr
    exact .inr rfl
  · by_cases hroom : n + m ≤ cap
    · have hfit : n * i.size + news.length ≤ cur.size := by rw [hl, hcs, ← Nat.add_mul]; exact Nat.mul_le_mul_right _ hroom
      have hq := run_append_room (P := P) w t ty e i ht hi g n cap cur hg a m c news hl hnews h1 hroom hfit
      rw [hq] at hr
      cases hr
      exact .inl rfl
    · have holds : ∀ j u, xs[j]? = some u → w.cell? ((⟨g, 0, none⟩ : Addr).add j) = some u := hown.cells (g := g) rfl
      have hq := run_append_grow (P := P) w t ty e i z ht hi hz ⟨g, 0, none⟩ n cap xs hown.1 holds a m c news hl hnews (by omega) (by omega) (growslice_fits (by omega) hbytes)
      rw [hq] at hr
      cases hr
      exact .inr rfl
theorem wpList_append_own2 {P : Program} {w : World} {ops : Array Oper} {rest : List Oper} {o : Oper} {a : Act} {Q : Exit → Act → World → Prop} (hgd : o.guard = none) (s x : Operand) (t : TypeId)
    (ho : o.op = .call { callee := .builtin .append, args := #[s, x], argTypes := #[t, t] })
    (base : Nat) {e : TypeId} {z : Value} {k bytes : Nat} (hE : ElemIs P t e z k bytes)
    (v : Value) (n : Nat) (xs : List Value) (hs : a.eval s = v) (hown : w.ownsRow base e k v n xs)
    (ad : Addr) (m c : Nat) (news : List Value) (hx : a.eval x = .slice (some ad) m c) (hl : news.length = m * k) (hnews : ∀ j u, news[j]? = some u → w.cell? (ad.add j) = some u) (h1 : ∀ u ∈ news, u.oneCell' = true)
    (h63 : n + m ≤ maxLen) (hbytes : (n + m) * bytes ≤ 140737488355328) (hbase : base ≤ w.heap.size) (hm : 0 < m)
    (h : ∀ v' w', w'.ownsRow base e k v' (n + m) (xs ++ news) → w.grownBy w' v.ownBlock → (v'.ownBlock = v.ownBlock ∨ v'.ownBlock = some w.heap.size) → wpList P ops Q rest (a.put o.dst v') w') :
    wpList P ops Q (o :: rest) a w := by
  refine wpList_plain hgd fun K hK => ?_
  obtain ⟨v', w', hr, h2, h3, h4⟩ := run_append_own2 w base t o.type e hE v n xs hown ad m c news hl hnews h1 h63 hbytes hbase hm
  exact Lib.wp_append_run w s x t t ho v _ hs hx v' w' hr (hK _ _ (h v' w' h2 h3 h4))
end Go.Proofs.Ytiebjkbofoppaaa
