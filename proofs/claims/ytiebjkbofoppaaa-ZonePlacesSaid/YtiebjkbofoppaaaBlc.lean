/- Blocks of elements as lists of cells: parts of an element written; loops over elements. They hold for any program. -/
import Derived.Test.YtiebjkbofoppaaaCl
namespace Cg
open Go Go.RowKit Go.Sort Go.Lib
abbrev BlkC (k : Nat) (t : TypeId) (w : World) (g : Nat) (es : List (Cl k)) := BlkK k Subtype.val t w g es
theorem BlkC.setPart {k : Nat} {t : TypeId} {g : Nat} (j : Nat) : ∀ (us : List Value) (o : Nat) (w : World) (es : List (Cl k)) (vs : Cl k), BlkC k t w g es → es[j]? = some vs → o + us.length ≤ k → (∀ u ∈ us, u.oneCell' = true) → ∃ y : Cl k, y.1 = vs.1.take o ++ us ++ vs.1.drop (o + us.length) ∧ BlkC k t (w.setCells g (j * k + o) us) g (es.set j y)
  | [], o, w, es, vs, h, hj, _, _ => by
    refine ⟨vs, by simp, ?_⟩
    have e : es.set j vs = es := by
      apply List.ext_getElem?
      intro i
      by_cases hi : i = j
      · subst hi
        rw [List.getElem?_set_self (List.getElem?_eq_some_iff.1 hj).1, hj]
      · rw [List.getElem?_set_ne (fun e => hi e.symm)]
    rw [e]
    exact h
  | u :: r, o, w, es, vs, h, hj, hl, h1 => by
    rw [List.length_cons] at hl
    have hjl := (List.getElem?_eq_some_iff.1 hj).1
    have hvl := vs.len
    obtain ⟨y1, hy1⟩ : ∃ y1 : Cl k, y1.1 = vs.1.set o u := ⟨⟨vs.1.set o u, by rw [List.length_set]; exact hvl, fun x hx => by
      rcases List.mem_or_eq_of_mem_set hx with hx | rfl
      · exact vs.one x hx
      · exact h1 _ List.mem_cons_self⟩, rfl⟩
    have s1 := BlkK.setCell Cl.len h j vs hj o (by omega) u y1 (fun i => by
      show y1.1[i]? = _
      rw [hy1, List.getElem?_set]
      by_cases e : o = i
      · rw [if_pos e, if_pos (by omega), if_pos e.symm]
      · rw [if_neg e, if_neg (fun h => e h.symm)])
    obtain ⟨y, hy, hb⟩ := BlkC.setPart j r (o + 1) _ (es.set j y1) y1 s1 (List.getElem?_set_self hjl) (by omega) (fun x hx => h1 x (List.mem_cons_of_mem _ hx))
    refine ⟨y, ?_, ?_⟩
    · rw [hy, hy1, List.length_cons, List.drop_set_of_lt (by omega), List.take_succ_eq_append_getElem (by rw [List.length_set]; omega), List.take_set_of_le (Nat.le_refl o), List.getElem_set_self, show o + 1 + r.length = o + (r.length + 1) by omega]
      simp
    · rw [List.set_set] at hb
      exact hb
theorem RdL.put {F : Nat → Prop} {L : Nat} {w : World} {ks : List K} {vs : List Value} {ds : List D} (h : RdL F L w ks vs ds) (o n : Nat) {us : List Value} (hu : RdL F L w ((ks.drop o).take n) us ((ds.drop o).take n)) (hn : us.length = n) : RdL F L w ks (vs.take o ++ us ++ vs.drop (o + us.length)) ds := by
  have h3 := ((h.take o).append hu).append (h.drop (o + n))
  have ek : ks.take o ++ (ks.drop o).take n ++ ks.drop (o + n) = ks := by
    rw [← List.take_add, List.take_append_drop]
  have ed : ds.take o ++ (ds.drop o).take n ++ ds.drop (o + n) = ds := by
    rw [← List.take_add, List.take_append_drop]
  rw [ek, ed] at h3
  rw [hn]
  exact h3
/-- A loop over the elements of a block g: what the elements read does not lie in g. -/
structure Lp (G : Nat → Prop) (L k : Nat) (t : TypeId) (e : List K) (w : World) (g : Nat) (es : List (Cl k)) (xs : List (List D)) : Prop where
  blk : BlkC k t w g es
  es : Es G L w e es xs
  apart : ∀ b, G b → b ≠ g
theorem Lp.old {G : Nat → Prop} {L k : Nat} {t : TypeId} {e : List K} {w w' : World} {g : Nat} {es : List (Cl k)} {xs : List (List D)} (h : Lp G L k t e w g es xs) (hb : Below w.heap.size w w') : Lp G L k t e w' g es xs :=
  ⟨h.blk.same (hb.block g h.blk.lt), h.es.old hb, h.apart⟩
/-- A part of element j written anew; it reads as before. -/
theorem Lp.put {G : Nat → Prop} {L k : Nat} {t : TypeId} {e : List K} {w : World} {g : Nat} {es : List (Cl k)} {xs : List (List D)} (h : Lp G L k t e w g es xs) (j : Nat) (hj : j < es.length) (hx : j < xs.length) (o n : Nat) (us : List Value) (hu : RdL G L w ((e.drop o).take n) us ((xs[j].drop o).take n)) (hn : us.length = n) (ho : o + n ≤ k) : ∃ y : Cl k, y.1 = es[j].1.take o ++ us ++ es[j].1.drop (o + us.length) ∧ Lp G L k t e (w.setCells g (j * k + o) us) g (es.set j y) xs := by
  obtain ⟨y, hy, hb⟩ := BlkC.setPart (t := t) (g := g) j us o w es es[j] h.blk (List.getElem?_eq_getElem hj) (by rw [hn]; exact ho) hu.one
  have h1 := (h.es.get j hj hx).put o n hu hn
  rw [← hy] at h1
  have h2 := h.es.set j y xs[j] h1
  have ex : xs.set j xs[j] = xs := List.set_getElem_self hx
  rw [ex] at h2
  have hsz : ∀ (us : List Value) (i : Nat) (w : World), (w.setCells g i us).heap.size = w.heap.size := by
    intro us
    induction us with
    | nil => intro i w; rfl
    | cons u r ih => intro i w; rw [World.setCells, ih]; simp [World.setCell]
  have hot : ∀ (us : List Value) (i : Nat) (w : World) (b : Nat), b ≠ g → (w.setCells g i us).heap[b]? = w.heap[b]? := by
    intro us
    induction us with
    | nil => intro i w b _; rfl
    | cons u r ih => intro i w b hb; rw [World.setCells, ih _ _ b hb]; exact Below.heap_setCell w ⟨g, i, none⟩ u b hb
  exact ⟨y, hy, ⟨hb, h2.frame (Nat.le_refl _) (by rw [hsz]; exact Nat.le_refl _) (fun b hG _ => hot us _ w b (h.apart b hG)) (fun _ h _ => h), h.apart⟩⟩
/-- One cell. -/
theorem Lp.put1 {G : Nat → Prop} {L k : Nat} {t : TypeId} {e : List K} {w : World} {g : Nat} {es : List (Cl k)} {xs : List (List D)} (h : Lp G L k t e w g es xs) (hk : e.length = k) (j : Nat) (hj : j < es.length) (hx : j < xs.length) (o : Nat) (u : Value) (ek : K) (d : D) (he : e[o]? = some ek) (hd : xs[j][o]? = some d) (hu : RdC G L w ek u d) : ∃ y : Cl k, Lp G L k t e (w.setCell ⟨g, j * k + o, none⟩ u) g (es.set j y) xs := by
  have hol := (List.getElem?_eq_some_iff.1 he).1
  have h1 : (e.drop o).take 1 = [ek] := by
    rw [List.drop_eq_getElem_cons hol, (List.getElem?_eq_some_iff.1 he).2]
    rfl
  have hdl := (List.getElem?_eq_some_iff.1 hd).1
  have h2 : (xs[j].drop o).take 1 = [d] := by
    rw [List.drop_eq_getElem_cons hdl, (List.getElem?_eq_some_iff.1 hd).2]
    rfl
  obtain ⟨y, _, hy⟩ := h.put j hj hx o 1 [u] (by rw [h1, h2]; exact .cons hu .nil) rfl (by omega)
  exact ⟨y, hy⟩
end Cg
