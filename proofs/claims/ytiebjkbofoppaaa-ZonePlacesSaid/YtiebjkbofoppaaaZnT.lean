/- Chapter 25: what the loop of slices.DeleteFunc keeps (plain). -/
import Derived.Test.YtiebjkbofoppaaaZnS
namespace Go.Proofs.Ytiebjkbofoppaaa
open Go Go.RowKit Go.Sort Cg
theorem grown_sets {w : World} {g : Nat} : ∀ (vs : List Value) (oo : Nat) (w' : World), w.grownBy w' (some g) → w.grownBy (w'.setCells g oo vs) (some g)
  | [], _, _, h => h
  | _ :: r, oo, _, h => grown_sets r (oo + 1) _ ⟨h.os, h.tape, h.output, by have := h.size; simpa [World.setCell] using this, fun k hk hr => (Below.heap_setCell _ _ _ _ (fun e => hr (by rw [e]))).trans (h.block k hk hr)⟩
theorem grown_below {w w1 w2 : World} {r : Option Nat} (h : w.grownBy w1 r) (hb : Below w1.heap.size w1 w2) : w.grownBy w2 r :=
  ⟨hb.os.trans h.os, hb.tape.trans h.tape, hb.output.trans h.output, Nat.le_trans h.size hb.size, fun k hk hr => (hb.block k (Nat.lt_of_lt_of_le hk h.size)).trans (h.block k hk hr)⟩
theorem below_grown {w w' : World} {r : Option Nat} (hb : Below w.heap.size w w') : w.grownBy w' r := ⟨hb.os, hb.tape, hb.output, hb.size, fun k hk _ => hb.block k hk⟩
theorem BlkC.beyond {k : Nat} {t : TypeId} {g : Nat} {w : World} {es : List (Cl k)} {B cap : Nat} (h : BlkC k t w g es) (hd : HdC B t k w g cap) (o : Nat) (vs : List Value) (ho : es.length * k ≤ o) (hc : o + vs.length ≤ cap * k) : BlkC k t (w.setCells g o vs) g es := by
  obtain ⟨cur, hg, hl, hcell⟩ := h
  obtain ⟨_, _, cur0, hg0, hs0⟩ := hd
  rw [hg] at hg0
  obtain rfl : cur = cur0 := by simpa using hg0
  obtain ⟨cur', h1, h2, h3⟩ := setCells_arr vs o w cur hg (by rw [hs0]; exact hc)
  refine ⟨cur', h1, by rw [h2]; exact hl, fun q x hq i u hu => ?_⟩
  have hik : i < k := by have := (List.getElem?_eq_some_iff.1 hu).1; rwa [Cl.len] at this
  have hql := (List.getElem?_eq_some_iff.1 hq).1
  have : (q + 1) * k ≤ es.length * k := Nat.mul_le_mul_right k hql
  rw [Nat.add_mul] at this
  rw [h3, if_neg (by omega)]
  exact hcell q x hq i u hu
structure Df (k : Nat) (t : TypeId) (base g n c : Nat) (es : List (Cl k)) (q : Cl k → Bool) (w wr : World) (i j : Nat) : Prop where
  cur : ∃ cur : List (Cl k), BlkC k t wr g cur ∧ cur.length = n ∧ cur.take i = (es.take j).filter (fun x => !q x) ∧ cur.drop j = es.drop j
  hd : HdC base t k wr g c
  gr : w.grownBy wr (some g)
  len : es.length = n
  il : i = ((es.take j).filter (fun x => !q x)).length
  ij : i < j
  jn : j ≤ n
theorem Df.old {k : Nat} {t : TypeId} {base g n c : Nat} {es : List (Cl k)} {q : Cl k → Bool} {w wr wr' : World} {i j : Nat} (h : Df k t base g n c es q w wr i j) (hb : Below wr.heap.size wr wr') : Df k t base g n c es q w wr' i j := by
  obtain ⟨cur, h1, h2, h3, h4⟩ := h.cur
  exact ⟨⟨cur, h1.same (hb.block g h1.lt), h2, h3, h4⟩, h.hd.same (hb.block g h1.lt), grown_below h.gr hb, h.len, h.il, h.ij, h.jn⟩
theorem take_filter_succ {α : Type} (f : α → Bool) (es : List α) (j : Nat) (hj : j < es.length) : (es.take (j + 1)).filter f = (es.take j).filter f ++ if f es[j] then [es[j]] else [] := by
  rw [List.take_succ_eq_append_getElem hj, List.filter_append]
  congr 1
  by_cases h : f es[j] <;> simp [h]
theorem drop_succ_of {α : Type} {cur es : List α} {j : Nat} (h : cur.drop j = es.drop j) : cur.drop (j + 1) = es.drop (j + 1) := by
  rw [← List.drop_drop, h, List.drop_drop]
theorem Df.skip {k : Nat} {t : TypeId} {base g n c : Nat} {es : List (Cl k)} {q : Cl k → Bool} {w wr : World} {i j : Nat} (h : Df k t base g n c es q w wr i j) (hj : j < es.length) (hq : q es[j] = true) : Df k t base g n c es q w wr i (j + 1) := by
  obtain ⟨cur, h1, h2, h3, h4⟩ := h.cur
  have e : (es.take (j + 1)).filter (fun x => !q x) = (es.take j).filter (fun x => !q x) := by
    rw [take_filter_succ _ es j hj, hq]
    simp
  have := h.len
  exact ⟨⟨cur, h1, h2, by rw [e]; exact h3, drop_succ_of h4⟩, h.hd, h.gr, h.len, by rw [e]; exact h.il, Nat.lt_succ_of_lt h.ij, by omega⟩
theorem Df.keep {k : Nat} {t : TypeId} {base g n c : Nat} {es : List (Cl k)} {q : Cl k → Bool} {w wr : World} {i j : Nat} (h : Df k t base g n c es q w wr i j) (hj : j < es.length) (hq : q es[j] = false) : Df k t base g n c es q w (wr.setCells g (i * k) es[j].1) (i + 1) (j + 1) := by
  obtain ⟨cur, h1, h2, h3, h4⟩ := h.cur
  have hil := h.il
  have hij := h.ij
  have hjn := h.len
  have e : (es.take (j + 1)).filter (fun x => !q x) = (es.take j).filter (fun x => !q x) ++ [es[j]] := by
    rw [take_filter_succ _ es j hj, hq]
    simp
  refine ⟨⟨cur.set i es[j], BlkK.setCells Cl.len h1 i (by omega) _, by rw [List.length_set]; exact h2, ?_, ?_⟩, h.hd.sets _ _ _, grown_sets _ _ _ h.gr, h.len, by rw [e, List.length_append, ← hil]; rfl, by omega, by omega⟩
  · rw [e, List.take_succ_eq_append_getElem (by rw [List.length_set]; omega), List.take_set_of_le (Nat.le_refl i), List.getElem_set_self, h3]
  · rw [List.drop_set_of_lt (by omega)]
    exact drop_succ_of h4
theorem Df.rng {k : Nat} {t : TypeId} {base g n c : Nat} {es : List (Cl k)} {q : Cl k → Bool} {w wr : World} {i j : Nat} (h : Df k t base g n c es q w wr i j) (hj : j < es.length) : wr.rangeAt g (j * k) es[j].1 ∧ wr.there g (i * k) k ∧ g < wr.heap.size := by
  obtain ⟨cur, h1, h2, h3, h4⟩ := h.cur
  have hjn := h.len
  have hij := h.ij
  have hc : cur[j]? = some es[j] := by
    have := congrArg (·[0]?) h4
    simp only [List.getElem?_drop, Nat.add_zero] at this
    rw [this, List.getElem?_eq_getElem hj]
  have th := blk_there h1 i (by omega) es[j]
  exact ⟨fun i' u hu => h1.cell j _ hc i' u hu, fun i' hi' => th i' (by rw [Cl.len]; exact hi'), h1.lt⟩
theorem Df.fin {k : Nat} {t : TypeId} {base g n c : Nat} {es : List (Cl k)} {q : Cl k → Bool} {w wr : World} {i : Nat} (h : Df k t base g n c es q w wr i n) (vs : List Value) (hc : n ≤ c) (hv : vs.length = (n - i) * k) : (wr.setCells g (i * k) vs).ownsRow base t k (.slice (some ⟨g, 0, none⟩) i c) i ((es.filter (fun x => !q x)).flatMap Subtype.val) ∧ w.grownBy (wr.setCells g (i * k) vs) (some g) := by
  obtain ⟨cur, h1, h2, h3, h4⟩ := h.cur
  have hij := h.ij
  have hil := h.il
  rw [← h.len, List.take_length] at h3 hil
  have hl : (cur.take i).length = i := by rw [List.length_take, h2]; omega
  have hle : i * k + (n - i) * k ≤ c * k := by rw [← Nat.add_mul]; exact Nat.mul_le_mul_right k (by omega)
  have b := BlkC.beyond (BlkC.take h1 i) h.hd (i * k) vs (by rw [hl]; exact Nat.le_refl _) (by rw [hv]; exact hle)
  have := own_of b (h.hd.sets vs _ _) (by rw [hl]; omega)
  rw [hl, h3] at this
  exact ⟨this, grown_sets _ _ _ h.gr⟩
theorem Df.start {k : Nat} {t : TypeId} {base g n c : Nat} {es : List (Cl k)} {q : Cl k → Bool} {w wr : World} {i : Nat} (hb : BlkC k t wr g es) (hd : HdC base t k wr g c) (hl : es.length = n) (hg : w.grownBy wr (some g)) (hi : i < es.length) (hqi : q es[i] = true) (hlt : ∀ j (h : j < es.length), j < i → q es[j] = false) : Df k t base g n c es q w wr i (i + 1) := by
  have e0 : (es.take i).filter (fun x => !q x) = es.take i := by
    rw [List.filter_eq_self]
    intro x hx
    obtain ⟨j, hj, rfl⟩ := List.getElem_of_mem hx
    rw [List.length_take] at hj
    rw [List.getElem_take, hlt j (by omega) (by omega)]
    rfl
  have e : (es.take (i + 1)).filter (fun x => !q x) = es.take i := by
    rw [take_filter_succ _ es i hi, hqi, e0]
    simp
  exact ⟨⟨es, hb, hl, by rw [e], rfl⟩, hd, hg, hl, by rw [e, List.length_take]; omega, Nat.lt_succ_self _, by omega⟩
/-- The first index, at raw elements. -/
theorem fidx_es {k : Nat} {F : Nat → Prop} {L : Nat} {w : World} {e : List K} {es : List (Cl k)} {xs : List (List D)} (h : Es F L w e es xs) (p : List D → Bool) (q : Cl k → Bool) (hpq : ∀ (j : Nat) (x : Cl k) (d : List D), es[j]? = some x → xs[j]? = some d → q x = p d) :
    (fidx p xs = -1 ∧ es.filter (fun x => !q x) = es) ∨ ∃ i : Nat, fidx p xs = i ∧ ∃ hi : i < es.length, q es[i] = true ∧ ∀ j (h : j < es.length), j < i → q es[j] = false := by
  have at_ : ∀ j (h1 : j < es.length) (h2 : j < xs.length), q es[j] = p xs[j] := fun j h1 h2 => hpq j _ _ (List.getElem?_eq_getElem h1) (List.getElem?_eq_getElem h2)
  have hlen := h.len
  unfold fidx
  cases hf : xs.findIdx? p with
  | none =>
    refine .inl ⟨rfl, ?_⟩
    rw [List.filter_eq_self]
    intro x hx
    obtain ⟨j, hj, rfl⟩ := List.getElem_of_mem hx
    have := List.findIdx?_eq_none_iff.1 hf xs[j] (List.getElem_mem (by omega))
    rw [at_ j hj (by omega), this]
    rfl
  | some i =>
    obtain ⟨h1, h2, h3⟩ := List.findIdx?_eq_some_iff_getElem.1 hf
    refine .inr ⟨i, rfl, by omega, by rw [at_ i (by omega) h1]; exact h2, fun j hj hji => ?_⟩
    have := h3 j hji
    rw [at_ j hj (by omega)]
    simpa using this
theorem Es.filter {k : Nat} {F : Nat → Prop} {L : Nat} {w : World} {e : List K} (p : List D → Bool) (q : Cl k → Bool) : ∀ {es : List (Cl k)} {xs : List (List D)}, Es F L w e es xs → (∀ (j : Nat) (x : Cl k) (d : List D), es[j]? = some x → xs[j]? = some d → q x = p d) → Es F L w e (es.filter q) (xs.filter p)
  | [], [], _, _ => es_nil _ _ _ _ _
  | [], _ :: _, h, _ => by have := h.len; simp at this
  | _ :: _, [], h, _ => by have := h.len; simp at this
  | x :: es, d :: xs, h, hq => by
    have ih := Es.filter p q (es := es) (xs := xs) ⟨by have := h.len; simpa using this, fun j vs ds h1 h2 => h.at_ (j + 1) vs ds h1 h2⟩ (fun j x d h1 h2 => hq (j + 1) x d h1 h2)
    have h0 := hq 0 x d rfl rfl
    by_cases hp : p d = true
    · rw [List.filter_cons_of_pos (by rw [h0]; exact hp), List.filter_cons_of_pos hp]
      refine ⟨by simp [ih.len], fun j vs ds h1 h2 => ?_⟩
      rcases j with _ | j
      · obtain rfl := Option.some.inj h1
        obtain rfl := Option.some.inj h2
        exact h.at_ 0 _ _ rfl rfl
      · exact ih.at_ j vs ds h1 h2
    · rw [List.filter_cons_of_neg (by rw [h0]; exact hp), List.filter_cons_of_neg hp]
      exact ih
theorem zeroCells_one (z : Array Value) (h : z.all (·.oneCell') = true) (n : Nat) : ∀ u ∈ (Builtin.zeroCells z n).toList, u.oneCell' = true := by
  intro u hu
  rw [Array.all_eq_true] at h
  simp only [Builtin.zeroCells, Array.toList_map, List.mem_map, Array.toList_range, List.mem_range] at hu
  obtain ⟨i, hi, rfl⟩ := hu
  have hz : 0 < z.size := Nat.pos_of_ne_zero (fun e => by rw [e, Nat.mul_zero] at hi; omega)
  have := h (i % z.size) (Nat.mod_lt _ hz)
  rw [getElem!_pos z (i % z.size) (Nat.mod_lt _ hz)]
  exact this
end Go.Proofs.Ytiebjkbofoppaaa
