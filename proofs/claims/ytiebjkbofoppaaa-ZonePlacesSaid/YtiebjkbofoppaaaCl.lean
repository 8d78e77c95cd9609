/- Elements as lists of cells: from the reading by shape to rows of cells and back; no program in sight. -/
import Derived.Test.YtiebjkbofoppaaaShp
namespace Cg
open Go Go.RowKit Go.Sort Go.Lib
/-- An element of k cells. -/
abbrev Cl (k : Nat) := {vs : List Value // vs.length = k ∧ ∀ u ∈ vs, u.oneCell' = true}
theorem Cl.len {k : Nat} (x : Cl k) : x.1.length = k := x.2.1
theorem Cl.one {k : Nat} (x : Cl k) : ∀ u ∈ x.1, u.oneCell' = true := x.2.2
abbrev RowC (k : Nat) (w : World) (v : Value) (es : List (Cl k)) := Cg.RowK k Subtype.val w v es
theorem RdC.one {F : Nat → Prop} {L : Nat} {w : World} {k : K} {v : Value} {d : D} (h : RdC F L w k v d) : v.oneCell' = true := by
  cases h with
  | @lit k v hl =>
    cases k <;> obtain ⟨n, rfl⟩ := hl <;> rfl
  | slNil => rfl
  | slSome => rfl
theorem RdL.one {F : Nat → Prop} {L : Nat} {w : World} : ∀ {ks : List K} {vs : List Value} {ds : List D}, RdL F L w ks vs ds → ∀ u ∈ vs, u.oneCell' = true
  | _, _, _, .nil, _, hu => by cases hu
  | _, _, _, .cons h1 h2, u, hu => by
    rcases List.mem_cons.1 hu with rfl | hu
    · exact h1.one
    · exact RdL.one h2 u hu
/-- Elements that read as trees. -/
structure Es {k : Nat} (F : Nat → Prop) (L : Nat) (w : World) (e : List K) (es : List (Cl k)) (xs : List (List D)) : Prop where
  len : es.length = xs.length
  at_ : ∀ (j : Nat) (vs : Cl k) (ds : List D), es[j]? = some vs → xs[j]? = some ds → RdL F L w e vs.1 ds
theorem Es.frame {F G : Nat → Prop} {L M : Nat} {w w' : World} (hLM : L ≤ M) (hs : w.heap.size ≤ w'.heap.size) (hb : ∀ b, F b → b < w.heap.size → w'.heap[b]? = w.heap[b]?) (hFG : ∀ b, F b → b < w.heap.size → G b) {k : Nat} {e : List K} {es : List (Cl k)} {xs : List (List D)} (h : Es F L w e es xs) : Es G M w' e es xs :=
  ⟨h.len, fun j vs ds h1 h2 => (h.at_ j vs ds h1 h2).frame hLM hs hb hFG⟩
theorem Es.old {F : Nat → Prop} {L : Nat} {w w' : World} {k : Nat} {e : List K} {es : List (Cl k)} {xs : List (List D)} (h : Es F L w e es xs) (hb : Below w.heap.size w w') : Es F L w' e es xs := h.frame (Nat.le_refl _) hb.size (fun b _ hlt => hb.block b hlt) (fun _ h _ => h)
theorem Es.get {F : Nat → Prop} {L : Nat} {w : World} {k : Nat} {e : List K} {es : List (Cl k)} {xs : List (List D)} (h : Es F L w e es xs) (j : Nat) (hj : j < es.length) (hx : j < xs.length) : RdL F L w e es[j].1 xs[j] := h.at_ j _ _ (List.getElem?_eq_getElem hj) (List.getElem?_eq_getElem hx)
theorem es_nil (k : Nat) (F : Nat → Prop) (L : Nat) (w : World) (e : List K) : Es (k := k) F L w e [] [] := ⟨rfl, fun j vs ds h => by simp at h⟩
theorem Es.set {F : Nat → Prop} {L : Nat} {w : World} {k : Nat} {e : List K} {es : List (Cl k)} {xs : List (List D)} (h : Es F L w e es xs) (i : Nat) (vs : Cl k) (ds : List D) (hd : RdL F L w e vs.1 ds) : Es F L w e (es.set i vs) (xs.set i ds) := by
  refine ⟨by rw [List.length_set, List.length_set, h.len], fun j vs' ds' h1 h2 => ?_⟩
  rw [List.getElem?_set] at h1 h2
  by_cases e1 : i = j
  · subst e1
    rw [if_pos rfl] at h1 h2
    split at h1
    · split at h2
      · cases h1; cases h2; exact hd
      · cases h2
    · cases h1
  · rw [if_neg e1] at h1 h2
    exact h.at_ j vs' ds' h1 h2
theorem Es.append {F : Nat → Prop} {L : Nat} {w : World} {k : Nat} {e : List K} {es es' : List (Cl k)} {xs xs' : List (List D)} (h : Es F L w e es xs) (h' : Es F L w e es' xs') : Es F L w e (es ++ es') (xs ++ xs') := by
  refine ⟨by rw [List.length_append, List.length_append, h.len, h'.len], fun j vs ds h1 h2 => ?_⟩
  by_cases hj : j < es.length
  · rw [List.getElem?_append_left hj] at h1
    rw [List.getElem?_append_left (by rw [← h.len]; exact hj)] at h2
    exact h.at_ j vs ds h1 h2
  · rw [List.getElem?_append_right (by omega)] at h1
    rw [List.getElem?_append_right (by rw [← h.len]; omega), ← h.len] at h2
    exact h'.at_ _ vs ds h1 h2
theorem Es.take {F : Nat → Prop} {L : Nat} {w : World} {k : Nat} {e : List K} {es : List (Cl k)} {xs : List (List D)} (h : Es F L w e es xs) (n : Nat) : Es F L w e (es.take n) (xs.take n) := by
  refine ⟨by rw [List.length_take, List.length_take, h.len], fun j vs ds h1 h2 => ?_⟩
  rw [List.getElem?_take] at h1 h2
  split at h1
  · rename_i hj
    rw [if_pos hj] at h2
    exact h.at_ j vs ds h1 h2
  · cases h1
theorem Es.drop {F : Nat → Prop} {L : Nat} {w : World} {k : Nat} {e : List K} {es : List (Cl k)} {xs : List (List D)} (h : Es F L w e es xs) (n : Nat) : Es F L w e (es.drop n) (xs.drop n) := by
  refine ⟨by rw [List.length_drop, List.length_drop, h.len], fun j vs ds h1 h2 => ?_⟩
  rw [List.getElem?_drop] at h1 h2
  exact h.at_ _ vs ds h1 h2
theorem RdE.raw {F : Nat → Prop} {L : Nat} {w : World} {e : List K} {b k : Nat} (hk : e.length = k) : ∀ {xs : List (List D)} {o : Nat}, RdE F L w e b o xs → ∃ es : List (Cl k), Es F L w e es xs ∧ ∀ (j : Nat) (vs : Cl k), es[j]? = some vs → ∀ (i : Nat) u, vs.1[i]? = some u → w.cell? ⟨b, o + j * k + i, none⟩ = some u
  | _, _, .nil => ⟨[], es_nil _ _ _ _ _, fun j vs h => by simp at h⟩
  | _, o, .cons (vs := vs) hc h1 h2 => by
    obtain ⟨es, h3, h4⟩ := RdE.raw hk h2
    have hl := h1.len.1
    rw [hk] at hl h4
    refine ⟨⟨vs, hl, h1.one⟩ :: es, ⟨by rw [List.length_cons, List.length_cons, h3.len], fun j vs' ds' e1 e2 => ?_⟩, fun j vs' e1 i u hu => ?_⟩
    · rcases j with _ | j
      · obtain rfl := Option.some.inj e1
        obtain rfl := Option.some.inj e2
        exact h1
      · exact h3.at_ j vs' ds' e1 e2
    · rcases j with _ | j
      · obtain rfl := Option.some.inj e1
        rw [Nat.zero_mul, Nat.add_zero]
        exact hc i u hu
      · have := h4 j vs' e1 i u hu
        rwa [show o + k + j * k + i = o + (j + 1) * k + i by rw [Nat.add_mul]; omega] at this
/-- A slice that reads as a tree, as a row of elements. -/
theorem RdC.row {F : Nat → Prop} {L : Nat} {w : World} {e : List K} {by_ : Nat} {v : Value} {xs : List (List D)} (h : RdC F L w (.sl e by_) v (.sl xs)) {k : Nat} (hk : e.length = k) : ∃ es : List (Cl k), RowC k w v es ∧ Es F L w e es xs ∧ xs.length * by_ ≤ L := by
  obtain ⟨ao, cap, rfl, hc, hby, hn, hx⟩ := h.form
  rcases hx with rfl | ⟨b, o, rfl, hF, hb, hE⟩
  · exact ⟨[], ⟨ao, cap, rfl, ⟨Nat.zero_le _, hn⟩, .inl rfl⟩, es_nil _ _ _ _ _, hby⟩
  · obtain ⟨es, h1, h2⟩ := hE.raw hk
    exact ⟨es, ⟨_, cap, by rw [h1.len], ⟨by rw [h1.len]; exact hc, fun h => by cases h⟩, .inr ⟨b, o, rfl, hb, h2⟩⟩, h1, hby⟩
/-- And back: F must hold of the block. -/
theorem rdC_of {F : Nat → Prop} {L : Nat} {w : World} {e : List K} {by_ k : Nat} (hk : e.length = k) {v : Value} {es : List (Cl k)} {xs : List (List D)} (h : RowC k w v es) (hE : Es F L w e es xs) (hby : xs.length * by_ ≤ L) (hF : ∀ b, v.ownBlock = some b → b < w.heap.size → F b) : RdC F L w (.sl e by_) v (.sl xs) := by
  obtain ⟨ao, cap, rfl, ⟨hc, hn⟩, hx⟩ := h
  rcases hx with rfl | ⟨b, o, rfl, hb, hcell⟩
  · have : xs = [] := List.eq_nil_of_length_eq_zero (by rw [← hE.len]; rfl)
    subst this
    exact .slNil hn
  · refine .slSome hE.len hc (by rw [hE.len]; exact hby) (hF b rfl hb) hb (RdE.mk xs o fun j ds hj => ?_)
    have hjl : j < es.length := by rw [hE.len]; exact (List.getElem?_eq_some_iff.1 hj).1
    rw [hk]
    exact ⟨es[j].1, hcell j _ (List.getElem?_eq_getElem hjl), hE.at_ j _ ds (List.getElem?_eq_getElem hjl) hj⟩
end Cg
