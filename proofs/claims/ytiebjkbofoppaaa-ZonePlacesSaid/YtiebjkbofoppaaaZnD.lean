/- Chapter 25: structs in boxes; copyPlayer. -/
import Derived.Test.YtiebjkbofoppaaaZnB
import Derived.Test.YtiebjkbofoppaaaZnC
namespace Go.Proofs.Ytiebjkbofoppaaa
open Go Go.RowKit Go.Sort Cg
/-- Block b holds the cells cs. -/
def Bx (w : World) (b : Nat) (t : TypeId) (cs : List Value) : Prop := w.heap[b]? = some (.cells cs.toArray t (0, 0))
theorem Bx.new (w : World) (cs : List Value) (t : TypeId) : Bx (w.alloc (.cells cs.toArray t)) w.heap.size t cs := heap_alloc_new w _
theorem Bx.lt {w : World} {b : Nat} {t : TypeId} {cs : List Value} (h : Bx w b t cs) : b < w.heap.size := (Array.getElem?_eq_some_iff.1 h).1
theorem Bx.old {w w' : World} {b : Nat} {t : TypeId} {cs : List Value} (h : Bx w b t cs) (hb : Below w.heap.size w w') : Bx w' b t cs := (hb.block b h.lt).trans h
theorem Bx.same {w w' : World} {b : Nat} {t : TypeId} {cs : List Value} (h : Bx w b t cs) (hb : w'.heap[b]? = w.heap[b]?) : Bx w' b t cs := hb.trans h
theorem Bx.cell {w : World} {b : Nat} {t : TypeId} {cs : List Value} (h : Bx w b t cs) (i : Nat) (u : Value) (hu : cs[i]? = some u) : w.cell? ⟨b, i, none⟩ = some u := by
  rw [cell_of_row _ _ i _ _ _ h, List.getElem?_toArray]
  exact hu
theorem Bx.frozen {w : World} {b : Nat} {t : TypeId} {cs : List Value} (h : Bx w b t cs) (i : Nat) : w.frozen? ⟨b, i, none⟩ = false := by
  unfold Bx at h
  simp [World.frozen?, h]
theorem Bx.range {w : World} {b : Nat} {t : TypeId} {cs : List Value} (h : Bx w b t cs) : w.rangeAt b 0 cs := fun j u hu => by
  rw [Nat.zero_add]
  exact h.cell j u hu
theorem Bx.part {w : World} {b : Nat} {t : TypeId} {cs : List Value} (h : Bx w b t cs) (o n : Nat) : w.rangeAt b o ((cs.drop o).take n) := fun j u hu => by
  refine h.cell (o + j) u ?_
  rw [List.getElem?_take] at hu
  split at hu
  · rwa [List.getElem?_drop] at hu
  · cases hu
theorem Bx.there {w : World} {b : Nat} {t : TypeId} {cs : List Value} (h : Bx w b t cs) : w.there b 0 cs.length := fun j hj => by
  rw [Nat.zero_add]
  exact ⟨by rw [h.cell j _ (List.getElem?_eq_getElem hj)]; rfl, h.frozen j⟩
theorem Bx.set {w : World} {b : Nat} {t : TypeId} {cs : List Value} (h : Bx w b t cs) (i : Nat) (u : Value) : Bx (w.setCell ⟨b, i, none⟩ u) b t (cs.set i u) := by
  unfold Bx at *
  simp only [World.setCell, Array.getElem?_modify]
  simp [h]
theorem Bx.other {w : World} {b b' : Nat} {t : TypeId} {cs : List Value} (h : Bx w b t cs) (i : Nat) (u : Value) (hne : b' ≠ b) : Bx (w.setCell ⟨b', i, none⟩ u) b t cs := by
  unfold Bx at *
  rw [Below.heap_setCell _ _ _ _ (fun e => hne e.symm)]
  exact h
theorem Bx.setAll {w : World} {b : Nat} {t : TypeId} {cs : List Value} (h : Bx w b t cs) (us : List Value) (hl : us.length = cs.length) : Bx (w.setCells b 0 us) b t us := by
  have key : ∀ (vs : List Value) (o : Nat) (w : World) (cs : List Value), Bx w b t cs → o + vs.length = cs.length → Bx (w.setCells b o vs) b t (cs.take o ++ vs) := by
    intro vs
    induction vs with
    | nil => intro o w cs h hl; rw [List.append_nil, List.take_of_length_le (by simp at hl; omega)]; exact h
    | cons v r ih =>
      intro o w cs h hl
      rw [List.length_cons] at hl
      have h1 := ih (o + 1) _ _ (h.set o v) (by rw [List.length_set]; omega)
      rw [List.take_succ_eq_append_getElem (by rw [List.length_set]; omega), List.take_set_of_le (Nat.le_refl o), List.getElem_set_self, List.append_assoc, List.singleton_append] at h1
      exact h1
  have := key us 0 w cs h (by omega)
  rwa [List.take_zero, List.nil_append] at this
theorem below_setCell {B : Nat} {w wr : World} (h : Below B w wr) (a : Addr) (ha : B ≤ a.block) (u : Value) : Below B w (wr.setCell a u) :=
  ⟨h.os, h.tape, h.output, by have := h.size; simpa [World.setCell] using this, fun k hk => (Below.heap_setCell wr a u k (by omega)).trans (h.block k hk)⟩
theorem below_set {B : Nat} {w w' : World} (h : Below B w w') (b i : Nat) (u : Value) (hb : B ≤ b) : Below B w (w'.setCell ⟨b, i, none⟩ u) := below_setCell h _ hb _
theorem below_sets {B : Nat} {w : World} : ∀ (us : List Value) (i : Nat) (w' : World), Below B w w' → ∀ b, B ≤ b → Below B w (w'.setCells b i us)
  | [], _, _, h, _, _ => h
  | _ :: r, i, _, h, b, hb => below_sets r (i + 1) _ (below_set h b i _ hb) b hb
theorem heap_sets (b : Nat) : ∀ (us : List Value) (o : Nat) (w : World) (k : Nat), k ≠ b → (w.setCells b o us).heap[k]? = w.heap[k]?
  | [], _, _, _, _ => rfl
  | u :: r, o, w, k, hk => (heap_sets b r (o + 1) _ k hk).trans (Below.heap_setCell w ⟨b, o, none⟩ u k hk)
/-- A struct's cells stored, as the walk meets it. -/
theorem store_cs (w : World) (b : Nat) (cs : List Value) (ht : w.there b 0 cs.length) (h1 : ∀ u ∈ cs, u.oneCell' = true) : (storeCells ⟨b, 0, none⟩ cs).run Try.prog w = .ok () (w.setCells b 0 cs) := by
  have := run_storeCells_cells (P := Try.prog) b 0 cs 0 w (fun j hj => (ht j hj).1) (fun j hj => (ht j hj).2) h1
  simpa using this
/-- The result out of a struct's variable. -/
theorem results_cs {fn : Func} {t : Tmp} {ty : TypeId} (hr : fn.results = #[.cell t ty]) {tmps : Array Value} {w : World} (b : Nat) (ht : tmps.getD t undef = .pointer (some ⟨b, 0, none⟩)) (cs : List Value) (d : TypeDesc) (hc : w.rangeAt b 0 cs) (hu : Try.prog.underlying ty = some d) (hd : d.isRow = true) (hi : (Try.prog.info? ty).map (·.size) = some cs.length) :
    (results fn tmps).run Try.prog w = .ok (.agg cs.toArray) w := by
  unfold results
  rw [hr]
  rw [Array.getD_eq_getD_getElem?] at ht
  simp [ht, asAddr, run_loadVar_mid w b 0 ty cs d hc hu hd hi]
theorem infoPlayer : (Try.prog.info? 59).map (·.size) = some 14 := by kernel_rfl
/-- A list of ints of the call's own. -/
def OwnI (B : Nat) (w : World) (v : Value) (xs : List (List D)) : Prop := ∃ es : List (Cl 1), w.ownsRow B 3 1 v es.length (es.flatMap Subtype.val) ∧ Es (fun _ => False) 0 w (kI 1) es xs
theorem flat_ints (n : Nat) : flatK (kI n) := fun _ hk => ⟨.int, List.eq_of_mem_replicate hk⟩
theorem es_any {F G : Nat → Prop} {L M : Nat} {w w' : World} {k : Nat} {e : List K} (hf : flatK e) {es : List (Cl k)} {xs : List (List D)} (h : Es F L w e es xs) : Es G M w' e es xs := ⟨h.len, fun j vs ds h1 h2 => (h.at_ j vs ds h1 h2).any hf⟩
theorem ownsRow_old {w w' : World} {B e size n : Nat} {v : Value} {xs : List Value} (h : w.ownsRow B e size v n xs) (hb : Below w.heap.size w w') : w'.ownsRow B e size v n xs := own_block h hb
theorem OwnI.old {B : Nat} {w w' : World} {v : Value} {xs : List (List D)} (h : OwnI B w v xs) (hb : Below w.heap.size w w') : OwnI B w' v xs := by
  obtain ⟨es, h1, h2⟩ := h
  exact ⟨es, own_block h1 hb, es_any (flat_ints 1) h2⟩
theorem OwnI.lt {B : Nat} {w : World} {v : Value} {xs : List (List D)} (h : OwnI B w v xs) (g : Nat) (hg : v.ownBlock = some g) : B ≤ g ∧ g < w.heap.size := by
  obtain ⟨es, h1, _⟩ := h
  exact h1.lt g hg
theorem OwnI.same {B : Nat} {w w' : World} {v : Value} {xs : List (List D)} (h : OwnI B w v xs) (hb : ∀ g, v.ownBlock = some g → w'.heap[g]? = w.heap[g]?) : OwnI B w' v xs := by
  obtain ⟨es, ⟨h1, h2⟩, h3⟩ := h
  refine ⟨es, ⟨h1, ?_⟩, es_any (flat_ints 1) h3⟩
  rcases h2 with hn | ⟨g, cap, cur, rfl, hg, hgg, rest⟩
  · exact .inl hn
  · exact .inr ⟨g, cap, cur, rfl, hg, by rw [hb g rfl]; exact hgg, rest⟩
theorem OwnI.form {B : Nat} {w : World} {v : Value} {xs : List (List D)} (h : OwnI B w v xs) : ∃ ao n c, v = .slice ao n c := by
  obtain ⟨es, h1, _⟩ := h
  rcases h1.2 with ⟨rfl, _⟩ | ⟨g, cap, cur, rfl, _⟩
  · exact ⟨_, _, _, rfl⟩
  · exact ⟨_, _, _, rfl⟩
/-- Two slices that share no block. -/
def Apart (v u : Value) : Prop := ∀ g, v.ownBlock = some g → u.ownBlock ≠ some g
theorem Apart.of {B : Nat} {w w' : World} {v u : Value} {xs ys : List (List D)} (h : OwnI B w v xs) (h' : OwnI w.heap.size w' u ys) : Apart v u := fun g hg hu => by
  have h1 := (h.lt g hg).2
  have h2 := (h'.lt g hu).1
  omega
theorem OwnI.low {B B' : Nat} {w : World} {v : Value} {xs : List (List D)} (h : OwnI B w v xs) (hb : B' ≤ B) : OwnI B' w v xs := by
  obtain ⟨es, h1, h2⟩ := h
  exact ⟨es, own_low h1 hb, h2⟩
theorem clone_own (F : Nat → Prop) (L : Nat) (v : Value) (xs : List (List D)) (w : World) (h : RdC F L w (.sl (kI 1) 8) v (.sl xs)) (hL : L ≤ 140737488355328) : Calls Try.prog 54 #[v] w fun e w' => ∃ v', e = .returned v' ∧ OwnI w.heap.size w' v' xs ∧ Below w.heap.size w w' := by
  obtain ⟨es, h1, h2, h3⟩ := h.row (k := 1) rfl
  refine (cloneint v es w h1 (by rw [h2.len]; omega)).mono ?_
  rintro e w' ⟨v', rfl, own, b⟩
  exact ⟨v', rfl, ⟨es, own, es_any (flat_ints 1) h2⟩, b⟩
/-- The lists of a player, owned. -/
structure OwnP (B : Nat) (w : World) (v1 v2 v3 : Value) (ds : List D) : Prop where
  o1 : OwnI B w v1 (dxs ds 11)
  o2 : OwnI B w v2 (dxs ds 12)
  o3 : OwnI B w v3 (dxs ds 13)
  a12 : Apart v1 v2
  a13 : Apart v1 v3
  a23 : Apart v2 v3
/-- One cell of a box written. -/
theorem box_store {w1 : World} {b : Nat} {t : TypeId} {cs : List Value} (X : Bx w1 b t cs) (i : Nat) (u : Value) : ∃ W, W = w1.setCell ⟨b, i, none⟩ u ∧ Bx W b t (cs.set i u) ∧ W.heap.size = w1.heap.size ∧ (∀ k, k ≠ b → W.heap[k]? = w1.heap[k]?) ∧ ∀ B w, B ≤ b → Below B w w1 → Below B w W :=
  ⟨_, rfl, X.set i u, by simp [World.setCell], fun k hk => Below.heap_setCell _ _ _ _ hk, fun B w hB hb => below_set hb _ _ _ hB⟩
end Go.Proofs.Ytiebjkbofoppaaa
