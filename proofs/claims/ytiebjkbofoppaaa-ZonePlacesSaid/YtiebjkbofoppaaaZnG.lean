/- Chapter 25: what a state copied holds: who owns what. -/
import Derived.Test.YtiebjkbofoppaaaZnE
import Derived.Test.YtiebjkbofoppaaaZnF
namespace Go.Proofs.Ytiebjkbofoppaaa
open Go Go.RowKit Go.Sort Cg
/-- Blocks below m are as they were, but for the box B. -/
def Kp (B m : Nat) (w w' : World) : Prop := w.heap.size ≤ w'.heap.size ∧ ∀ b, b < m → b ≠ B → w'.heap[b]? = w.heap[b]?
theorem Kp.refl (B m : Nat) (w : World) : Kp B m w w := ⟨Nat.le_refl _, fun _ _ _ => rfl⟩
theorem Kp.trans {B m : Nat} {a b c : World} (h : Kp B m a b) (k : Kp B m b c) : Kp B m a c := ⟨Nat.le_trans h.1 k.1, fun x hx hn => (k.2 x hx hn).trans (h.2 x hx hn)⟩
theorem Kp.mono {B m m' : Nat} {a b : World} (h : Kp B m' a b) (hm : m ≤ m') : Kp B m a b := ⟨h.1, fun x hx hn => h.2 x (Nat.lt_of_lt_of_le hx hm) hn⟩
theorem Kp.of {B : Nat} {a b : World} (h : Below a.heap.size a b) : Kp B a.heap.size a b := ⟨h.size, fun x hx _ => h.block x hx⟩
theorem Kp.chain {B : Nat} {a b c : World} (h : Kp B a.heap.size a b) (k : Kp B b.heap.size b c) : Kp B a.heap.size a c := h.trans (k.mono h.1)
/-- The box of the state and the result's variable, in the middle of a copy. -/
structure Stg (w W : World) (cs zs : List Value) : Prop where
  box : Bx W w.heap.size 30 cs
  res : Bx W (w.heap.size + 1) 30 zs
  bel : Below w.heap.size w W
  siz : w.heap.size + 2 ≤ W.heap.size
theorem Stg.old {w W W' : World} {cs zs : List Value} (h : Stg w W cs zs) (hb : Below W.heap.size W W') : Stg w W' cs zs := ⟨h.box.old hb, h.res.old hb, h.bel.trans (hb.mono h.bel.size), Nat.le_trans h.siz hb.size⟩
theorem Stg.store {w W w' : World} {cs zs : List Value} (h : Stg w W cs zs) (hb : Below W.heap.size W w') (c : Nat) (v : Value) : ∃ W', W' = w'.setCell ⟨w.heap.size, c, none⟩ v ∧ Stg w W' (cs.set c v) zs ∧ Kp w.heap.size W.heap.size W W' ∧ W'.heap.size = w'.heap.size ∧ ∀ b, b ≠ w.heap.size → W'.heap[b]? = w'.heap[b]? := by
  have h' := h.old hb
  obtain ⟨W', e, x, sz, sm, bl⟩ := box_store h'.box c v
  exact ⟨W', e, ⟨x, h'.res.same (sm _ (by omega)), bl _ w (Nat.le_refl _) h'.bel, by rw [sz]; exact h'.siz⟩, ⟨by rw [sz]; exact hb.size, fun b h1 h2 => (sm b h2).trans (hb.block b h1)⟩, sz, sm⟩
/-- A store into a block that is neither the box nor the result's variable. -/
theorem Stg.far {w W W' : World} {cs zs : List Value} (h : Stg w W cs zs) (hs : W'.heap.size = W.heap.size) (hb : Below w.heap.size w W') (h1 : W'.heap[w.heap.size]? = W.heap[w.heap.size]?) (h2 : W'.heap[w.heap.size + 1]? = W.heap[w.heap.size + 1]?) : Stg w W' cs zs := ⟨h.box.same h1, h.res.same h2, hb, by rw [hs]; exact h.siz⟩
/-- Ints of the call's own, in blocks from lo on and below hi. -/
def OwnIn (lo hi : Nat) (w : World) (v : Value) (xs : List (List D)) : Prop := OwnI lo w v xs ∧ ∀ g, v.ownBlock = some g → g < hi
theorem OwnIn.kp {B lo hi : Nat} {w w' : World} {v : Value} {xs : List (List D)} (h : OwnIn lo hi w v xs) (hk : Kp B hi w w') (hB : B < lo) : OwnIn lo hi w' v xs :=
  ⟨OwnI.same h.1 (fun g hg => hk.2 g (h.2 g hg) (by have := (h.1.lt g hg).1; omega)), h.2⟩
/-- Flat elements of the call's own. -/
def OwnE (k : Nat) (t : TypeId) (e : List K) (lo hi : Nat) (w : World) (v : Value) (xs : List (List D)) : Prop := ∃ es : List (Cl k), w.ownsRow lo t k v es.length (es.flatMap Subtype.val) ∧ Es (fun _ => False) 0 w e es xs ∧ ∀ g, v.ownBlock = some g → g < hi
theorem OwnE.kp {k : Nat} {t : TypeId} {e : List K} {B lo hi : Nat} {w w' : World} {v : Value} {xs : List (List D)} (h : OwnE k t e lo hi w v xs) (hf : flatK e) (hk : Kp B hi w w') (hB : B < lo) : OwnE k t e lo hi w' v xs := by
  obtain ⟨es, h1, h2, h3⟩ := h
  exact ⟨es, ownsRow_same h1 (fun g hg => hk.2 g (h3 g hg) (by have := (h1.lt g hg).1; omega)), es_any hf h2, h3⟩
/-- Where what is only read may lie: in old memory, or in new blocks from lo on, but not in block g. -/
def Ft (F : Nat → Prop) (B lo : Nat) (g : Option Nat) (b : Nat) : Prop := (F b ∧ b < B) ∨ (lo ≤ b ∧ g ≠ some b)
/-- Elements that hold slices: the block is the call's own, the rest is only read. -/
def OwnX (k : Nat) (t : TypeId) (e : List K) (F : Nat → Prop) (L B lo hi : Nat) (w : World) (v : Value) (xs : List (List D)) : Prop := ∃ es : List (Cl k), w.ownsRow lo t k v es.length (es.flatMap Subtype.val) ∧ Es (Ft F B lo v.ownBlock) L w e es xs ∧ (∀ g, v.ownBlock = some g → g < hi) ∧ hi ≤ w.heap.size
/-- The size of a row's block. -/
def HdC (B : Nat) (t : TypeId) (k : Nat) (w : World) (g cap : Nat) : Prop := B ≤ g ∧ cap ≤ maxLen ∧ ∃ cur, w.heap[g]? = some (.cells cur t (0, 0)) ∧ cur.size = cap * k
theorem HdC.same {B : Nat} {t : TypeId} {k : Nat} {w w' : World} {g cap : Nat} (h : HdC B t k w g cap) (hb : w'.heap[g]? = w.heap[g]?) : HdC B t k w' g cap := by
  obtain ⟨h1, h2, cur, h3, h4⟩ := h
  exact ⟨h1, h2, cur, hb.trans h3, h4⟩
theorem HdC.set {B : Nat} {t : TypeId} {k : Nat} {w : World} {g cap : Nat} (h : HdC B t k w g cap) (o : Nat) (u : Value) : HdC B t k (w.setCell ⟨g, o, none⟩ u) g cap := by
  obtain ⟨h1, h2, cur, h3, h4⟩ := h
  refine ⟨h1, h2, cur.setIfInBounds o u, ?_, by rw [Array.size_setIfInBounds]; exact h4⟩
  simp only [World.setCell, Array.getElem?_modify]
  simp [h3]
theorem HdC.sets {B : Nat} {t : TypeId} {k g cap : Nat} : ∀ (us : List Value) (o : Nat) (w : World), HdC B t k w g cap → HdC B t k (w.setCells g o us) g cap
  | [], _, _, h => h
  | u :: r, o, _, h => HdC.sets r (o + 1) _ (h.set o u)
theorem hdC_of {B : Nat} {t : TypeId} {k n g cap : Nat} {w : World} {xs : List Value} (h : w.ownsRow B t k (.slice (some ⟨g, 0, none⟩) n cap) n xs) : HdC B t k w g cap := by
  rcases h.2 with ⟨hv, _⟩ | ⟨g', cap', cur, hv, hB, hg, hc, hm, hs, ht⟩
  · cases hv
  · simp only [Value.slice.injEq, Option.some.injEq, Addr.mk.injEq] at hv
    obtain ⟨⟨rfl, _⟩, _, rfl⟩ := hv
    exact ⟨hB, hm, cur, hg, hs⟩
theorem own_of {B : Nat} {t : TypeId} {k g cap : Nat} {w : World} {es : List (Cl k)} (h : BlkC k t w g es) (hh : HdC B t k w g cap) (hc : es.length ≤ cap) : w.ownsRow B t k (.slice (some ⟨g, 0, none⟩) es.length cap) es.length (es.flatMap Subtype.val) := by
  obtain ⟨h1, h2, cur, h3, h4⟩ := hh
  obtain ⟨cur', h5, h6, h7⟩ := h
  rw [h3] at h5
  obtain rfl : cur = cur' := by simpa using h5
  refine ⟨flat_len Cl.len es, .inr ⟨g, cap, cur, rfl, h1, h3, hc, h2, h4, ?_⟩⟩
  apply List.ext_getElem?
  intro i
  rw [List.getElem?_take]
  by_cases hi : i < es.length * k
  · rw [if_pos hi]
    have hk : 0 < k := Nat.pos_of_ne_zero (fun e => by have h0 : es.length * k = 0 := Nat.mul_eq_zero.2 (.inr e); omega)
    have hq : i / k < es.length := Nat.div_lt_of_lt_mul (by rw [Nat.mul_comm]; exact hi)
    have hm : i % k < k := Nat.mod_lt _ hk
    have hij : i = i / k * k + i % k := by rw [Nat.mul_comm]; exact (Nat.div_add_mod i k).symm
    have hg := flat_get (enc := Subtype.val) Cl.len es (i / k) _ (List.getElem?_eq_getElem hq) (i % k) hm
    have hu : (es[i / k].1)[i % k]? = some ((es[i / k].1)[i % k]'(by rw [Cl.len]; exact hm)) := List.getElem?_eq_getElem _
    have := h7 (i / k) _ (List.getElem?_eq_getElem hq) (i % k) _ hu
    rw [← hij] at this hg
    rw [hg, hu, ← this, Array.getElem?_toList]
  · rw [if_neg hi, List.getElem?_eq_none (by rw [flat_len Cl.len]; omega)]
/-- What a loop over the elements of a new block keeps. -/
structure LpI (F : Nat → Prop) (L B k : Nat) (t : TypeId) (e : List K) (W wr : World) (g n cap : Nat) (xs : List (List D)) : Prop where
  kp : Kp B W.heap.size W wr
  lp : n = 0 ∨ (n ≤ cap ∧ HdC W.heap.size t k wr g cap ∧ ∃ es : List (Cl k), es.length = n ∧ Lp (Ft F B W.heap.size (some g)) L k t e wr g es xs)
theorem LpI.old {F : Nat → Prop} {L B k : Nat} {t : TypeId} {e : List K} {W wr wr' : World} {g n cap : Nat} {xs : List (List D)} (h : LpI F L B k t e W wr g n cap xs) (hb : Below wr.heap.size wr wr') : LpI F L B k t e W wr' g n cap xs := by
  refine ⟨h.kp.trans ((Kp.of hb).mono h.kp.1), ?_⟩
  rcases h.lp with h | ⟨h1, h2, es, h3, h4⟩
  · exact .inl h
  · exact .inr ⟨h1, h2.same (hb.block g h4.blk.lt), es, h3, h4.old hb⟩
/-- n cells of element j, from cell o on. -/
structure PartAt (G : Nat → Prop) (L k : Nat) (e : List K) (w : World) (g : Nat) (xs : List (List D)) (j o n : Nat) (vs : List Value) (ds : List D) : Prop where
  rng : w.rangeAt g (j * k + o) vs
  len : vs.length = n
  rd : RdL G L w ((e.drop o).take n) vs ds
  glt : g < w.heap.size
  ds : ∃ x, xs[j]? = some x ∧ ds = (x.drop o).take n
theorem Lp.part {G : Nat → Prop} {L k : Nat} {t : TypeId} {e : List K} {w : World} {g : Nat} {es : List (Cl k)} {xs : List (List D)} (h : Lp G L k t e w g es xs) (j : Nat) (hj : j < es.length) (o n : Nat) (ho : o + n ≤ k) : ∃ vs ds, PartAt G L k e w g xs j o n vs ds := by
  have hx : j < xs.length := by rw [← h.es.len]; exact hj
  have hr := h.es.get j hj hx
  refine ⟨(es[j].1.drop o).take n, _, ?_, by rw [List.length_take, List.length_drop, Cl.len]; omega, (hr.drop o).take n, h.blk.lt, _, List.getElem?_eq_getElem hx, rfl⟩
  intro i u hu
  rw [List.getElem?_take] at hu
  split at hu
  · rw [List.getElem?_drop] at hu
    have := h.blk.cell j _ (List.getElem?_eq_getElem hj) (o + i) u hu
    rwa [← Nat.add_assoc] at this
  · cases hu
theorem Lp.there {G : Nat → Prop} {L k : Nat} {t : TypeId} {e : List K} {w : World} {g : Nat} {es : List (Cl k)} {xs : List (List D)} (h : Lp G L k t e w g es xs) (j : Nat) (hj : j < es.length) (o n : Nat) (ho : o + n ≤ k) : w.there g (j * k + o) n := fun i hi => by
  have hc := h.blk.cell j _ (List.getElem?_eq_getElem hj) (o + i) _ (List.getElem?_eq_getElem (show o + i < es[j].1.length by rw [Cl.len]; omega))
  rw [← Nat.add_assoc] at hc
  exact ⟨by rw [hc]; rfl, h.blk.frozen _⟩
theorem LpI.part {F : Nat → Prop} {L B k : Nat} {t : TypeId} {e : List K} {W wr : World} {g n cap : Nat} {xs : List (List D)} (h : LpI F L B k t e W wr g n cap xs) (j : Nat) (hj : j < n) (o m : Nat) (ho : o + m ≤ k) : (∃ vs ds, PartAt (Ft F B W.heap.size (some g)) L k e wr g xs j o m vs ds) ∧ wr.there g (j * k + o) m ∧ W.heap.size ≤ g := by
  rcases h.lp with h | ⟨h1, h2, es, h3, h4⟩
  · omega
  · exact ⟨Lp.part h4 j (by rw [h3]; exact hj) o m ho, Lp.there h4 j (by rw [h3]; exact hj) o m ho, h2.1⟩
theorem PartAt.one {G : Nat → Prop} {L k : Nat} {e : List K} {w : World} {g : Nat} {xs : List (List D)} {j o : Nat} {vs : List Value} {ds : List D} (h : PartAt G L k e w g xs j o 1 vs ds) {e' : List K} {by_ : Nat} (he : (e.drop o).take 1 = [.sl e' by_]) : ∃ m ms, vs = [m] ∧ ds = [.sl ms] ∧ RdC G L w (.sl e' by_) m (.sl ms) ∧ w.cell? ⟨g, j * k + o, none⟩ = some m := by
  have hr := h.rd
  have hg := h.rng
  rw [he] at hr
  match vs, ds, hr with
  | [m], [d], .cons h1 .nil =>
    have : ∃ ms, d = .sl ms := by cases h1 <;> exact ⟨_, rfl⟩
    obtain ⟨ms, rfl⟩ := this
    exact ⟨m, ms, rfl, rfl, h1, hg 0 m rfl⟩
/-- m cells of element j written anew; they read as before. -/
theorem LpI.put {F : Nat → Prop} {L B k : Nat} {t : TypeId} {e : List K} {W wr w' : World} {g n cap : Nat} {xs : List (List D)} {j o m : Nat} {vs : List Value} {ds : List D} (h : LpI F L B k t e W wr g n cap xs) (hj : j < n) (hp : PartAt (Ft F B W.heap.size (some g)) L k e wr g xs j o m vs ds) (hb : Below wr.heap.size wr w') (us : List Value) (hu : RdL (Ft F B W.heap.size (some g)) L w' ((e.drop o).take m) us ds) (hm : us.length = m) (ho : o + m ≤ k) : LpI F L B k t e W (w'.setCells g (j * k + o) us) g n cap xs := by
  have h' := h.old hb
  rcases h'.lp with h0 | ⟨h1, h2, es, h3, h4⟩
  · omega
  · obtain ⟨x, hx, rfl⟩ := hp.ds
    have hxl := (List.getElem?_eq_some_iff.1 hx).1
    rw [← (List.getElem?_eq_some_iff.1 hx).2] at hu
    obtain ⟨y, _, hy⟩ := h4.put j (by rw [h3]; exact hj) hxl o m us hu hm ho
    exact ⟨h'.kp.trans ⟨by rw [sets_size]; exact Nat.le_refl _, fun b hlt _ => heap_sets _ _ _ _ b (by have := h2.1; omega)⟩, .inr ⟨h1, h2.sets us _ _, es.set j y, by rw [List.length_set]; exact h3, hy⟩⟩
theorem ownX_of {F : Nat → Prop} {L B k : Nat} {t : TypeId} {e : List K} {W Ws wr : World} {g n cap : Nat} {p : Option Addr} {xs : List (List D)} {fs : List Value} (h : LpI F L B k t e W wr g n cap xs) (hg : n = 0 ∨ p = some ⟨g, 0, none⟩) (ho : Ws.ownsRow W.heap.size t k (.slice p n cap) n fs) (hx : xs.length = n) (hle : n = 0 → Ws.heap.size ≤ wr.heap.size) (hsame : n = 0 → ∀ b, W.heap.size ≤ b → b < Ws.heap.size → wr.heap[b]? = Ws.heap[b]?) : OwnX k t e F L B W.heap.size wr.heap.size wr (.slice p n cap) xs := by
  rcases h.lp with h0 | ⟨h1, h2, es, h3, h4⟩
  · subst h0
    obtain rfl : xs = [] := List.eq_nil_of_length_eq_zero hx
    have hf : fs = [] := List.eq_nil_of_length_eq_zero (by rw [ho.1]; simp)
    subst hf
    exact ⟨[], ownsRow_same ho (fun g hg => hsame rfl g (ho.lt g hg).1 (ho.lt g hg).2), es_nil _ _ _ _ _, fun g hg => Nat.lt_of_lt_of_le (ho.lt g hg).2 (hle rfl), Nat.le_refl _⟩
  · rcases hg with rfl | rfl
    · obtain rfl : xs = [] := List.eq_nil_of_length_eq_zero hx
      obtain rfl : es = [] := List.eq_nil_of_length_eq_zero h3
      rcases ho.2 with ⟨hv, _⟩ | ⟨g', cap', cur, hv, hB, hgg, _⟩
      · rw [hv]; exact ⟨[], World.ownsRow_nil _ _ _ _, es_nil _ _ _ _ _, (fun g hg => by cases hg), Nat.le_refl _⟩
      · exact ⟨[], ownsRow_same (by have := ho.1; rw [Nat.zero_mul] at this; rw [List.eq_nil_of_length_eq_zero this] at ho; exact ho) (fun g hg => hsame rfl g (ho.lt g hg).1 (ho.lt g hg).2), es_nil _ _ _ _ _, fun g hg => Nat.lt_of_lt_of_le (ho.lt g hg).2 (hle rfl), Nat.le_refl _⟩
    · subst h3
      exact ⟨es, own_of h4.blk h2 h1, h4.es, (fun g' hg => by cases hg; exact h4.blk.lt), Nat.le_refl _⟩
theorem OwnX.kp {k : Nat} {t : TypeId} {e : List K} {F : Nat → Prop} {L B B' lo hi : Nat} {w w' : World} {v : Value} {xs : List (List D)} (h : OwnX k t e F L B lo hi w v xs) (hk : Kp B' w.heap.size w w') (hB0 : B ≤ B') (hB : B' < lo) : OwnX k t e F L B lo hi w' v xs := by
  obtain ⟨es, h1, h2, h3, h4⟩ := h
  refine ⟨es, ownsRow_same h1 (fun g hg => hk.2 g (h1.lt g hg).2 (by have := (h1.lt g hg).1; omega)), h2.frame (Nat.le_refl _) hk.1 (fun b hb hlt => hk.2 b hlt (by rcases hb with hb | hb <;> omega)) (fun _ h _ => h), h3, Nat.le_trans h4 hk.1⟩
/-- A player whose lists are the call's own, in blocks from lo on and below hi. -/
structure PlEl (L lo hi : Nat) (w : World) (vs : List Value) (ds : List D) : Prop where
  own : ∃ v1 v2 v3, vs[11]? = some v1 ∧ vs[12]? = some v2 ∧ vs[13]? = some v3 ∧ OwnIn lo hi w v1 (dxs ds 11) ∧ OwnIn lo hi w v2 (dxs ds 12) ∧ OwnIn lo hi w v3 (dxs ds 13) ∧ Apart v1 v2 ∧ Apart v1 v3 ∧ Apart v2 v3
  rd : RdL (fun b => lo ≤ b ∧ b < hi) L w kPlayer vs ds
theorem PlEl.kp {L B lo hi : Nat} {w w' : World} {vs : List Value} {ds : List D} (h : PlEl L lo hi w vs ds) (hk : Kp B hi w w') (hB : B < lo) : PlEl L lo hi w' vs ds := by
  obtain ⟨⟨v1, v2, v3, e1, e2, e3, o1, o2, o3, a⟩, r⟩ := h
  exact ⟨⟨v1, v2, v3, e1, e2, e3, o1.kp hk hB, o2.kp hk hB, o3.kp hk hB, a⟩, r.frame (Nat.le_refl _) hk.1 (fun b hb _ => hk.2 b hb.2 (by omega)) (fun _ h _ => h)⟩
theorem set_same {α : Type} (l : List α) (i : Nat) (x : α) (h : l[i]? = some x) : l.set i x = l := by
  apply List.ext_getElem?
  intro j
  by_cases hj : j = i
  · subst hj
    rw [List.getElem?_set_self (List.getElem?_eq_some_iff.1 h).1, h]
  · rw [List.getElem?_set_ne (fun e => hj e.symm)]
theorem OwnI.rd {B : Nat} {w : World} {v : Value} {xs : List (List D)} (h : OwnI B w v xs) (G : Nat → Prop) (L : Nat) (hby : xs.length * 8 ≤ L) (hG : ∀ g, v.ownBlock = some g → g < w.heap.size → G g) : RdC G L w kInts v (.sl xs) := by
  obtain ⟨es, h1, h2⟩ := h
  exact rdC_of rfl (rowK_own Cl.len h1) (es_any (flat_ints 1) h2) hby hG
/-- copyPlayer's answer. -/
theorem plEl_of {F : Nat → Prop} {L : Nat} {cs cs' : List Value} {ds : List D} {w w' : World} {v1 v2 v3 : Value} (h : RdL F L w kPlayer cs ds) (hc : cs' = ((cs.set 11 v1).set 12 v2).set 13 v3) (ho : OwnP w.heap.size w' v1 v2 v3 ds) : PlEl L w.heap.size w'.heap.size w' cs' ds := by
  have hl := h.len.1
  rw [kPlayer_len] at hl
  obtain ⟨_, _, d1, r1⟩ := h.sl 11 _ _ rfl
  obtain ⟨_, _, d2, r2⟩ := h.sl 12 _ _ rfl
  obtain ⟨_, _, d3, r3⟩ := h.sl 13 _ _ rfl
  have b1 : (dxs ds 11).length * 8 ≤ L := by obtain ⟨_, _, _, h⟩ := r1.row (k := 1) rfl; exact h
  have b2 : (dxs ds 12).length * 8 ≤ L := by obtain ⟨_, _, _, h⟩ := r2.row (k := 1) rfl; exact h
  have b3 : (dxs ds 13).length * 8 ≤ L := by obtain ⟨_, _, _, h⟩ := r3.row (k := 1) rfl; exact h
  refine ⟨⟨v1, v2, v3, ?_, ?_, ?_, ⟨ho.o1, fun g hg => (ho.o1.lt g hg).2⟩, ⟨ho.o2, fun g hg => (ho.o2.lt g hg).2⟩, ⟨ho.o3, fun g hg => (ho.o3.lt g hg).2⟩, ho.a12, ho.a13, ho.a23⟩, ?_⟩
  · rw [hc, List.getElem?_set, List.getElem?_set, List.getElem?_set]; simp [hl]
  · rw [hc, List.getElem?_set, List.getElem?_set]; simp [hl]
  · rw [hc, List.getElem?_set]; simp [hl]
  · have ht := h.take 11
    have hta : RdL (fun b => w.heap.size ≤ b ∧ b < w'.heap.size) L w' (kPlayer.take 11) (cs.take 11) (ds.take 11) := ht.any (fun k hk => by
      have h : ∀ k ∈ kPlayer.take 11, (match k with
        | .lit _ => true
        | .sl _ _ => false) = true := by
        rw [← List.all_eq_true]
        rfl
      have := h k hk
      cases k with
      | lit l => exact ⟨l, rfl⟩
      | sl e b => cases this)
    have hdl := h.len.2
    rw [kPlayer_len] at hdl
    have q1 := ho.o1.rd (fun b => w.heap.size ≤ b ∧ b < w'.heap.size) L b1 (fun g hg hlt => ⟨(ho.o1.lt g hg).1, hlt⟩)
    have q2 := ho.o2.rd (fun b => w.heap.size ≤ b ∧ b < w'.heap.size) L b2 (fun g hg hlt => ⟨(ho.o2.lt g hg).1, hlt⟩)
    have q3 := ho.o3.rd (fun b => w.heap.size ≤ b ∧ b < w'.heap.size) L b3 (fun g hg hlt => ⟨(ho.o3.lt g hg).1, hlt⟩)
    have hall := hta.append (.cons q1 (.cons q2 (.cons q3 .nil)))
    have e1 : kPlayer.take 11 ++ [kInts, kInts, kInts] = kPlayer := by rfl
    have e2 : cs.take 11 ++ [v1, v2, v3] = cs' := by
      rw [hc]
      match cs, hl with
      | [c0, c1, c2, c3, c4, c5, c6, c7, c8, c9, c10, c11, c12, c13], _ => rfl
    have e3 : ds.take 11 ++ [.sl (dxs ds 11), .sl (dxs ds 12), .sl (dxs ds 13)] = ds := by
      match ds, hdl, d1, d2, d3 with
      | [c0, c1, c2, c3, c4, c5, c6, c7, c8, c9, c10, c11, c12, c13], _, h1, h2, h3 =>
        have g1 : c11 = .sl _ := Option.some.inj h1
        have g2 : c12 = .sl _ := Option.some.inj h2
        have g3 : c13 = .sl _ := Option.some.inj h3
        show [c0, c1, c2, c3, c4, c5, c6, c7, c8, c9, c10] ++ _ = _
        rw [← g1, ← g2, ← g3]
        rfl
    rw [e1, e2, e3] at hall
    exact hall
theorem OwnIn.mono {lo hi lo' hi' : Nat} {w : World} {v : Value} {xs : List (List D)} (h : OwnIn lo hi w v xs) (h1 : lo' ≤ lo) (h2 : hi ≤ hi') : OwnIn lo' hi' w v xs := ⟨h.1.low h1, fun g hg => Nat.lt_of_lt_of_le (h.2 g hg) h2⟩
theorem PlEl.mono {L lo hi lo' hi' : Nat} {w : World} {vs : List Value} {ds : List D} (h : PlEl L lo hi w vs ds) (h1 : lo' ≤ lo) (h2 : hi ≤ hi') : PlEl L lo' hi' w vs ds := by
  obtain ⟨⟨v1, v2, v3, e1, e2, e3, o1, o2, o3, a⟩, r⟩ := h
  exact ⟨⟨v1, v2, v3, e1, e2, e3, o1.mono h1 h2, o2.mono h1 h2, o3.mono h1 h2, a⟩, r.imp (fun b hb _ => ⟨by omega, by omega⟩)⟩
/-- The players of a state, the first i of them copied. -/
structure PlInv (F : Nat → Prop) (L B : Nat) (W : World) (g : Nat) (xs : List (List D)) (i : Nat) (es : List (Cl 14)) (a : Nat → Nat) : Prop where
  blk : BlkC 14 59 W g es
  len : es.length = xs.length
  glo : B + 2 ≤ g
  ga : g < a 0
  mon : ∀ j, a j ≤ a (j + 1)
  top : a i ≤ W.heap.size
  done : ∀ (j : Nat) (vs : Cl 14) (ds : List D), j < i → es[j]? = some vs → xs[j]? = some ds → PlEl L (a j) (a (j + 1)) W vs.1 ds
  todo : ∀ (j : Nat) (vs : Cl 14) (ds : List D), i ≤ j → es[j]? = some vs → xs[j]? = some ds → RdL (fun b => F b ∧ b < B) L W kPlayer vs.1 ds
theorem mon_le {a : Nat → Nat} (h : ∀ j, a j ≤ a (j + 1)) : ∀ {i j : Nat}, i ≤ j → a i ≤ a j := fun {i j} hij => by
  induction j with
  | zero => rw [Nat.le_zero.1 hij]; exact Nat.le_refl _
  | succ j ih =>
    by_cases e : i = j + 1
    · rw [e]; exact Nat.le_refl _
    · exact Nat.le_trans (ih (by omega)) (h j)
/-- Player i copied and stored. -/
theorem PlInv.step {F : Nat → Prop} {L B : Nat} {W W' : World} {g : Nat} {xs : List (List D)} {i : Nat} {es : List (Cl 14)} {a : Nat → Nat} (h : PlInv F L B W g xs i es a) (hi : i < xs.length) (hb : Below W.heap.size W W') (y : Cl 14) (hy : PlEl L W.heap.size W'.heap.size W' y.1 xs[i]) :
    ∃ a', PlInv F L B (W'.setCells g (i * 14) y.1) g xs (i + 1) (es.set i y) a' := by
  have hs : (W'.setCells g (i * 14) y.1).heap.size = W'.heap.size := sets_size _ _ _ _
  have ho : ∀ b, b ≠ g → (W'.setCells g (i * 14) y.1).heap[b]? = W'.heap[b]? := fun b hb => heap_sets _ _ _ _ b hb
  have hga : ∀ j, g < a j := fun j => Nat.lt_of_lt_of_le h.ga (mon_le h.mon (Nat.zero_le j))
  have kp : ∀ m, m ≤ W.heap.size → Kp g m W (W'.setCells g (i * 14) y.1) := fun m hm => ⟨by rw [hs]; exact hb.size, fun b h1 h2 => (ho b h2).trans (hb.block b (Nat.lt_of_lt_of_le h1 hm))⟩
  refine ⟨fun j => if j ≤ i then a j else W'.heap.size, BlkK.setCells Cl.len (h.blk.same (hb.block g h.blk.lt)) i (by rw [h.len]; exact hi) y, by rw [List.length_set]; exact h.len, h.glo, by simp only [if_pos (Nat.zero_le i)]; exact h.ga, fun j => ?_, ?_, fun j vs ds hj h1 h2 => ?_, fun j vs ds hj h1 h2 => ?_⟩
  · by_cases c1 : j ≤ i
    · by_cases c2 : j + 1 ≤ i
      · rw [if_pos c1, if_pos c2]; exact h.mon j
      · rw [if_pos c1, if_neg c2]
        have : j = i := by omega
        rw [this]
        exact Nat.le_trans h.top hb.size
    · rw [if_neg c1, if_neg (by omega)]; exact Nat.le_refl _
  · rw [if_neg (by omega), hs]; exact Nat.le_refl _
  · by_cases e : j = i
    · subst e
      rw [List.getElem?_set_self (by rw [h.len]; exact hi)] at h1
      obtain rfl := Option.some.inj h1
      rw [List.getElem?_eq_getElem hi] at h2
      obtain rfl := Option.some.inj h2
      rw [if_pos (Nat.le_refl _), if_neg (by omega)]
      exact (hy.kp (B := g) ⟨by rw [hs]; exact Nat.le_refl _, fun b _ hn => ho b hn⟩ h.blk.lt).mono h.top (Nat.le_refl _)
    · rw [List.getElem?_set_ne (fun h => e h.symm)] at h1
      have hlt : j < i := by omega
      rw [if_pos (by omega), if_pos (by omega)]
      exact (h.done j vs ds hlt h1 h2).kp (B := g) (kp _ (Nat.le_trans (mon_le h.mon (by omega)) h.top)) (hga j)
  · have e : ¬ i = j := by omega
    rw [List.getElem?_set_ne e] at h1
    exact (h.todo j vs ds (by omega) h1 h2).frame (Nat.le_refl _) (by rw [hs]; exact hb.size) (fun b hF hlt => (ho b (by have := h.glo; omega)).trans (hb.block b hlt)) (fun _ h _ => h)
/-- The players of a copied state. -/
def PlyOwn (L lo hi : Nat) (w : World) (v : Value) (xs : List (List D)) : Prop :=
  ∃ es : List (Cl 14), ∃ a : Nat → Nat, w.ownsRow lo 59 14 v es.length (es.flatMap Subtype.val) ∧ es.length = xs.length ∧ (∀ g, v.ownBlock = some g → g < a 0) ∧ (∀ j, a j ≤ a (j + 1)) ∧ a xs.length ≤ hi ∧ ∀ (j : Nat) (vs : Cl 14) (ds : List D), es[j]? = some vs → xs[j]? = some ds → PlEl L (a j) (a (j + 1)) w vs.1 ds
theorem PlyOwn.kp {L B lo hi : Nat} {w w' : World} {v : Value} {xs : List (List D)} (h : PlyOwn L lo hi w v xs) (hk : Kp B hi w w') (hB : B < lo) : PlyOwn L lo hi w' v xs := by
  obtain ⟨es, a, h1, h5, h6, h7, h8, h9⟩ := h
  have ha : ∀ j, j ≤ xs.length → a j ≤ hi := fun j hj => Nat.le_trans (mon_le h7 hj) h8
  refine ⟨es, a, ownsRow_same h1 (fun g hg => hk.2 g (by have := ha 0 (Nat.zero_le _); have := h6 g hg; omega) (by have := (h1.lt g hg).1; omega)), h5, h6, h7, h8, fun j vs ds e1 e2 => ?_⟩
  have hj := (List.getElem?_eq_some_iff.1 e2).1
  have := mon_le h7 (Nat.zero_le j)
  have hv : v.ownBlock ≠ none := by
    rcases h1.2 with ⟨_, h0⟩ | ⟨g, cap, cur, rfl, _⟩
    · omega
    · intro h; cases h
  obtain ⟨g, hg⟩ := Option.ne_none_iff_exists'.1 hv
  exact (h9 j vs ds e1 e2).kp (B := B) (hk.mono (ha (j + 1) hj)) (by have := (h1.lt g hg).1; have := h6 g hg; omega)
/-- A whole struct loaded, inside a region that draws its order. -/
theorem step_load_mid {P : Program} {ops : Array Oper} {op : Oper} {a : Act} {w : World} {K : Act → World → Prop} {Q : Exit → Act → World → Prop} {E : Prop} (hgd : op.guard = none) (ty : TypeId) (x : Operand) (ho : op.op = .load ty x)
    (b o : Nat) (hx : a.eval x = .pointer (some ⟨b, o, none⟩)) (cs : List Value) (d : TypeDesc) (hc : w.rangeAt b o cs)
    (hu : P.underlying ty = some d) (hd : d.isRow = true) (hi : (P.info? ty).map (·.size) = some cs.length)
    (h : K (a.put op.dst (.agg cs.toArray)) w) : if Region.wanted op (yielded ops a.tmps) = true then op.wp P a w K Q else E := by
  have hw : Region.wanted op (yielded ops a.tmps) = true := by simp [Region.wanted, hgd]
  rw [if_pos hw]
  exact wp_load_mid ty x ho b o hx cs d hc hu hd hi h
theorem step_store_mid {P : Program} {ops : Array Oper} {op : Oper} {a : Act} {w : World} {K : Act → World → Prop} {Q : Exit → Act → World → Prop} {E : Prop} (hgd : op.guard = none) (ty : TypeId) (x y : Operand) (ho : op.op = .store ty x y)
    (b o : Nat) (cs : List Value) (hx : a.eval x = .pointer (some ⟨b, o, none⟩)) (hy : a.eval y = .agg cs.toArray)
    (ht : w.there b o cs.length) (hi : (P.info? ty).map (·.size) = some cs.length) (h1 : ∀ u ∈ cs, u.oneCell' = true)
    (h : K (a.put op.dst undef) (w.setCells b o cs)) : if Region.wanted op (yielded ops a.tmps) = true then op.wp P a w K Q else E := by
  have hw : Region.wanted op (yielded ops a.tmps) = true := by simp [Region.wanted, hgd]
  rw [if_pos hw]
  exact wp_store_mid ty x y ho b o cs.toArray hx hy (by rw [List.size_toArray]; exact ht) (by rw [List.size_toArray]; exact hi) (all_oneCell_toArray h1) (by simpa using h)
end Go.Proofs.Ytiebjkbofoppaaa
