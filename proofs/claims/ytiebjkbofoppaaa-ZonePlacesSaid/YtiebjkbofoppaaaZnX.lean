/- Chapter 25: changes of a state of the call's own. -/
import Derived.Test.YtiebjkbofoppaaaZnW
namespace Go.Proofs.Ytiebjkbofoppaaa
open Go Go.RowKit Go.Sort Cg
theorem dxs_self (ds : List D) (i : Nat) (xs : List (List D)) (h : i < ds.length) : dxs (ds.set i (.sl xs)) i = xs := by
  unfold dxs
  rw [List.getElem?_set_self h]
theorem dxs_ne (ds : List D) (i j : Nat) (d : D) (h : j ≠ i) : dxs (ds.set i d) j = dxs ds j := by
  unfold dxs
  rw [List.getElem?_set_ne (fun e => h e.symm)]
/-- What a change of a state leaves alone, of the blocks below n. -/
structure Upd (ρ ρ' : Nat → Role) (B n : Nat) (w w' : World) : Prop where
  os : w'.os = w.os
  tape : w'.tape = w.tape
  output : w'.output = w.output
  size : w.heap.size ≤ w'.heap.size
  keep : ∀ b, b < n → (b < B ∨ ρ b = .none ∨ ρ b = .cold) → w'.heap[b]? = w.heap[b]?
  role : ∀ b, b < n → ρ' b = ρ b
theorem Upd.refl (ρ : Nat → Role) (B n : Nat) (w : World) : Upd ρ ρ B n w w := ⟨rfl, rfl, rfl, Nat.le_refl _, fun _ _ _ => rfl, fun _ _ => rfl⟩
theorem Upd.trans {ρ ρ1 ρ2 : Nat → Role} {B n m : Nat} {w w1 w2 : World} (h : Upd ρ ρ1 B n w w1) (k : Upd ρ1 ρ2 B m w1 w2) (hn : n ≤ m) : Upd ρ ρ2 B n w w2 :=
  ⟨k.os.trans h.os, k.tape.trans h.tape, k.output.trans h.output, Nat.le_trans h.size k.size, fun b hb hr => (k.keep b (Nat.lt_of_lt_of_le hb hn) (by rw [h.role b hb]; exact hr)).trans (h.keep b hb hr), fun b hb => (k.role b (Nat.lt_of_lt_of_le hb hn)).trans (h.role b hb)⟩
theorem Upd.below {ρ ρ' : Nat → Role} {B n A : Nat} {w0 w w' : World} (h : Upd ρ ρ' B n w w') (hb : Below A w0 w) (hA : A ≤ B) (hn : A ≤ n) : Below A w0 w' :=
  ⟨h.os.trans hb.os, h.tape.trans hb.tape, h.output.trans hb.output, Nat.le_trans hb.size h.size, fun k hk => (h.keep k (by omega) (.inl (by omega))).trans (hb.block k hk)⟩
theorem Upd.of_below {ρ ρ' : Nat → Role} {B n : Nat} {w w' : World} (hb : Below n w w') (hr : ∀ b, b < n → ρ' b = ρ b) : Upd ρ ρ' B n w w' := ⟨hb.os, hb.tape, hb.output, hb.size, fun b h _ => hb.block b h, hr⟩
theorem OwnS.frame {ρ ρ' : Nat → Role} {L L' B : Nat} {w w' : World} {cs : List Value} {ds : List D} (h : OwnS ρ L B w cs ds) (hL : L ≤ L') (hs : w.heap.size ≤ w'.heap.size) (hb : ∀ b, b < w.heap.size → ρ b ≠ .none → w'.heap[b]? = w.heap[b]?) (hr : ∀ b, b < w.heap.size → ρ' b = ρ b) : OwnS ρ' L' B w' cs ds := by
  refine ⟨h.len, ?_, fun c h1 h5 => ?_, h.rest.frame hL hs (fun b hc hlt => hb b hlt (by rw [hc]; simp)) (fun b hc hlt => (hr b hlt).trans hc)⟩
  · obtain ⟨v, a, b, c⟩ := h.ply
    exact ⟨v, a, b, c.frame hL hs (fun b hlt hc => hb b hlt (by rcases hc with ⟨j, i, _, e⟩ | e | e <;> rw [e] <;> simp)) hr⟩
  · obtain ⟨v, a, b, d⟩ := h.row c h1 h5
    exact ⟨v, a, b, d.frame hL hs (fun b hlt hc => hb b hlt (by rcases hc with e | e <;> rw [e] <;> simp)) hr⟩
open Classical in
/-- New memory plays no part. -/
theorem OwnS.new {ρ : Nat → Role} {L B : Nat} {w w' : World} {cs : List Value} {ds : List D} (h : OwnS ρ L B w cs ds) (hb : Below w.heap.size w w') : ∃ ρ', OwnS ρ' L B w' cs ds ∧ (∀ b, w.heap.size ≤ b → ρ' b = .none) ∧ ∀ b, b < w.heap.size → ρ' b = ρ b := by
  obtain ⟨ρ', hρ⟩ : ∃ ρ' : Nat → Role, ρ' = fun b => if b < w.heap.size then ρ b else .none := ⟨_, rfl⟩
  have h1 : ∀ b, b < w.heap.size → ρ' b = ρ b := fun b hb => by rw [hρ]; simp only [if_pos hb]
  exact ⟨ρ', h.frame (Nat.le_refl _) hb.size (fun b hlt _ => hb.block b hlt) h1, fun b hge => by rw [hρ]; simp only [if_neg (Nat.not_lt.2 hge)], h1⟩
/-- A store into a block that plays no part. -/
theorem OwnS.aside {ρ : Nat → Role} {L B : Nat} {w : World} {cs : List Value} {ds : List D} (h : OwnS ρ L B w cs ds) (b i : Nat) (u : Value) (hb : ρ b = .none) : OwnS ρ L B (w.setCell ⟨b, i, none⟩ u) cs ds :=
  h.frame (Nat.le_refl _) (by simp [World.setCell]) (fun k _ hk => Below.heap_setCell _ _ _ _ (fun e => hk (by rw [e]; exact hb))) (fun _ _ => rfl)
theorem OwnS.asides {ρ : Nat → Role} {L B : Nat} {w : World} {cs : List Value} {ds : List D} (h : OwnS ρ L B w cs ds) (b i : Nat) (us : List Value) (hb : ρ b = .none) : OwnS ρ L B (w.setCells b i us) cs ds :=
  h.frame (Nat.le_refl _) (by rw [sets_size]; exact Nat.le_refl _) (fun k _ hk => heap_sets _ _ _ _ _ (fun e => hk (by rw [e]; exact hb))) (fun _ _ => rfl)
/-- A number of the state. -/
theorem OwnS.setLit {ρ : Nat → Role} {L B : Nat} {w : World} {cs : List Value} {ds : List D} (h : OwnS ρ L B w cs ds) (c : Nat) (hc : 5 ≤ c) (l : Lk) (hk : kState[c]? = some (.lit l)) (u : Value) (hu : isLit l u) : OwnS ρ L B w (cs.set c u) (ds.set c (.lit u)) := by
  refine ⟨by simp only [List.length_set]; exact h.len, ?_, fun i h1 h5 => ?_, ?_⟩
  · obtain ⟨v, a, b, d⟩ := h.ply
    have e : dxs (ds.set c (.lit u)) 0 = dxs ds 0 := by unfold dxs; rw [List.getElem?_set_ne (by omega)]
    rw [e]
    exact ⟨v, by rw [List.getElem?_set_ne (by omega)]; exact a, by rw [List.getElem?_set_ne (by omega)]; exact b, d⟩
  · obtain ⟨v, a, b, d⟩ := h.row i h1 h5
    have e : dxs (ds.set c (.lit u)) i = dxs ds i := by unfold dxs; rw [List.getElem?_set_ne (by omega)]
    rw [e]
    exact ⟨v, by rw [List.getElem?_set_ne (by omega)]; exact a, by rw [List.getElem?_set_ne (by omega)]; exact b, d⟩
  · have := h.rest.set (c - 5) (.lit l) u (.lit u) (by rw [List.getElem?_drop, show 5 + (c - 5) = c by omega]; exact hk) (.lit hu)
    rw [List.drop_set, List.drop_set, if_neg (by omega), if_neg (by omega)]
    exact this
open Classical in
/-- One of the rows changed. -/
theorem OwnS.setRow {ρ : Nat → Role} {L L' B : Nat} {w w' : World} {cs : List Value} {ds : List D} (h : OwnS ρ L B w cs ds) (c : Nat) (h1 : 1 ≤ c) (h5 : c < 5) (v v' : Value) (hv : cs[c]? = some v) (hL : L ≤ L') (gr : w.grownBy w' v.ownBlock) (xs' : List (List D))
    (row : ∃ es : List (Cl (kk c)), w'.ownsRow B (tt c) (kk c) v' es.length (es.flatMap Subtype.val) ∧ Es (fun b => ρ b = .cold) L' w (ee c) es xs') (hby : xs'.length * bb c ≤ L') (hsame : ∀ g, v'.ownBlock = some g → v.ownBlock = some g ∨ w.heap.size ≤ g) :
    ∃ ρ', OwnS ρ' L' B w' (cs.set c v') (ds.set c (.sl xs')) ∧ Upd ρ ρ' B w.heap.size w w' := by
  obtain ⟨ρ', hρ⟩ : ∃ ρ' : Nat → Role, ρ' = fun b => if b < w.heap.size then ρ b else .row c := ⟨_, rfl⟩
  have hr : ∀ b, b < w.heap.size → ρ' b = ρ b := fun b hb => by rw [hρ]; simp only [if_pos hb]
  obtain ⟨v0, hv0, _, ow⟩ := h.row c h1 h5
  obtain rfl : v0 = v := Option.some.inj (hv0.symm.trans hv)
  have hkeep : ∀ b, b < w.heap.size → ρ b ≠ .row c → w'.heap[b]? = w.heap[b]? := fun b hb hne => gr.block b hb (fun e => hne (ow.role b e.symm))
  refine ⟨ρ', ⟨by simp only [List.length_set]; exact h.len, ?_, fun i hi1 hi5 => ?_, ?_⟩, ⟨gr.os, gr.tape, gr.output, gr.size, fun b hb hc => gr.block b hb (fun e => ?_), hr⟩⟩
  · obtain ⟨u, a, b, d⟩ := h.ply
    have e : dxs (ds.set c (.sl xs')) 0 = dxs ds 0 := by unfold dxs; rw [List.getElem?_set_ne (by omega)]
    rw [e]
    exact ⟨u, by rw [List.getElem?_set_ne (by omega)]; exact a, by rw [List.getElem?_set_ne (by omega)]; exact b, d.frame hL gr.size (fun b hb hc => hkeep b hb (by rcases hc with ⟨j, i, _, e⟩ | e | e <;> rw [e] <;> simp)) hr⟩
  · by_cases hic : i = c
    · subst hic
      have hds := h.len
      have e : dxs (ds.set i (.sl xs')) i = xs' := by unfold dxs; rw [List.getElem?_set_self (by omega)]
      rw [e]
      obtain ⟨es, o1, o2⟩ := row
      refine ⟨v', List.getElem?_set_self (by omega), List.getElem?_set_self (by omega), ⟨⟨es, o1, o2.frame (Nat.le_refl _) gr.size (fun b hc hb => hkeep b hb (by rw [hc]; simp)) (fun b hc hb => (hr b hb).trans hc)⟩, fun g hg => ?_, hby⟩⟩
      rcases hsame g hg with e | e
      · exact (hr g (ow.lt g e).2).trans (ow.role g e)
      · rw [hρ]; simp only [if_neg (Nat.not_lt.2 e)]
    · obtain ⟨u, a, b, d⟩ := h.row i hi1 hi5
      have e : dxs (ds.set c (.sl xs')) i = dxs ds i := by unfold dxs; rw [List.getElem?_set_ne (fun e => hic e.symm)]
      rw [e]
      exact ⟨u, by rw [List.getElem?_set_ne (fun e => hic e.symm)]; exact a, by rw [List.getElem?_set_ne (fun e => hic e.symm)]; exact b, d.frame hL gr.size (fun b hb hc => hkeep b hb (by rcases hc with e | e <;> rw [e] <;> simp [hic])) hr⟩
  · rw [List.drop_set, List.drop_set, if_pos h5, if_pos h5]
    exact h.rest.frame hL gr.size (fun b hc hb => hkeep b hb (by rw [hc]; simp)) (fun b hc hb => (hr b hb).trans hc)
  · have h2 := ow.role b e.symm
    have h3 := (ow.lt b e.symm).1
    rcases hc with hc | hc | hc
    · omega
    · rw [h2] at hc; cases hc
    · rw [h2] at hc; cases hc
open Classical in
/-- One of a player's lists changed: the new row, and the cell of the players' block that holds it. -/
theorem OwnS.setPly {ρ : Nat → Role} {L L' B : Nat} {w w' : World} {cs : List Value} {ds : List D} (h : OwnS ρ L B w cs ds) (p i : Nat) (hi : i < 3) (hp : p < (dxs ds 0).length) : ∃ g m c v, cs[0]? = some (.slice (some ⟨g, 0, none⟩) m c) ∧ m = (dxs ds 0).length ∧ ρ g = .ply ∧ g < w.heap.size ∧ B ≤ g ∧
    w.cell? ⟨g, p * 14 + (11 + i), none⟩ = some v ∧ w.frozen? ⟨g, p * 14 + (11 + i), none⟩ = false ∧ OwnR ρ (.lst p i) L B 1 3 (kI 1) 8 w v (dxs (dxs ds 0)[p] (11 + i)) ∧
    ∀ (v' : Value) (xs' : List (List D)), L ≤ L' → w.grownBy w' v.ownBlock → (∃ es : List (Cl 1), w'.ownsRow B 3 1 v' es.length (es.flatMap Subtype.val) ∧ Es (fun b => ρ b = .cold) L' w (kI 1) es xs') → xs'.length * 8 ≤ L' → (∀ g, v'.ownBlock = some g → v.ownBlock = some g ∨ w.heap.size ≤ g) →
    ∃ ρ', OwnS ρ' L' B (w'.setCell ⟨g, p * 14 + (11 + i), none⟩ v') cs (ds.set 0 (.sl ((dxs ds 0).set p ((dxs ds 0)[p].set (11 + i) (.sl xs'))))) ∧ Upd ρ ρ' B w.heap.size w (w'.setCell ⟨g, p * 14 + (11 + i), none⟩ v') := by
  obtain ⟨v0, hv0, hd0, pl⟩ := h.ply
  obtain ⟨es, o1, o2, o3⟩ := pl.row
  have hdl := h.len
  have hm : es.length ≠ 0 := by rw [o2]; omega
  rcases o1.2 with ⟨_, h0⟩ | ⟨g, cap, cur, rfl, hB, hg, hcap, hmax, hsz, htake⟩
  · exact absurd h0 hm
  have hown := o1
  have hgl : g < w.heap.size := (o1.lt g rfl).2
  have hblk : BlkC 14 59 w g es := own_blkC hown rfl
  have hhd := hdC_of hown
  have hpe : p < es.length := by rw [o2]; exact hp
  have P := o3 p es[p] (dxs ds 0)[p] (List.getElem?_eq_getElem hpe) (List.getElem?_eq_getElem hp)
  obtain ⟨v, hv, hdv, ov⟩ := P.lst i hi
  have hρg : ρ g = .ply := pl.role g rfl
  refine ⟨g, es.length, cap, v, hv0, o2, hρg, hgl, hB, hblk.cell p _ (List.getElem?_eq_getElem hpe) (11 + i) v hv, hblk.frozen _, ov, fun v' xs' hL gr ⟨ns, n1, n2⟩ hby hsame => ?_⟩
  obtain ⟨ρ', hρ⟩ : ∃ ρ' : Nat → Role, ρ' = fun b => if b < w.heap.size then ρ b else .lst p i := ⟨_, rfl⟩
  have hr : ∀ b, b < w.heap.size → ρ' b = ρ b := fun b hb => by rw [hρ]; simp only [if_pos hb]
  obtain ⟨W', hW⟩ : ∃ W', W' = w'.setCell ⟨g, p * 14 + (11 + i), none⟩ v' := ⟨_, rfl⟩
  rw [← hW]
  have hsz : w.heap.size ≤ W'.heap.size := by rw [hW]; simpa [World.setCell] using gr.size
  have hkeep : ∀ b, b < w.heap.size → ρ b ≠ .lst p i → ρ b ≠ .ply → W'.heap[b]? = w.heap[b]? := fun b hb h1 h2 => by
    rw [hW, Below.heap_setCell _ _ _ _ (fun e => h2 (by rw [e]; exact hρg))]
    exact gr.block b hb (fun e => h1 (ov.role b e.symm))
  have hvg : v.ownBlock ≠ some g := fun e => by have := ov.role g e; rw [hρg] at this; cases this
  have hg' : w'.heap[g]? = w.heap[g]? := gr.block g hgl (fun e => hvg e.symm)
  have h1v : v'.oneCell' = true := by
    rcases n1.2 with ⟨rfl, _⟩ | ⟨_, _, _, rfl, _⟩ <;> rfl
  obtain ⟨y, hy⟩ : ∃ y : Cl 14, y.1 = es[p].1.set (11 + i) v' := ⟨⟨es[p].1.set (11 + i) v', by rw [List.length_set]; exact Cl.len _, fun u hu => by
    rcases List.mem_or_eq_of_mem_set hu with h | rfl
    · exact Cl.one _ u h
    · exact h1v⟩, rfl⟩
  have hpl : es[p].1.length = 14 := Cl.len _
  have hblk' : BlkC 14 59 W' g (es.set p y) := by
    rw [hW]
    refine BlkK.setCell Cl.len (hblk.same hg') p _ (List.getElem?_eq_getElem hpe) (11 + i) (by omega) v' y (fun k => ?_)
    show y.1[k]? = _
    rw [hy]
    by_cases hk : k = 11 + i
    · subst hk; rw [List.getElem?_set_self (by omega), if_pos rfl]
    · rw [List.getElem?_set_ne (fun e => hk e.symm), if_neg hk]
  have hhd' : HdC B 59 14 W' g cap := by rw [hW]; exact (hhd.same hg').set _ _
  have hds0 : dxs (ds.set 0 (.sl ((dxs ds 0).set p ((dxs ds 0)[p].set (11 + i) (.sl xs'))))) 0 = (dxs ds 0).set p ((dxs ds 0)[p].set (11 + i) (.sl xs')) := by unfold dxs; rw [List.getElem?_set_self (by omega)]
  have hdsc : ∀ c, 1 ≤ c → dxs (ds.set 0 (.sl ((dxs ds 0).set p ((dxs ds 0)[p].set (11 + i) (.sl xs'))))) c = dxs ds c := fun c hc => by unfold dxs; rw [List.getElem?_set_ne (by omega)]
  refine ⟨ρ', ⟨⟨hdl.1, by rw [List.length_set]; exact hdl.2⟩, ?_, fun c hc1 hc5 => ?_, ?_⟩, ⟨?_, ?_, ?_, hsz, fun b hb hc => ?_, hr⟩⟩
  · rw [hds0]
    refine ⟨_, hv0, List.getElem?_set_self (by omega), ⟨⟨es.set p y, ?_, by rw [List.length_set, List.length_set]; exact o2, fun j vs dj e1 e2 => ?_⟩, fun g' hg' => ?_, ?_⟩⟩
    · have := own_of hblk' hhd' (by rw [List.length_set]; exact hcap)
      rw [List.length_set] at this
      rw [List.length_set]
      exact this
    · by_cases hj : j = p
      · subst hj
        rw [List.getElem?_set_self hpe] at e1
        rw [List.getElem?_set_self hp] at e2
        obtain rfl := Option.some.inj e1
        obtain rfl := Option.some.inj e2
        rw [hy]
        refine ⟨?_, ⟨by rw [List.length_set]; exact P.len.1, by rw [List.length_set]; exact P.len.2⟩, fun k hk => ?_⟩
        · rw [List.take_set_of_le (by omega), List.take_set_of_le (by omega)]
          exact P.rd.any flat11
        · have hl2 := P.len
          by_cases hki : k = i
          · subst hki
            have e : dxs ((dxs ds 0)[j].set (11 + k) (.sl xs')) (11 + k) = xs' := dxs_self _ _ _ (by omega)
            rw [e]
            refine ⟨v', List.getElem?_set_self (by omega), List.getElem?_set_self (by omega), ⟨⟨ns, ?_, n2.frame (Nat.le_refl _) hsz (fun b hc hb => hkeep b hb (by rw [hc]; simp) (by rw [hc]; simp)) (fun b hc hb => (hr b hb).trans hc)⟩, fun g2 hg2 => ?_, hby⟩⟩
            · rw [hW]
              refine ownsRow_same n1 (fun g2 hg2 => Below.heap_setCell _ _ _ _ (fun e => ?_))
              rcases hsame g2 hg2 with e2 | e2
              · have := ov.role g2 e2
                rw [e] at this
                rw [hρg] at this
                cases this
              · have : g2 = g := e
                omega
            · rcases hsame g2 hg2 with e2 | e2
              · exact (hr g2 (ov.lt g2 e2).2).trans (ov.role g2 e2)
              · rw [hρ]; simp only [if_neg (Nat.not_lt.2 e2)]
          · obtain ⟨u, f1, f2, f3⟩ := P.lst k hk
            have e : dxs ((dxs ds 0)[j].set (11 + i) (.sl xs')) (11 + k) = dxs (dxs ds 0)[j] (11 + k) := dxs_ne _ _ _ _ (by omega)
            rw [e]
            exact ⟨u, by rw [List.getElem?_set_ne (by omega)]; exact f1, by rw [List.getElem?_set_ne (by omega)]; exact f2, f3.frame hL hsz (fun b hb hc => hkeep b hb (by rcases hc with e | e <;> rw [e] <;> simp [hki]) (by rcases hc with e | e <;> rw [e] <;> simp)) hr⟩
      · rw [List.getElem?_set_ne (fun e => hj e.symm)] at e1 e2
        exact (o3 j vs dj e1 e2).frame hL hsz (fun b hb hc => hkeep b hb (by rcases hc with ⟨k, _, e⟩ | e <;> rw [e] <;> simp [hj]) (by rcases hc with ⟨k, _, e⟩ | e <;> rw [e] <;> simp)) hr
    · cases hg'
      exact (hr g hgl).trans hρg
    · rw [List.length_set]
      exact Nat.le_trans pl.bytes hL
  · obtain ⟨u, f1, f2, f3⟩ := h.row c hc1 hc5
    rw [hdsc c hc1]
    exact ⟨u, f1, by rw [List.getElem?_set_ne (by omega)]; exact f2, f3.frame hL hsz (fun b hb hc => hkeep b hb (by rcases hc with e | e <;> rw [e] <;> simp) (by rcases hc with e | e <;> rw [e] <;> simp)) hr⟩
  · rw [List.drop_set, if_pos (by omega)]
    exact h.rest.frame hL hsz (fun b hc hb => hkeep b hb (by rw [hc]; simp) (by rw [hc]; simp)) (fun b hc hb => (hr b hb).trans hc)
  · rw [hW]; exact gr.os
  · rw [hW]; exact gr.tape
  · rw [hW]; exact gr.output
  · rw [hW, Below.heap_setCell _ _ _ _ (fun e => ?_)]
    · refine gr.block b hb (fun e => ?_)
      have h2 := ov.role b e.symm
      have h3 := (ov.lt b e.symm).1
      rcases hc with hc | hc | hc
      · omega
      · rw [h2] at hc; cases hc
      · rw [h2] at hc; cases hc
    · have e : b = g := e
      subst e
      rcases hc with hc | hc | hc
      · omega
      · rw [hρg] at hc; cases hc
      · rw [hρg] at hc; cases hc
end Go.Proofs.Ytiebjkbofoppaaa
