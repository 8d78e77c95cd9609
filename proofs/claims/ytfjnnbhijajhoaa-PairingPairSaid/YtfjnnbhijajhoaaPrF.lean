/- Chapter 56: the table of records in the making. -/
import Derived.Test.YtfjnnbhijajhoaaPrE
namespace Go.Proofs.Ytfjnnbhijajhoaa
open Go Go.RowKit Go.Sort Go.Shelf Cg
/-- The table: block B holds the records; each record's opponents lie in a row of their own. -/
structure Tab (B : Nat) (w wr : World) (rows : List (St × Sl)) : Prop where
  blk : BlkK 8 encT 35 wr B rows
  own : ∀ (p : Nat) (x : St × Sl), rows[p]? = some x → wr.ownsRow (B + 1) 3 1 (slv x.2) x.1.opp.length (x.1.opp.map (Value.int .i64))
  dis : ∀ (p q : Nat) (x y : St × Sl) (g : Nat), rows[p]? = some x → rows[q]? = some y → p ≠ q → (slv x.2).ownBlock = some g → (slv y.2).ownBlock ≠ some g
  bel : Below B w wr
theorem Tab.step {B : Nat} {w wr wr' : World} {rows : List (St × Sl)} (h : Tab B w wr rows) (hb : Below wr.heap.size wr wr') : Tab B w wr' rows :=
  ⟨h.blk.same (hb.block _ h.blk.lt), fun p x hp => own_block (h.own p x hp) hb, h.dis, h.bel.trans (hb.mono (Nat.le_of_lt h.blk.lt))⟩
theorem own_ne {w : World} {base e size n : Nat} {v : Value} {xs : List Value} (h : w.ownsRow base e size v n xs) {k : Nat} (hk : k < base) : v.ownBlock ≠ some k := fun e => by
  have := (h.lt k e).1
  omega
theorem below_setCell {B : Nat} {w wr : World} (h : Below B w wr) (a : Addr) (ha : B ≤ a.block) (u : Value) : Below B w (wr.setCell a u) :=
  ⟨h.os, h.tape, h.output, by have := h.size; simpa [World.setCell] using this, fun k hk => (Below.heap_setCell wr a u k (by omega)).trans (h.block k hk)⟩
theorem below_setCells {B : Nat} {w : World} (b : Nat) (hb : B ≤ b) : ∀ (vs : List Value) (o : Nat) {wr : World}, Below B w wr → Below B w (wr.setCells b o vs)
  | [], _, _, h => h
  | v :: r, o, _, h => below_setCells b hb r (o + 1) (below_setCell h ⟨b, o, none⟩ hb v)
theorem set_get {α : Type} {l : List α} {j p : Nat} {y x : α} (h : (l.set j y)[p]? = some x) : (p = j ∧ x = y) ∨ (p ≠ j ∧ l[p]? = some x) := by
  by_cases e : p = j
  · subst e
    have hl := (List.getElem?_eq_some_iff.1 h).1
    rw [List.length_set] at hl
    rw [List.getElem?_set_self hl] at h
    exact .inl ⟨rfl, (Option.some.inj h).symm⟩
  · rw [List.getElem?_set_ne (fun h => e h.symm)] at h
    exact .inr ⟨e, h⟩
/-- One number of one record written. -/
theorem Tab.poke {B : Nat} {w wr : World} {rows : List (St × Sl)} (h : Tab B w wr rows) (j : Nat) (x : St × Sl) (hj : rows[j]? = some x) (c : Nat) (hc : c < 8) (u : Value) (y : St) (hy : ∀ i, (encT (y, x.2))[i]? = if i = c then some u else (encT x)[i]?) (ho : y.opp = x.1.opp) : Tab B w (wr.setCell ⟨B, j * 8 + c, none⟩ u) (rows.set j (y, x.2)) := by
  refine ⟨h.blk.setCell encT_len j x hj c hc u (y, x.2) hy, fun p z hp => ?_, fun p q a b g hp hq hpq hg => ?_, below_setCell h.bel _ (Nat.le_refl _) _⟩
  · rcases set_get hp with ⟨rfl, rfl⟩ | ⟨_, hp⟩
    · have h0 := h.own p x hj
      show (World.setCell _ _ _).ownsRow _ _ _ (slv x.2) y.opp.length (y.opp.map (Value.int .i64))
      rw [ho]
      exact own_setNe h0 (own_ne h0 (Nat.lt_succ_self B)) _
    · have h0 := h.own p z hp
      exact own_setNe h0 (own_ne h0 (Nat.lt_succ_self B)) _
  · have ha : ∃ a0, rows[p]? = some a0 ∧ a0.2 = a.2 := by
      rcases set_get hp with ⟨rfl, rfl⟩ | ⟨_, hp⟩
      · exact ⟨x, hj, rfl⟩
      · exact ⟨a, hp, rfl⟩
    have hb : ∃ b0, rows[q]? = some b0 ∧ b0.2 = b.2 := by
      rcases set_get hq with ⟨rfl, rfl⟩ | ⟨_, hq⟩
      · exact ⟨x, hj, rfl⟩
      · exact ⟨b, hq, rfl⟩
    obtain ⟨a0, ha1, ha2⟩ := ha
    obtain ⟨b0, hb1, hb2⟩ := hb
    rw [← ha2] at hg
    rw [← hb2]
    exact h.dis p q a0 b0 g ha1 hb1 hpq hg
/-- A whole record written, its opponents' row grown. -/
theorem Tab.put {B : Nat} {w wr w' : World} {rows : List (St × Sl)} (h : Tab B w wr rows) (j : Nat) (x : St × Sl) (hj : rows[j]? = some x) (y : St × Sl) (hown : w'.ownsRow (B + 1) 3 1 (slv y.2) y.1.opp.length (y.1.opp.map (Value.int .i64))) (hat : (slv y.2).ownBlock = (slv x.2).ownBlock ∨ ∃ g, (slv y.2).ownBlock = some g ∧ wr.heap.size ≤ g) (hg : wr.grownBy w' (slv x.2).ownBlock) : Tab B w (w'.setCells B (j * 8) (encT y)) (rows.set j y) := by
  have hjl := (List.getElem?_eq_some_iff.1 hj).1
  have hx := h.own j x hj
  have hblk : BlkK 8 encT 35 w' B rows := h.blk.same (hg.block B h.blk.lt (fun e => own_ne hx (Nat.lt_succ_self B) e.symm))
  have hbel : Below B w w' := ⟨hg.os.trans h.bel.os, hg.tape.trans h.bel.tape, hg.output.trans h.bel.output, Nat.le_trans h.bel.size hg.size, fun k hk => (hg.block k (Nat.lt_trans hk h.blk.lt) (fun e => own_ne hx (Nat.lt_succ_of_lt hk) e.symm)).trans (h.bel.block k hk)⟩
  have hother : ∀ p z, rows[p]? = some z → p ≠ j → w'.ownsRow (B + 1) 3 1 (slv z.2) z.1.opp.length (z.1.opp.map (Value.int .i64)) := fun p z hp hpj => by
    have hz := h.own p z hp
    refine ⟨hz.1, ?_⟩
    rcases hz.2 with hn | ⟨g, cap, cur, hv, h1, h2, rest⟩
    · exact .inl hn
    · refine .inr ⟨g, cap, cur, hv, h1, ?_, rest⟩
      have hgz : (slv z.2).ownBlock = some g := by rw [hv]; rfl
      rw [hg.block g (Array.getElem?_eq_some_iff.1 h2).1 (fun e => h.dis p j z x g hp hj hpj hgz e.symm)]
      exact h2
  refine ⟨hblk.setCells encT_len j hjl y, fun p z hp => ?_, fun p q a b g hp hq hpq hga => ?_, below_setCells B (Nat.le_refl _) _ _ hbel⟩
  · rcases set_get hp with ⟨rfl, rfl⟩ | ⟨hpj, hp⟩
    · exact own_sets B (own_ne hown (Nat.lt_succ_self B)) _ _ hown
    · have h0 := hother p z hp hpj
      exact own_sets B (own_ne h0 (Nat.lt_succ_self B)) _ _ h0
  · rcases set_get hp with ⟨rfl, rfl⟩ | ⟨hpj, hp2⟩
    · rcases set_get hq with ⟨rfl, rfl⟩ | ⟨hqj, hq2⟩
      · exact absurd rfl hpq
      · rcases hat with hat | ⟨g2, hat, hge⟩
        · rw [hat] at hga
          exact h.dis p q x b g hj hq2 hpq hga
        · rw [hat] at hga
          cases hga
          intro e
          have := ((h.own q b hq2).lt g e).2
          omega
    · rcases set_get hq with ⟨rfl, rfl⟩ | ⟨hqj, hq2⟩
      · rcases hat with hat | ⟨g2, hat, hge⟩
        · rw [hat]
          exact h.dis p q a x g hp2 hj hpq hga
        · rw [hat]
          intro e
          cases e
          have := ((h.own p a hp2).lt g hga).2
          omega
      · exact h.dis p q a b g hp2 hq2 hpq hga
end Go.Proofs.Ytfjnnbhijajhoaa
