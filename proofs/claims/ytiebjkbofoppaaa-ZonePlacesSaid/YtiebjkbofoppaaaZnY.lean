/- Chapter 25: the list of a zone, read and written through its pointer. -/
import Derived.Test.YtiebjkbofoppaaaZnX
namespace Go.Proofs.Ytiebjkbofoppaaa
open Go Go.RowKit Go.Sort Cg
/-- Which field of a player holds the list of a zone. -/
def kof (z : Int) : Option Nat := if z == 1 then some 12 else if z == 2 then some 11 else if z == 3 then some 13 else none
def listT (ds : List D) (z p : Int) : List (List D) :=
  if z == 0 then dxs ds 2 else if z == 4 then dxs ds 3 else if p < 0 ∨ ((dxs ds 0).length : Int) ≤ p then [] else
    match kof z with
    | some k => dxs ((dxs ds 0).getD p.toNat []) k
    | none => []
def setT (ds : List D) (z p : Int) (l : List (List D)) : List D :=
  if z == 0 then ds.set 2 (.sl l) else if z == 4 then ds.set 3 (.sl l) else if p < 0 ∨ ((dxs ds 0).length : Int) ≤ p then ds else
    match kof z with
    | some k => ds.set 0 (.sl ((dxs ds 0).set p.toNat (((dxs ds 0).getD p.toNat []).set k (.sl l))))
    | none => ds
theorem Upd.mono {ρ ρ' : Nat → Role} {B n m : Nat} {w w' : World} (h : Upd ρ ρ' B n w w') (hm : m ≤ n) : Upd ρ ρ' B m w w' := ⟨h.os, h.tape, h.output, h.size, fun b hb => h.keep b (by omega), fun b hb => h.role b (by omega)⟩
theorem Upd.store {ρ ρ' : Nat → Role} {B n : Nat} {w w' : World} (h : Upd ρ ρ' B n w w') (b i : Nat) (u : Value) (hb : n ≤ b) : Upd ρ ρ' B n w (w'.setCell ⟨b, i, none⟩ u) :=
  ⟨h.os, h.tape, h.output, by have := h.size; simpa [World.setCell] using this, fun k hk hc => (Below.heap_setCell _ _ _ _ (fun e => by have : k = b := e; omega)).trans (h.keep k hk hc), h.role⟩
theorem Upd.stores {ρ ρ' : Nat → Role} {B n : Nat} {w w' : World} (h : Upd ρ ρ' B n w w') (b i : Nat) (us : List Value) (hb : n ≤ b) : Upd ρ ρ' B n w (w'.setCells b i us) :=
  ⟨(below_sets us i w' (Below.refl 0 w') b (Nat.zero_le _)).os.trans h.os, (below_sets us i w' (Below.refl 0 w') b (Nat.zero_le _)).tape.trans h.tape, (below_sets us i w' (Below.refl 0 w') b (Nat.zero_le _)).output.trans h.output, by rw [sets_size]; exact h.size, fun k hk hc => (heap_sets _ _ _ _ _ (fun e => by have : k = b := e; omega)).trans (h.keep k hk hc), h.role⟩
/-- What the pointer to the list of a zone is good for. -/
structure AtL (ρ : Nat → Role) (L B : Nat) (w : World) (b : Nat) (cs : List Value) (ds : List D) (z p : Int) (ab oo : Nat) (v : Value) : Prop where
  cell : w.cell? ⟨ab, oo, none⟩ = some v
  apart : ∀ k, ρ k = .none → k ≠ b → k ≠ ab
  nb : ∀ k, ρ k = .none → v.ownBlock ≠ some k
  own : ∃ r, OwnR ρ r L B 1 3 (kI 1) 8 w v (listT ds z p)
  there : ∀ w', w.grownBy w' v.ownBlock → w'.cell? ⟨ab, oo, none⟩ = some v ∧ w'.frozen? ⟨ab, oo, none⟩ = false
  put : ∀ (w' : World) (L' : Nat) (v' : Value) (xs' : List (List D)), L ≤ L' → w.grownBy w' v.ownBlock → (∃ es : List (Cl 1), w'.ownsRow B 3 1 v' es.length (es.flatMap Subtype.val) ∧ Es (fun b => ρ b = .cold) L' w (kI 1) es xs') → xs'.length * 8 ≤ L' → (∀ g, v'.ownBlock = some g → v.ownBlock = some g ∨ w.heap.size ≤ g) →
    ∃ ρ' cs', OwnS ρ' L' B (w'.setCell ⟨ab, oo, none⟩ v') cs' (setT ds z p xs') ∧ Bx (w'.setCell ⟨ab, oo, none⟩ v') b 30 cs' ∧ (∀ k, k < w.heap.size → ρ' k = ρ k) ∧ (∀ k, k < w.heap.size → k ≠ b → ρ k = .none → (w'.setCell ⟨ab, oo, none⟩ v').heap[k]? = w.heap[k]?) ∧ ∀ n, n ≤ w.heap.size → n ≤ b → Upd ρ ρ' B n w (w'.setCell ⟨ab, oo, none⟩ v')
theorem frozen_of_block {w w' : World} {b o : Nat} (h : w'.heap[b]? = w.heap[b]?) : w'.frozen? ⟨b, o, none⟩ = w.frozen? ⟨b, o, none⟩ := by
  unfold World.frozen?
  simp only [h]
theorem OwnS.atBox {ρ : Nat → Role} {L B : Nat} {w : World} {cs : List Value} {ds : List D} (h : OwnS ρ L B w cs ds) (b : Nat) (X : Bx w b 30 cs) (hb : ρ b = .none) (c : Nat) (h1 : 2 ≤ c) (h3 : c < 4) (z p : Int) (hl : listT ds z p = dxs ds c) (hs : ∀ l, setT ds z p l = ds.set c (.sl l)) : ∃ v, AtL ρ L B w b cs ds z p b c v := by
  obtain ⟨v, hv, hd, ov⟩ := h.row c (by omega) (by omega)
  have hk : kk c = 1 ∧ tt c = 3 ∧ ee c = kI 1 ∧ bb c = 8 := by
    rcases c with _ | _ | _ | _ | c
    · omega
    · omega
    · exact ⟨rfl, rfl, rfl, rfl⟩
    · exact ⟨rfl, rfl, rfl, rfl⟩
    · omega
  have hvb : v.ownBlock ≠ some b := fun e => by have := ov.role b e; rw [hb] at this; cases this
  have same : ∀ w', w.grownBy w' v.ownBlock → w'.heap[b]? = w.heap[b]? := fun w' g => g.block b X.lt (fun e => hvb e.symm)
  have ov' : OwnR ρ (.row c) L B 1 3 (kI 1) 8 w v (dxs ds c) := by
    rcases c with _ | _ | _ | _ | c
    · omega
    · omega
    · exact ov
    · exact ov
    · omega
  refine ⟨v, X.cell c v hv, fun k _ hne => hne, (fun k hk e => by have := ov.role k e; rw [hk] at this; cases this), ⟨.row c, by rw [hl]; exact ov'⟩, fun w' g => ⟨(X.same (same w' g)).cell c v hv, (X.same (same w' g)).frozen c⟩, fun w' L' v' xs' hL gr row hby hsame => ?_⟩
  have row' : ∃ es : List (Cl (kk c)), w'.ownsRow B (tt c) (kk c) v' es.length (es.flatMap Subtype.val) ∧ Es (fun b => ρ b = .cold) L' w (ee c) es xs' := by
    rcases c with _ | _ | _ | _ | c
    · omega
    · omega
    · exact row
    · exact row
    · omega
  obtain ⟨ρ', o, u⟩ := h.setRow c (by omega) (by omega) v v' hv hL gr xs' row' (by rw [hk.2.2.2]; exact hby) hsame
  have hb' : ρ' b = .none := (u.role b X.lt).trans hb
  refine ⟨ρ', cs.set c v', ?_, (X.same (same w' gr)).set c v', u.role, fun k hk hne hn => ?_, fun n hn hnb => (u.mono hn).store _ _ _ hnb⟩
  · rw [hs]
    exact o.aside b c v' hb'
  · rw [Below.heap_setCell _ _ _ _ hne]
    exact u.keep k hk (.inr (.inl hn))
theorem OwnS.atPly {ρ : Nat → Role} {L B : Nat} {w : World} {cs : List Value} {ds : List D} (h : OwnS ρ L B w cs ds) (b : Nat) (X : Bx w b 30 cs) (hb : ρ b = .none) (p i : Nat) (hi : i < 3) (hp : p < (dxs ds 0).length) (z q : Int) (hl : listT ds z q = dxs (dxs ds 0)[p] (11 + i)) (hs : ∀ l, setT ds z q l = ds.set 0 (.sl ((dxs ds 0).set p ((dxs ds 0)[p].set (11 + i) (.sl l))))) : ∃ g m c v, cs[0]? = some (.slice (some ⟨g, 0, none⟩) m c) ∧ m = (dxs ds 0).length ∧ AtL ρ L B w b cs ds z q g (p * 14 + (11 + i)) v := by
  obtain ⟨g, m, c, v, hv0, hm, hg, hgl, hB, hcell, hfz, ov, _⟩ := h.setPly (w' := w) (L' := L) p i hi hp
  have hvg : v.ownBlock ≠ some g := fun e => by have := ov.role g e; rw [hg] at this; cases this
  have hgb : g ≠ b := fun e => by rw [e, hb] at hg; cases hg
  refine ⟨g, m, c, v, hv0, hm, hcell, (fun k hk _ e => by rw [e, hg] at hk; cases hk), (fun k hk e => by have := ov.role k e; rw [hk] at this; cases this), ⟨_, by rw [hl]; exact ov⟩, fun w' gr => ?_, fun w' L' v' xs' hL gr row hby hsame => ?_⟩
  · have e := gr.block g hgl (fun e => hvg e.symm)
    exact ⟨(World.cell?_of_block (a := ⟨_, _, none⟩) e).trans hcell, (frozen_of_block e).trans hfz⟩
  · obtain ⟨g', m', c', v2, hv0', _, _, _, _, hcell', _, _, H⟩ := h.setPly (w' := w') (L' := L') p i hi hp
    rw [hv0] at hv0'
    simp only [Option.some.injEq, Value.slice.injEq, Addr.mk.injEq, and_true] at hv0'
    obtain ⟨rfl, rfl, rfl⟩ := hv0'
    rw [hcell] at hcell'
    obtain rfl := Option.some.inj hcell'
    obtain ⟨ρ', o, u⟩ := H v' xs' hL gr row hby hsame
    have hvb : v.ownBlock ≠ some b := fun e => by have := ov.role b e; rw [hb] at this; cases this
    refine ⟨ρ', cs, by rw [hs]; exact o, (X.same (gr.block b X.lt (fun e => hvb e.symm))).other _ _ hgb, u.role, fun k hk _ hn => u.keep k hk (.inr (.inl hn)), fun n hn _ => u.mono hn⟩
theorem OwnS.at_list {ρ : Nat → Role} {L B : Nat} {w : World} {cs : List Value} {ds : List D} (h : OwnS ρ L B w cs ds) (b : Nat) (X : Bx w b 30 cs) (hb : ρ b = .none) (z p : Int) : ∃ ao n c, cs[0]? = some (.slice ao n c) ∧ (0 < n → ∃ g o, ao = some ⟨g, o, none⟩) ∧ n = (dxs ds 0).length ∧
    ((listPtr b ao n z p = none ∧ listT ds z p = [] ∧ ∀ l, setT ds z p l = ds) ∨ ∃ ab oo v, listPtr b ao n z p = some ⟨ab, oo, none⟩ ∧ AtL ρ L B w b cs ds z p ab oo v) := by
  obtain ⟨v0, hv0, hd0, pl⟩ := h.ply
  obtain ⟨ao, c, hva, hn⟩ : ∃ ao c, v0 = .slice ao (dxs ds 0).length c ∧ (0 < (dxs ds 0).length → ∃ g o, ao = some ⟨g, o, none⟩) := by
    obtain ⟨es, o1, o2, _⟩ := pl.row
    rcases o1.2 with ⟨rfl, h0⟩ | ⟨g, cap, cur, rfl, _⟩
    · rw [o2] at h0
      exact ⟨none, 0, by rw [h0], fun h => by omega⟩
    · rw [o2]
      exact ⟨_, _, rfl, fun _ => ⟨_, _, rfl⟩⟩
  rw [hva] at hv0
  refine ⟨ao, _, c, hv0, hn, rfl, ?_⟩
  cases h0 : z == 0
  · cases h4 : z == 4
    · by_cases hp : p < 0 ∨ ((dxs ds 0).length : Int) ≤ p
      · exact .inl ⟨by unfold listPtr; simp [h0, h4, hp], by unfold listT; simp [h0, h4, hp], fun l => by unfold setT; simp [h0, h4, hp]⟩
      · have hp2 : p.toNat < (dxs ds 0).length := by omega
        have hgd : (dxs ds 0).getD p.toNat [] = (dxs ds 0)[p.toNat] := by rw [List.getD_eq_getElem?_getD, List.getElem?_eq_getElem hp2]; rfl
        have key : ∀ i, i < 3 → kof z = some (11 + i) → (∀ g o, listPtr b (some ⟨g, o, none⟩) (dxs ds 0).length z p = some ⟨g, o + p.toNat * 14 + (11 + i), none⟩) → ∃ ab oo v, listPtr b ao (dxs ds 0).length z p = some ⟨ab, oo, none⟩ ∧ AtL ρ L B w b cs ds z p ab oo v := fun i hi hk hptr => by
          obtain ⟨g, m, c', v, hv0', hm, A⟩ := h.atPly b X hb p.toNat i hi hp2 z p (by unfold listT; simp only [h0, h4, hp, hk, hgd]; simp) (fun l => by unfold setT; simp only [h0, h4, hp, hk, hgd]; simp)
          rw [hv0] at hv0'
          simp only [Option.some.injEq, Value.slice.injEq] at hv0'
          obtain ⟨rfl, _, _⟩ := hv0'
          exact ⟨g, _, v, by rw [hptr]; simp, A⟩
        cases h1 : z == 1
        · cases h2 : z == 2
          · cases h3 : z == 3
            · left
              refine ⟨?_, by unfold listT kof; simp [h0, h4, h1, h2, h3], fun l => by unfold setT kof; simp [h0, h4, h1, h2, h3]⟩
              obtain ⟨g, o, rfl⟩ := hn (by omega)
              unfold listPtr; simp [h0, h4, hp, h1, h2, h3]
            · exact .inr (key 2 (by omega) (by unfold kof; simp [h1, h2, h3]) (fun g o => by unfold listPtr; simp [h0, h4, hp, h1, h2, h3]))
          · exact .inr (key 0 (by omega) (by unfold kof; simp [h1, h2]) (fun g o => by unfold listPtr; simp [h0, h4, hp, h1, h2]))
        · exact .inr (key 1 (by omega) (by unfold kof; simp [h1]) (fun g o => by unfold listPtr; simp [h0, h4, hp, h1]))
    · obtain ⟨v, A⟩ := h.atBox b X hb 3 (by omega) (by omega) z p (by unfold listT; simp [h0, h4]) (fun l => by unfold setT; simp [h0, h4])
      exact .inr ⟨b, 3, v, by unfold listPtr; simp [h0, h4], A⟩
  · obtain ⟨v, A⟩ := h.atBox b X hb 2 (by omega) (by omega) z p (by unfold listT; simp [h0]) (fun l => by unfold setT; simp [h0])
    exact .inr ⟨b, 2, v, by unfold listPtr; simp [h0], A⟩
end Go.Proofs.Ytiebjkbofoppaaa
