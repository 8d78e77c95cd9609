/- Chapter 25: a state of the call's own: which block plays which part. -/
import Derived.Test.YtiebjkbofoppaaaZnG
namespace Go.Proofs.Ytiebjkbofoppaaa
open Go Go.RowKit Go.Sort Cg
/-- The part that a block plays. -/
inductive Role where
  | ply
  | lst (j i : Nat)
  | row (c : Nat)
  | cold
  | none
deriving DecidableEq
def kk : Nat → Nat
  | 1 => 19
  | 4 => 94
  | _ => 1
def tt : Nat → TypeId
  | 1 => 47
  | 4 => 83
  | _ => 3
def ee : Nat → List K
  | 1 => kObject
  | 4 => kItem
  | _ => kI 1
def bb : Nat → Nat
  | 1 => 128
  | 4 => 824
  | _ => 8
theorem ee_len (c : Nat) : (ee c).length = kk c := by
  unfold ee kk
  split <;> rfl
/-- A row of the call's own in a block that plays part r; what its elements hold is cold. -/
structure OwnR (ρ : Nat → Role) (r : Role) (L B k : Nat) (t : TypeId) (e : List K) (by_ : Nat) (w : World) (v : Value) (xs : List (List D)) : Prop where
  row : ∃ es : List (Cl k), w.ownsRow B t k v es.length (es.flatMap Subtype.val) ∧ Es (fun b => ρ b = .cold) L w e es xs
  role : ∀ g, v.ownBlock = some g → ρ g = r
  bytes : xs.length * by_ ≤ L
theorem OwnR.lt {ρ : Nat → Role} {r : Role} {L B k : Nat} {t : TypeId} {e : List K} {by_ : Nat} {w : World} {v : Value} {xs : List (List D)} (h : OwnR ρ r L B k t e by_ w v xs) : ∀ g, v.ownBlock = some g → B ≤ g ∧ g < w.heap.size := by
  obtain ⟨es, h1, _⟩ := h.row
  exact h1.lt
theorem OwnR.frame {ρ ρ' : Nat → Role} {r : Role} {L L' B k : Nat} {t : TypeId} {e : List K} {by_ : Nat} {w w' : World} {v : Value} {xs : List (List D)} (h : OwnR ρ r L B k t e by_ w v xs) (hL : L ≤ L') (hs : w.heap.size ≤ w'.heap.size) (hb : ∀ b, b < w.heap.size → (ρ b = r ∨ ρ b = .cold) → w'.heap[b]? = w.heap[b]?) (hr : ∀ b, b < w.heap.size → ρ' b = ρ b) : OwnR ρ' r L' B k t e by_ w' v xs := by
  obtain ⟨es, h1, h2⟩ := h.row
  exact ⟨⟨es, ownsRow_same h1 (fun g hg => hb g (h1.lt g hg).2 (.inl (h.role g hg))), h2.frame hL hs (fun b hc hlt => hb b hlt (.inr hc)) (fun b hc hlt => (hr b hlt).trans hc)⟩, fun g hg => (hr g (h.lt g hg).2).trans (h.role g hg), Nat.le_trans h.bytes hL⟩
theorem OwnR.rd {ρ : Nat → Role} {r : Role} {L B k : Nat} {t : TypeId} {e : List K} {by_ : Nat} {w : World} {v : Value} {xs : List (List D)} (h : OwnR ρ r L B k t e by_ w v xs) (hk : e.length = k) (G : Nat → Prop) (hG : ∀ b, ρ b = r ∨ ρ b = .cold → G b) : RdC G L w (.sl e by_) v (.sl xs) := by
  obtain ⟨es, h1, h2⟩ := h.row
  exact rdC_of hk (rowK_own Cl.len h1) (h2.frame (Nat.le_refl _) (Nat.le_refl _) (fun _ _ _ => rfl) (fun b hb _ => hG b (.inr hb))) h.bytes (fun g hg _ => hG g (.inl (h.role g hg)))
/-- Player j, the lists of the call's own. -/
structure PlR (ρ : Nat → Role) (L B j : Nat) (w : World) (vs : List Value) (ds : List D) : Prop where
  rd : RdL (fun _ => False) 0 w (kPlayer.take 11) (vs.take 11) (ds.take 11)
  len : vs.length = 14 ∧ ds.length = 14
  lst : ∀ i, i < 3 → ∃ v, vs[11 + i]? = some v ∧ ds[11 + i]? = some (.sl (dxs ds (11 + i))) ∧ OwnR ρ (.lst j i) L B 1 3 (kI 1) 8 w v (dxs ds (11 + i))
theorem flat11 : flatK (kPlayer.take 11) := fun k hk => by
  have h : ∀ k ∈ kPlayer.take 11, (match k with
    | .lit _ => true
    | .sl _ _ => false) = true := by
    rw [← List.all_eq_true]
    rfl
  have := h k hk
  cases k with
  | lit l => exact ⟨l, rfl⟩
  | sl e b => cases this
theorem PlR.frame {ρ ρ' : Nat → Role} {L L' B j : Nat} {w w' : World} {vs : List Value} {ds : List D} (h : PlR ρ L B j w vs ds) (hL : L ≤ L') (hs : w.heap.size ≤ w'.heap.size) (hb : ∀ b, b < w.heap.size → ((∃ i, i < 3 ∧ ρ b = .lst j i) ∨ ρ b = .cold) → w'.heap[b]? = w.heap[b]?) (hr : ∀ b, b < w.heap.size → ρ' b = ρ b) : PlR ρ' L' B j w' vs ds :=
  ⟨h.rd.any flat11, h.len, fun i hi => by
    obtain ⟨v, h1, h2, h3⟩ := h.lst i hi
    exact ⟨v, h1, h2, h3.frame hL hs (fun b hlt hc => hb b hlt (hc.imp (fun e => ⟨i, hi, e⟩) id)) hr⟩⟩
theorem PlR.all {ρ : Nat → Role} {L B j : Nat} {w : World} {vs : List Value} {ds : List D} (h : PlR ρ L B j w vs ds) (G : Nat → Prop) (hG : ∀ b, (∃ i, i < 3 ∧ ρ b = .lst j i) ∨ ρ b = .cold → G b) : RdL G L w kPlayer vs ds := by
  have q : ∀ i (hi : i < 3), ∃ v, vs[11 + i]? = some v ∧ ds[11 + i]? = some (.sl (dxs ds (11 + i))) ∧ RdC G L w kInts v (.sl (dxs ds (11 + i))) := fun i hi => by
    obtain ⟨v, h1, h2, h3⟩ := h.lst i hi
    exact ⟨v, h1, h2, h3.rd (by decide) G (fun b hb => hG b (hb.imp (fun e => ⟨i, hi, e⟩) id))⟩
  obtain ⟨v1, a1, b1, c1⟩ := q 0 (by omega)
  obtain ⟨v2, a2, b2, c2⟩ := q 1 (by omega)
  obtain ⟨v3, a3, b3, c3⟩ := q 2 (by omega)
  have hall := (h.rd.any (G := G) (M := L) (w' := w) flat11).append (.cons c1 (.cons c2 (.cons c3 .nil)))
  have e1 : kPlayer.take 11 ++ [kInts, kInts, kInts] = kPlayer := by rfl
  have e2 : vs.take 11 ++ [v1, v2, v3] = vs := by
    match vs, h.len.1, a1, a2, a3 with
    | [c0, c1, c2, c3, c4, c5, c6, c7, c8, c9, c10, c11, c12, c13], _, h1, h2, h3 =>
      have g1 : c11 = v1 := Option.some.inj h1
      have g2 : c12 = v2 := Option.some.inj h2
      have g3 : c13 = v3 := Option.some.inj h3
      subst g1 g2 g3
      rfl
  have e3 : ds.take 11 ++ [.sl (dxs ds 11), .sl (dxs ds 12), .sl (dxs ds 13)] = ds := by
    match ds, h.len.2, b1, b2, b3 with
    | [c0, c1, c2, c3, c4, c5, c6, c7, c8, c9, c10, c11, c12, c13], _, h1, h2, h3 =>
      have g1 : c11 = .sl _ := Option.some.inj h1
      have g2 : c12 = .sl _ := Option.some.inj h2
      have g3 : c13 = .sl _ := Option.some.inj h3
      show [c0, c1, c2, c3, c4, c5, c6, c7, c8, c9, c10] ++ _ = _
      rw [g1, g2, g3]
      rfl
  rw [e1, e2] at hall
  exact e3 ▸ hall
/-- The players of a state. -/
structure OwnPl (ρ : Nat → Role) (L B : Nat) (w : World) (v : Value) (xs : List (List D)) : Prop where
  row : ∃ es : List (Cl 14), w.ownsRow B 59 14 v es.length (es.flatMap Subtype.val) ∧ es.length = xs.length ∧ ∀ (j : Nat) (vs : Cl 14) (ds : List D), es[j]? = some vs → xs[j]? = some ds → PlR ρ L B j w vs.1 ds
  role : ∀ g, v.ownBlock = some g → ρ g = .ply
  bytes : xs.length * 152 ≤ L
theorem OwnPl.lt {ρ : Nat → Role} {L B : Nat} {w : World} {v : Value} {xs : List (List D)} (h : OwnPl ρ L B w v xs) : ∀ g, v.ownBlock = some g → B ≤ g ∧ g < w.heap.size := by
  obtain ⟨es, h1, _⟩ := h.row
  exact h1.lt
theorem OwnPl.frame {ρ ρ' : Nat → Role} {L L' B : Nat} {w w' : World} {v : Value} {xs : List (List D)} (h : OwnPl ρ L B w v xs) (hL : L ≤ L') (hs : w.heap.size ≤ w'.heap.size) (hb : ∀ b, b < w.heap.size → ((∃ j i, i < 3 ∧ ρ b = .lst j i) ∨ ρ b = .ply ∨ ρ b = .cold) → w'.heap[b]? = w.heap[b]?) (hr : ∀ b, b < w.heap.size → ρ' b = ρ b) : OwnPl ρ' L' B w' v xs := by
  obtain ⟨es, h1, h2, h3⟩ := h.row
  exact ⟨⟨es, ownsRow_same h1 (fun g hg => hb g (h1.lt g hg).2 (.inr (.inl (h.role g hg)))), h2, fun j vs ds e1 e2 => (h3 j vs ds e1 e2).frame hL hs (fun b hlt hc => hb b hlt (hc.elim (fun ⟨i, hi, e⟩ => .inl ⟨j, i, hi, e⟩) (fun e => .inr (.inr e)))) hr⟩, fun g hg => (hr g (h.lt g hg).2).trans (h.role g hg), Nat.le_trans h.bytes hL⟩
theorem OwnPl.rd {ρ : Nat → Role} {L B : Nat} {w : World} {v : Value} {xs : List (List D)} (h : OwnPl ρ L B w v xs) (G : Nat → Prop) (hG : ∀ b, (∃ j i, i < 3 ∧ ρ b = .lst j i) ∨ ρ b = .ply ∨ ρ b = .cold → G b) : RdC G L w (.sl kPlayer 152) v (.sl xs) := by
  obtain ⟨es, h1, h2, h3⟩ := h.row
  exact rdC_of (k := 14) rfl (rowK_own Cl.len h1) ⟨h2, fun j vs ds e1 e2 => (h3 j vs ds e1 e2).all G (fun b hb => hG b (hb.elim (fun ⟨i, hi, e⟩ => .inl ⟨j, i, hi, e⟩) (fun e => .inr (.inr e))))⟩ h.bytes (fun g hg _ => hG g (.inr (.inl (h.role g hg))))
/-- A state of the call's own. -/
structure OwnS (ρ : Nat → Role) (L B : Nat) (w : World) (cs : List Value) (ds : List D) : Prop where
  len : cs.length = 19 ∧ ds.length = 19
  ply : ∃ v, cs[0]? = some v ∧ ds[0]? = some (.sl (dxs ds 0)) ∧ OwnPl ρ L B w v (dxs ds 0)
  row : ∀ c, 1 ≤ c → c < 5 → ∃ v, cs[c]? = some v ∧ ds[c]? = some (.sl (dxs ds c)) ∧ OwnR ρ (.row c) L B (kk c) (tt c) (ee c) (bb c) w v (dxs ds c)
  rest : RdL (fun b => ρ b = .cold) L w (kState.drop 5) (cs.drop 5) (ds.drop 5)
theorem OwnS.rd {ρ : Nat → Role} {L B : Nat} {w : World} {cs : List Value} {ds : List D} (h : OwnS ρ L B w cs ds) : RdL (fun b => ρ b ≠ .none) L w kState cs ds := by
  obtain ⟨v0, a0, b0, c0⟩ := h.ply
  obtain ⟨v1, a1, b1, c1⟩ := h.row 1 (by omega) (by omega)
  obtain ⟨v2, a2, b2, c2⟩ := h.row 2 (by omega) (by omega)
  obtain ⟨v3, a3, b3, c3⟩ := h.row 3 (by omega) (by omega)
  obtain ⟨v4, a4, b4, c4⟩ := h.row 4 (by omega) (by omega)
  have r0 := c0.rd (fun b => ρ b ≠ .none) (fun b hb => by rcases hb with ⟨j, i, _, e⟩ | e | e <;> rw [e] <;> simp)
  have r1 := c1.rd (by decide) (fun b => ρ b ≠ .none) (fun b hb => by rcases hb with e | e <;> rw [e] <;> simp)
  have r2 := c2.rd (by decide) (fun b => ρ b ≠ .none) (fun b hb => by rcases hb with e | e <;> rw [e] <;> simp)
  have r3 := c3.rd (by decide) (fun b => ρ b ≠ .none) (fun b hb => by rcases hb with e | e <;> rw [e] <;> simp)
  have r4 := c4.rd (by decide) (fun b => ρ b ≠ .none) (fun b hb => by rcases hb with e | e <;> rw [e] <;> simp)
  have hall := RdL.append (.cons r0 (.cons r1 (.cons r2 (.cons r3 (.cons r4 .nil))))) (h.rest.imp (G := fun b => ρ b ≠ .none) (fun b hb _ => by rw [hb]; simp))
  have e1 : [K.sl kPlayer 152, .sl (ee 1) (bb 1), .sl (ee 2) (bb 2), .sl (ee 3) (bb 3), .sl (ee 4) (bb 4)] ++ kState.drop 5 = kState := by rfl
  have e2 : [v0, v1, v2, v3, v4] ++ cs.drop 5 = cs := by
    match cs, h.len.1, a0, a1, a2, a3, a4 with
    | q0 :: q1 :: q2 :: q3 :: q4 :: r, _, h0, h1, h2, h3, h4 =>
      have g0 : q0 = v0 := Option.some.inj h0
      have g1 : q1 = v1 := Option.some.inj h1
      have g2 : q2 = v2 := Option.some.inj h2
      have g3 : q3 = v3 := Option.some.inj h3
      have g4 : q4 = v4 := Option.some.inj h4
      subst g0 g1 g2 g3 g4
      rfl
  have e3 : [D.sl (dxs ds 0), .sl (dxs ds 1), .sl (dxs ds 2), .sl (dxs ds 3), .sl (dxs ds 4)] ++ ds.drop 5 = ds := by
    match ds, h.len.2, b0, b1, b2, b3, b4 with
    | q0 :: q1 :: q2 :: q3 :: q4 :: r, _, h0, h1, h2, h3, h4 =>
      have g0 : q0 = .sl _ := Option.some.inj h0
      have g1 : q1 = .sl _ := Option.some.inj h1
      have g2 : q2 = .sl _ := Option.some.inj h2
      have g3 : q3 = .sl _ := Option.some.inj h3
      have g4 : q4 = .sl _ := Option.some.inj h4
      show _ ++ r = _
      conv => rhs; rw [g0, g1, g2, g3, g4]
      rfl
  rw [e1, e2] at hall
  exact e3 ▸ hall
theorem ply_roles {L : Nat} {w : World} {es : List (Cl 14)} {xs : List (List D)} {a : Nat → Nat} (mon : ∀ j, a j ≤ a (j + 1)) (h9 : ∀ (j : Nat) (vs : Cl 14) (ds : List D), es[j]? = some vs → xs[j]? = some ds → PlEl L (a j) (a (j + 1)) w vs.1 ds) : ∀ n, ∃ ρ : Nat → Role, ∀ j, j < n → ∀ (vs : Cl 14) (ds : List D), es[j]? = some vs → xs[j]? = some ds → ∀ i, i < 3 → ∀ v, vs.1[11 + i]? = some v → ∀ g, v.ownBlock = some g → ρ g = .lst j i
  | 0 => ⟨fun _ => .none, fun j hj => absurd hj (Nat.not_lt_zero j)⟩
  | n + 1 => by
    obtain ⟨ρ, hρ⟩ := ply_roles mon h9 n
    cases hes : es[n]? with
    | none => exact ⟨ρ, fun j hj vs ds h1 h2 => by
        by_cases e : j = n
        · subst e; rw [hes] at h1; cases h1
        · exact hρ j (by omega) vs ds h1 h2⟩
    | some vn =>
      cases hxs : xs[n]? with
      | none => exact ⟨ρ, fun j hj vs ds h1 h2 => by
          by_cases e : j = n
          · subst e; rw [hxs] at h2; cases h2
          · exact hρ j (by omega) vs ds h1 h2⟩
      | some dn =>
        obtain ⟨⟨v1, v2, v3, e1, e2, e3, o1, o2, o3, a12, a13, a23⟩, _⟩ := h9 n vn dn hes hxs
        refine ⟨fun b => if b < a n then ρ b else if v1.ownBlock = some b then .lst n 0 else if v2.ownBlock = some b then .lst n 1 else .lst n 2, fun j hj vs ds h1 h2 i hi v hv g hg => ?_⟩
        by_cases e : j = n
        · subst e
          rw [hes] at h1
          obtain rfl := Option.some.inj h1
          have key : ∀ (u : Value) (x : List (List D)), OwnIn (a j) (a (j + 1)) w u x → u.ownBlock = some g → ¬ g < a j := fun u x ho hu => Nat.not_lt.2 (ho.1.lt g hu).1
          rcases i with _ | _ | _ | i
          · obtain rfl : v1 = v := Option.some.inj (e1.symm.trans hv)
            dsimp only
            rw [if_neg (key _ _ o1 hg), if_pos hg]
          · obtain rfl : v2 = v := Option.some.inj (e2.symm.trans hv)
            dsimp only
            rw [if_neg (key _ _ o2 hg), if_neg (fun h => a12 g h hg), if_pos hg]
          · obtain rfl : v3 = v := Option.some.inj (e3.symm.trans hv)
            dsimp only
            rw [if_neg (key _ _ o3 hg), if_neg (fun h => a13 g h hg), if_neg (fun h => a23 g h hg)]
          · omega
        · have hlt : g < a n := by
            obtain ⟨⟨u1, u2, u3, f1, f2, f3, q1, q2, q3, _⟩, _⟩ := h9 j vs ds h1 h2
            have hm := mon_le mon (show j + 1 ≤ n by omega)
            rcases i with _ | _ | _ | i
            · obtain rfl : u1 = v := Option.some.inj (f1.symm.trans hv)
              have := q1.2 g hg; omega
            · obtain rfl : u2 = v := Option.some.inj (f2.symm.trans hv)
              have := q2.2 g hg; omega
            · obtain rfl : u3 = v := Option.some.inj (f3.symm.trans hv)
              have := q3.2 g hg; omega
            · omega
          dsimp only
          rw [if_pos hlt]
          exact hρ j (by omega) vs ds h1 h2 i hi v hv g hg
theorem OwnX.cold {k : Nat} {t : TypeId} {e : List K} {F : Nat → Prop} {L B lo hi : Nat} {w : World} {v : Value} {xs : List (List D)} (h : OwnX k t e F L B lo hi w v xs) {by_ : Nat} (hk : e.length = k) (hby : xs.length * by_ ≤ L) (G : Nat → Prop) (hG1 : ∀ b, F b → b < B → G b) (hG2 : ∀ b, lo ≤ b → G b) : RdC G L w (.sl e by_) v (.sl xs) := by
  obtain ⟨es, h1, h2, _, _⟩ := h
  exact rdC_of hk (rowK_own Cl.len h1) (h2.frame (Nat.le_refl _) (Nat.le_refl _) (fun _ _ _ => rfl) (fun b hb _ => hb.elim (fun h => hG1 b h.1 h.2) (fun h => hG2 b h.1))) hby (fun g hg _ => hG2 g (h1.lt g hg).1)
theorem rd_bytes {F : Nat → Prop} {L : Nat} {w : World} {e : List K} {by_ : Nat} {v : Value} {xs : List (List D)} (h : RdC F L w (.sl e by_) v (.sl xs)) : xs.length * by_ ≤ L := by
  obtain ⟨_, _, _, _, h, _⟩ := h.form
  exact h
open Classical in
theorem ownS_of {F : Nat → Prop} {L B m1 m2 m3 m4 m5 m6 m7 m8 : Nat} {w0 w : World} {cs cs' : List Value} {ds : List D} {v0 v1 v2 v3 v4 v5 v6 v16 : Value} (hB : w0.heap.size = B)
    (P0 : PlyOwn L (B + 2) m1 w v0 (dxs ds 0)) (P1 : OwnE 19 47 kObject m1 m2 w v1 (dxs ds 1)) (P2 : OwnIn m2 m3 w v2 (dxs ds 2)) (P3 : OwnIn m3 m4 w v3 (dxs ds 3))
    (P4 : OwnX 94 83 kItem F L B m4 m5 w v4 (dxs ds 4)) (P5 : OwnX 89 92 kWaiting F L B m5 m6 w v5 (dxs ds 5)) (P6 : OwnX 6 94 kCont F L B m6 m7 w v6 (dxs ds 6)) (P7 : OwnIn m7 m8 w v16 (dxs ds 16))
    (hm1 : B + 2 ≤ m1) (hm2 : m1 ≤ m2) (hm3 : m2 ≤ m3) (hm4 : m3 ≤ m4) (hm5 : m4 ≤ m5) (hm6 : m5 ≤ m6) (hm7 : m6 ≤ m7) (hfl : flatK kObject)
    (h : RdL F L w0 kState cs ds) (hb : Below w0.heap.size w0 w) (hc : cs' = (((((((cs.set 0 v0).set 1 v1).set 2 v2).set 3 v3).set 4 v4).set 5 v5).set 6 v6).set 16 v16) : ∃ ρ, OwnS ρ L B w cs' ds ∧ ∀ b, b < B → ¬ F b → ρ b = .none := by
  obtain ⟨hl1, hl2⟩ := h.len
  rw [kState_len] at hl1 hl2
  obtain ⟨_, _, d0, r0⟩ := h.sl 0 _ _ rfl
  obtain ⟨_, _, d1, r1⟩ := h.sl 1 _ _ rfl
  obtain ⟨_, _, d2, r2⟩ := h.sl 2 _ _ rfl
  obtain ⟨_, _, d3, r3⟩ := h.sl 3 _ _ rfl
  obtain ⟨_, _, d4, r4⟩ := h.sl 4 _ _ rfl
  obtain ⟨_, _, d5, r5⟩ := h.sl 5 _ _ rfl
  obtain ⟨_, _, d6, r6⟩ := h.sl 6 _ _ rfl
  obtain ⟨_, _, d16, r16⟩ := h.sl 16 _ _ rfl
  obtain ⟨es0, a, o0, el0, a0, mon, top, h9⟩ := P0
  obtain ⟨es1, o1, x1, b1⟩ := P1
  obtain ⟨⟨es2, o2, x2⟩, b2⟩ := P2
  obtain ⟨⟨es3, o3, x3⟩, b3⟩ := P3
  have P4' := P4
  obtain ⟨es4, o4, x4, b4, _⟩ := P4
  obtain ⟨ρ0, hρ0⟩ := ply_roles mon h9 es0.length
  obtain ⟨ρ, hρ⟩ : ∃ ρ : Nat → Role, ρ = fun b => if b < B then (if F b then .cold else .none) else if v0.ownBlock = some b then .ply else if b < m1 then ρ0 b else if v1.ownBlock = some b then .row 1 else if v2.ownBlock = some b then .row 2 else if v3.ownBlock = some b then .row 3 else if v4.ownBlock = some b then .row 4 else .cold := ⟨_, rfl⟩
  have c0 : ∀ b, F b → b < B → ρ b = .cold := fun b hF hlt => by rw [hρ]; simp only [if_pos hlt, if_pos hF]
  have c1 : ∀ b, b < B → ¬ F b → ρ b = .none := fun b hlt hF => by rw [hρ]; simp only [if_pos hlt, if_neg hF]
  have hv0 : ∀ g, v0.ownBlock = some g → B + 2 ≤ g ∧ g < m1 := fun g hg => ⟨(o0.lt g hg).1, Nat.lt_of_lt_of_le (a0 g hg) (Nat.le_trans (mon_le mon (Nat.zero_le _)) top)⟩
  have hv1 : ∀ g, v1.ownBlock = some g → m1 ≤ g ∧ g < m2 := fun g hg => ⟨(o1.lt g hg).1, b1 g hg⟩
  have hv2 : ∀ g, v2.ownBlock = some g → m2 ≤ g ∧ g < m3 := fun g hg => ⟨(o2.lt g hg).1, b2 g hg⟩
  have hv3 : ∀ g, v3.ownBlock = some g → m3 ≤ g ∧ g < m4 := fun g hg => ⟨(o3.lt g hg).1, b3 g hg⟩
  have hv4 : ∀ g, v4.ownBlock = some g → m4 ≤ g ∧ g < m5 := fun g hg => ⟨(o4.lt g hg).1, b4 g hg⟩
  have n0 : ∀ b, m1 ≤ b → ¬ v0.ownBlock = some b := fun b hb he => by have := hv0 b he; omega
  have n1 : ∀ b, m2 ≤ b → ¬ v1.ownBlock = some b := fun b hb he => by have := hv1 b he; omega
  have n2 : ∀ b, m3 ≤ b → ¬ v2.ownBlock = some b := fun b hb he => by have := hv2 b he; omega
  have n3 : ∀ b, m4 ≤ b → ¬ v3.ownBlock = some b := fun b hb he => by have := hv3 b he; omega
  have n4 : ∀ b, m5 ≤ b → ¬ v4.ownBlock = some b := fun b hb he => by have := hv4 b he; omega
  have cold : ∀ b, m4 ≤ b → ¬ v4.ownBlock = some b → ρ b = .cold := fun b h1 h2 => by
    rw [hρ]
    simp only [if_neg (show ¬ b < B by omega), if_neg (n0 b (by omega)), if_neg (show ¬ b < m1 by omega), if_neg (n1 b (by omega)), if_neg (n2 b (by omega)), if_neg (n3 b (by omega)), if_neg h2]
  refine ⟨ρ, ⟨⟨by rw [hc]; simp only [List.length_set]; exact hl1, hl2⟩, ⟨v0, by rw [hc]; simp [hl1], d0, ⟨⟨es0, own_low o0 (by omega), el0, fun j vs dj e1 e2 => ?_⟩, fun g hg => ?_, (rd_bytes r0)⟩⟩, fun c hc1 hc5 => ?_, ?_⟩, c1⟩
  · have P := h9 j vs dj e1 e2
    have hj := (List.getElem?_eq_some_iff.1 e1).1
    have hro := hρ0 j hj vs dj e1 e2
    have hlo : a 0 ≤ a j := mon_le mon (Nat.zero_le j)
    have hhi : a (j + 1) ≤ m1 := Nat.le_trans (mon_le mon (by rw [← el0]; exact hj)) top
    obtain ⟨⟨u1, u2, u3, f1, f2, f3, q1, q2, q3, _⟩, rd⟩ := P
    have key : ∀ i, i < 3 → ∀ u, vs.1[11 + i]? = some u → OwnIn (a j) (a (j + 1)) w u (dxs dj (11 + i)) → ∃ v, vs.1[11 + i]? = some v ∧ dj[11 + i]? = some (.sl (dxs dj (11 + i))) ∧ OwnR ρ (.lst j i) L B 1 3 (kI 1) 8 w v (dxs dj (11 + i)) := fun i hi u hu ho => by
      obtain ⟨_, _, hd, hr⟩ := rd.sl (11 + i) (kI 1) 8 (by rcases i with _ | _ | _ | i; rfl; rfl; rfl; omega)
      obtain ⟨⟨es, h1, h2⟩, h3⟩ := ho
      have hne : v0.ownBlock ≠ none := by
        rcases o0.2 with ⟨_, h0⟩ | ⟨g, cap, cur, rfl, _⟩
        · omega
        · intro h; cases h
      obtain ⟨gp, hgp⟩ := Option.ne_none_iff_exists'.1 hne
      have hgp0 := a0 gp hgp
      have hgp1 := hv0 gp hgp
      refine ⟨u, hu, hd, ⟨⟨es, own_low h1 (by omega), es_any (flat_ints 1) h2⟩, fun g hg => ?_, (rd_bytes hr)⟩⟩
      have hg1 := (h1.lt g hg).1
      have hg2 := h3 g hg
      rw [hρ]
      simp only [if_neg (show ¬ g < B by omega), if_neg (show ¬ v0.ownBlock = some g from fun h => by have := a0 g h; omega), if_pos (show g < m1 by omega)]
      exact hro i hi u hu g hg
    refine ⟨(rd.take 11).any flat11, ⟨vs.len, by rw [rd.len.2]; rfl⟩, fun i hi => ?_⟩
    rcases i with _ | _ | _ | i
    · exact key 0 hi u1 f1 q1
    · exact key 1 hi u2 f2 q2
    · exact key 2 hi u3 f3 q3
    · omega
  · have := hv0 g hg
    rw [hρ]
    simp only [if_neg (show ¬ g < B by omega), if_pos hg]
  · have nB : ∀ g, m1 ≤ g → ¬ g < B := fun g hg => by omega
    rcases c with _ | _ | _ | _ | _ | c
    · omega
    · refine ⟨v1, by rw [hc]; simp [hl1], d1, ⟨⟨es1, own_low o1 (by omega), es_any hfl x1⟩, fun g hg => ?_, (rd_bytes r1)⟩⟩
      have := hv1 g hg
      rw [hρ]
      simp only [if_neg (nB g (by omega)), if_neg (n0 g (by omega)), if_neg (show ¬ g < m1 by omega), if_pos hg]
    · refine ⟨v2, by rw [hc]; simp [hl1], d2, ⟨⟨es2, own_low o2 (by omega), es_any (flat_ints 1) x2⟩, fun g hg => ?_, (rd_bytes r2)⟩⟩
      have := hv2 g hg
      rw [hρ]
      simp only [if_neg (nB g (by omega)), if_neg (n0 g (by omega)), if_neg (show ¬ g < m1 by omega), if_neg (n1 g (by omega)), if_pos hg]
    · refine ⟨v3, by rw [hc]; simp [hl1], d3, ⟨⟨es3, own_low o3 (by omega), es_any (flat_ints 1) x3⟩, fun g hg => ?_, (rd_bytes r3)⟩⟩
      have := hv3 g hg
      rw [hρ]
      simp only [if_neg (nB g (by omega)), if_neg (n0 g (by omega)), if_neg (show ¬ g < m1 by omega), if_neg (n1 g (by omega)), if_neg (n2 g (by omega)), if_pos hg]
    · refine ⟨v4, by rw [hc]; simp [hl1], d4, ⟨⟨es4, own_low o4 (by omega), x4.frame (Nat.le_refl _) (Nat.le_refl _) (fun _ _ _ => rfl) (fun b hb _ => hb.elim (fun h => c0 b h.1 h.2) (fun h => cold b h.1 h.2))⟩, fun g hg => ?_, (rd_bytes r4)⟩⟩
      have := hv4 g hg
      rw [hρ]
      simp only [if_neg (nB g (by omega)), if_neg (n0 g (by omega)), if_neg (show ¬ g < m1 by omega), if_neg (n1 g (by omega)), if_neg (n2 g (by omega)), if_neg (n3 g (by omega)), if_pos hg]
    · omega
  · have hr : RdL (fun b => ρ b = .cold) L w kState cs ds := h.frame (Nat.le_refl _) hb.size (fun b _ hlt => hb.block b hlt) (fun b hF hlt => c0 b hF (by omega))
    have q5 := P5.cold (by decide) (rd_bytes r5) (fun b => ρ b = .cold) c0 (fun b hb => cold b (by omega) (n4 b hb))
    have q6 := P6.cold (by decide) (rd_bytes r6) (fun b => ρ b = .cold) c0 (fun b hb => cold b (by omega) (n4 b (by omega)))
    have q16 := P7.1.rd (fun b => ρ b = .cold) L (rd_bytes r16) (fun g hg _ => by have := (P7.1.lt g hg).1; exact cold g (by omega) (n4 g (by omega)))
    have s5 := hr.set 5 _ v5 _ rfl q5
    have s6 := s5.set 6 _ v6 _ rfl q6
    have s16 := s6.set 16 _ v16 _ rfl q16
    rw [set_same ds 5 _ d5, set_same ds 6 _ d6, set_same ds 16 _ d16] at s16
    have := s16.drop 5
    have e : (((cs.set 5 v5).set 6 v6).set 16 v16).drop 5 = cs'.drop 5 := by
      rw [hc]
      simp [List.drop_set]
    rw [e] at this
    exact this
end Go.Proofs.Ytiebjkbofoppaaa
