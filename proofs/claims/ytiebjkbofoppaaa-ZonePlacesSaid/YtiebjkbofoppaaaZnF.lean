/- Chapter 25: copyAbility. -/
import Derived.Test.YtiebjkbofoppaaaZnD
import Derived.Test.YtiebjkbofoppaaaBlc
import Derived.Deep.RegionHeld3
import Derived.Deep.RegionLaw
namespace Go.Proofs.Ytiebjkbofoppaaa
open Go Go.RowKit Go.Sort Cg
theorem infoAbility : (Try.prog.info? 78).map (·.size) = some 72 := by kernel_rfl
theorem own_form {w : World} {B e k n : Nat} {v : Value} {xs : List Value} (h : w.ownsRow B e k v n xs) : (∃ cap, v = .slice none n cap ∧ n = 0) ∨ ∃ g cap, v = .slice (some ⟨g, 0, none⟩) n cap := by
  rcases h.2 with ⟨rfl, rfl⟩ | ⟨g, cap, cur, rfl, _⟩
  · exact .inl ⟨0, rfl, rfl⟩
  · exact .inr ⟨g, cap, rfl⟩
theorem own_sl {w : World} {B e k n : Nat} {v : Value} {xs : List Value} (h : w.ownsRow B e k v n xs) : ∃ ao m c, v = .slice ao m c := by
  rcases h.2 with ⟨rfl, _⟩ | ⟨g, cap, cur, rfl, _⟩
  · exact ⟨_, _, _, rfl⟩
  · exact ⟨_, _, _, rfl⟩
theorem own_blkC {k : Nat} {w : World} {base e g n cap : Nat} {es : List (Cl k)} (h : w.ownsRow base e k (.slice (some ⟨g, 0, none⟩) n cap) n (es.flatMap Subtype.val)) (hn : es.length = n) : BlkC k e w g es := by
  rcases h.2 with ⟨hv, _⟩ | ⟨g', cap', cur, hv, _, hg, hc, _, hs, ht⟩
  · cases hv
  · cases hv
    refine ⟨cur, hg, by rw [hs, hn]; exact Nat.mul_le_mul_right k hc, fun j x hj i u hu => ?_⟩
    have hi := (List.getElem?_eq_some_iff.1 hu).1
    rw [Cl.len x] at hi
    have hjl := (List.getElem?_eq_some_iff.1 hj).1
    have hjk : j * k + i < n * k := by
      have : (j + 1) * k ≤ n * k := Nat.mul_le_mul_right k (by omega)
      rw [Nat.add_mul] at this
      omega
    have := flat_get (enc := Subtype.val) Cl.len es j x hj i hi
    rw [← ht, List.getElem?_take, if_pos hjk, hu] at this
    rw [← Array.getElem?_toList]
    exact this
theorem flatMod : flatK kMod := fun k hk => by
  have h : ∀ k ∈ kMod, (match k with
    | .lit _ => true
    | .sl _ _ => false) = true := by
    rw [← List.all_eq_true]
    rfl
  have := h k hk
  cases k with
  | lit l => exact ⟨l, rfl⟩
  | sl e b => cases this
theorem cloneFMod (F : Nat → Prop) (L : Nat) (v : Value) (xs : List (List D)) (w : World) (h : RdC F L w (.sl kMod 176) v (.sl xs)) (hL : L ≤ 140737488355328) : Calls Try.prog 60 #[v] w fun e w' => ∃ ao m c, e = .returned (.slice ao m c) ∧ (∀ G : Nat → Prop, (∀ b, w.heap.size ≤ b → b < w'.heap.size → G b) → RdC G L w' (.sl kMod 176) (.slice ao m c) (.sl xs)) ∧ Below w.heap.size w w' := by
  obtain ⟨es, h1, h2, h3⟩ := h.row (k := 20) rfl
  refine (cloneMod v es w h1 (by rw [h2.len]; omega)).mono ?_
  rintro e w' ⟨v', rfl, own, b⟩
  obtain ⟨ao, m, c, rfl⟩ := own_sl own
  exact ⟨ao, m, c, rfl, fun G hG => rdC_of rfl (rowK_own Cl.len own) (es_any flatMod h2) h3 (fun g hg hlt => hG g (own.lt g hg).1 hlt), b⟩
theorem flatSpec : flatK kSpec := fun k hk => by
  have h : ∀ k ∈ kSpec, (match k with
    | .lit _ => true
    | .sl _ _ => false) = true := by
    rw [← List.all_eq_true]
    rfl
  have := h k hk
  cases k with
  | lit l => exact ⟨l, rfl⟩
  | sl e b => cases this
theorem cloneFSpec (F : Nat → Prop) (L : Nat) (v : Value) (xs : List (List D)) (w : World) (h : RdC F L w (.sl kSpec 144) v (.sl xs)) (hL : L ≤ 140737488355328) : Calls Try.prog 75 #[v] w fun e w' => ∃ ao m c, e = .returned (.slice ao m c) ∧ (∀ G : Nat → Prop, (∀ b, w.heap.size ≤ b → b < w'.heap.size → G b) → RdC G L w' (.sl kSpec 144) (.slice ao m c) (.sl xs)) ∧ Below w.heap.size w w' := by
  obtain ⟨es, h1, h2, h3⟩ := h.row (k := 18) rfl
  refine (cloneSpec v es w h1 (by rw [h2.len]; omega)).mono ?_
  rintro e w' ⟨v', rfl, own, b⟩
  obtain ⟨ao, m, c, rfl⟩ := own_sl own
  exact ⟨ao, m, c, rfl, fun G hG => rdC_of rfl (rowK_own Cl.len own) (es_any flatSpec h2) h3 (fun g hg hlt => hG g (own.lt g hg).1 hlt), b⟩
theorem flatTarget : flatK kTarget := fun k hk => by
  have h : ∀ k ∈ kTarget, (match k with
    | .lit _ => true
    | .sl _ _ => false) = true := by
    rw [← List.all_eq_true]
    rfl
  have := h k hk
  cases k with
  | lit l => exact ⟨l, rfl⟩
  | sl e b => cases this
theorem cloneFTarget (F : Nat → Prop) (L : Nat) (v : Value) (xs : List (List D)) (w : World) (h : RdC F L w (.sl kTarget 16) v (.sl xs)) (hL : L ≤ 140737488355328) : Calls Try.prog 57 #[v] w fun e w' => ∃ ao m c, e = .returned (.slice ao m c) ∧ (∀ G : Nat → Prop, (∀ b, w.heap.size ≤ b → b < w'.heap.size → G b) → RdC G L w' (.sl kTarget 16) (.slice ao m c) (.sl xs)) ∧ Below w.heap.size w w' := by
  obtain ⟨es, h1, h2, h3⟩ := h.row (k := 2) rfl
  refine (cloneTarget v es w h1 (by rw [h2.len]; omega)).mono ?_
  rintro e w' ⟨v', rfl, own, b⟩
  obtain ⟨ao, m, c, rfl⟩ := own_sl own
  exact ⟨ao, m, c, rfl, fun G hG => rdC_of rfl (rowK_own Cl.len own) (es_any flatTarget h2) h3 (fun g hg hlt => hG g (own.lt g hg).1 hlt), b⟩
theorem flatint : flatK (kI 1) := fun k hk => by
  have h : ∀ k ∈ (kI 1), (match k with
    | .lit _ => true
    | .sl _ _ => false) = true := by
    rw [← List.all_eq_true]
    rfl
  have := h k hk
  cases k with
  | lit l => exact ⟨l, rfl⟩
  | sl e b => cases this
theorem cloneFint (F : Nat → Prop) (L : Nat) (v : Value) (xs : List (List D)) (w : World) (h : RdC F L w (.sl (kI 1) 8) v (.sl xs)) (hL : L ≤ 140737488355328) : Calls Try.prog 54 #[v] w fun e w' => ∃ ao m c, e = .returned (.slice ao m c) ∧ (∀ G : Nat → Prop, (∀ b, w.heap.size ≤ b → b < w'.heap.size → G b) → RdC G L w' (.sl (kI 1) 8) (.slice ao m c) (.sl xs)) ∧ Below w.heap.size w w' := by
  obtain ⟨es, h1, h2, h3⟩ := h.row (k := 1) rfl
  refine (cloneint v es w h1 (by rw [h2.len]; omega)).mono ?_
  rintro e w' ⟨v', rfl, own, b⟩
  obtain ⟨ao, m, c, rfl⟩ := own_sl own
  exact ⟨ao, m, c, rfl, fun G hG => rdC_of rfl (rowK_own Cl.len own) (es_any flatint h2) h3 (fun g hg hlt => hG g (own.lt g hg).1 hlt), b⟩
theorem ownsRow_same {w w' : World} {B e size n : Nat} {v : Value} {xs : List Value} (h : w.ownsRow B e size v n xs) (hb : ∀ g, v.ownBlock = some g → w'.heap[g]? = w.heap[g]?) : w'.ownsRow B e size v n xs := by
  refine ⟨h.1, ?_⟩
  rcases h.2 with hn | ⟨g, cap, cur, rfl, hg, hgg, rest⟩
  · exact .inl hn
  · exact .inr ⟨g, cap, cur, rfl, hg, by rw [hb g rfl]; exact hgg, rest⟩
/-- The world changes in block g alone. -/
theorem RdC.but {F : Nat → Prop} {L : Nat} {w w' : World} {k : K} {v : Value} {d : D} (h : RdC F L w k v d) (g : Nat) (hs : w'.heap.size = w.heap.size) (hb : ∀ b, b ≠ g → w'.heap[b]? = w.heap[b]?) (hF : ∀ b, F b → b ≠ g) : RdC F L w' k v d :=
  h.frame (Nat.le_refl _) (by rw [hs]; exact Nat.le_refl _) (fun b hFb _ => hb b (hF b hFb)) (fun _ h _ => h)
/-- What copyAbility's loop keeps. -/
structure AbS (F : Nat → Prop) (L : Nat) (w : World) (g : Nat) (cs3 zs : List Value) (v1 v2 v3 : Value) (ds : List D) (n : Nat) (wr : World) : Prop where
  box : Bx wr w.heap.size 78 cs3
  res : Bx wr (w.heap.size + 1) 78 zs
  bel : Below w.heap.size w wr
  siz : w.heap.size + 2 ≤ wr.heap.size
  glt : w.heap.size + 2 ≤ g
  r1 : RdC (fun b => (F b ∧ b < w.heap.size) ∨ (w.heap.size + 2 ≤ b ∧ b ≠ g)) L wr (.sl kMod 176) v1 (.sl (dxs ds 17))
  r2 : RdC (fun b => (F b ∧ b < w.heap.size) ∨ (w.heap.size + 2 ≤ b ∧ b ≠ g)) L wr (.sl kSpec 144) v2 (.sl (dxs ds 48))
  r3 : (n = 0 ∧ dxs ds 49 = [] ∧ ∃ ao cap, v3 = .slice ao 0 cap ∧ (ao = none → cap = 0)) ∨ (∃ cap es, v3 = .slice (some ⟨g, 0, none⟩) n cap ∧ n ≤ cap ∧ es.length = n ∧ Lp (fun b => (F b ∧ b < w.heap.size) ∨ (w.heap.size + 2 ≤ b ∧ b ≠ g)) L 64 121 kEffect wr g es (dxs ds 49))
theorem AbS.old {F : Nat → Prop} {L : Nat} {w : World} {g : Nat} {cs3 zs : List Value} {v1 v2 v3 : Value} {ds : List D} {n : Nat} {wr wr' : World} (h : AbS F L w g cs3 zs v1 v2 v3 ds n wr) (hb : Below wr.heap.size wr wr') : AbS F L w g cs3 zs v1 v2 v3 ds n wr' :=
  ⟨h.box.old hb, h.res.old hb, h.bel.trans (hb.mono h.bel.size), Nat.le_trans h.siz hb.size, h.glt, h.r1.old hb, h.r2.old hb, by
    rcases h.r3 with h | ⟨cap, es, h1, h2, h3, h4⟩
    · exact .inl h
    · exact .inr ⟨cap, es, h1, h2, h3, h4.old hb⟩⟩
/-- The Mods of effect j copied. -/
theorem AbS.put {F : Nat → Prop} {L : Nat} {w : World} {g : Nat} {cs3 zs : List Value} {v1 v2 v3 : Value} {ds : List D} {n : Nat} {wr : World} (h : AbS F L w g cs3 zs v1 v2 v3 ds n wr) (j : Nat) (hj : j < n) (u : Value) (hu : ∀ ms, (∃ xs : List D, (dxs ds 49)[j]? = some xs ∧ xs[63]? = some (.sl ms)) → RdC (fun b => (F b ∧ b < w.heap.size) ∨ (w.heap.size + 2 ≤ b ∧ b ≠ g)) L wr (.sl kMod 176) u (.sl ms)) :
    AbS F L w g cs3 zs v1 v2 v3 ds n (wr.setCell ⟨g, j * 64 + 63, none⟩ u) := by
  have hg := h.glt
  have hs : (wr.setCell ⟨g, j * 64 + 63, none⟩ u).heap.size = wr.heap.size := by simp [World.setCell]
  have ho : ∀ b, b ≠ g → (wr.setCell ⟨g, j * 64 + 63, none⟩ u).heap[b]? = wr.heap[b]? := fun b hb => Below.heap_setCell wr ⟨g, j * 64 + 63, none⟩ u b hb
  have hF : ∀ b, ((F b ∧ b < w.heap.size) ∨ (w.heap.size + 2 ≤ b ∧ b ≠ g)) → b ≠ g := fun b hb => by rcases hb with hb | hb <;> omega
  refine ⟨h.box.other _ _ (by omega), h.res.other _ _ (by omega), below_set h.bel _ _ _ (by omega), by rw [hs]; exact h.siz, h.glt, RdC.but h.r1 g hs ho hF, RdC.but h.r2 g hs ho hF, ?_⟩
  rcases h.r3 with ⟨h0, _⟩ | ⟨cap, es, h1, h2, h3, h4⟩
  · omega
  · have hx : j < (dxs ds 49).length := by rw [← h4.es.len]; omega
    have hrd := h4.es.get j (by omega) hx
    obtain ⟨m, d, hm, hd, hc⟩ := hrd.get 63 (.sl kMod 176) rfl
    have hd2 : ∃ ms, d = .sl ms := by cases hc <;> exact ⟨_, rfl⟩
    obtain ⟨ms, rfl⟩ := hd2
    obtain ⟨y, hy⟩ := h4.put1 (by rfl) j (by omega) hx 63 u (.sl kMod 176) (.sl ms) rfl hd (hu ms ⟨_, List.getElem?_eq_getElem hx, hd⟩)
    exact .inr ⟨cap, es.set j y, h1, h2, by rw [List.length_set]; exact h3, hy⟩
theorem AbS.mods {F : Nat → Prop} {L : Nat} {w : World} {g : Nat} {cs3 zs : List Value} {v1 v2 v3 : Value} {ds : List D} {n : Nat} {wr : World} (h : AbS F L w g cs3 zs v1 v2 v3 ds n wr) (j : Nat) (hj : j < n) : ∃ ms m, (∃ xs : List D, (dxs ds 49)[j]? = some xs ∧ xs[63]? = some (.sl ms)) ∧ wr.cell? ⟨g, j * 64 + 63, none⟩ = some m ∧ wr.frozen? ⟨g, j * 64 + 63, none⟩ = false ∧ RdC (fun b => (F b ∧ b < w.heap.size) ∨ (w.heap.size + 2 ≤ b ∧ b ≠ g)) L wr (.sl kMod 176) m (.sl ms) ∧ g < wr.heap.size := by
  rcases h.r3 with ⟨h0, _⟩ | ⟨cap, es, h1, h2, h3, h4⟩
  · omega
  · have hx : j < (dxs ds 49).length := by rw [← h4.es.len]; omega
    have hrd := h4.es.get j (by omega) hx
    obtain ⟨m, d, hm, hd, hc⟩ := hrd.get 63 (.sl kMod 176) rfl
    have hd2 : ∃ ms, d = .sl ms := by cases hc <;> exact ⟨_, rfl⟩
    obtain ⟨ms, rfl⟩ := hd2
    exact ⟨ms, m, ⟨_, List.getElem?_eq_getElem hx, hd⟩, h4.blk.cell j _ (List.getElem?_eq_getElem (by omega)) 63 m hm, h4.blk.frozen _, hc, h4.blk.lt⟩
theorem sets_size (b : Nat) : ∀ (us : List Value) (o : Nat) (w : World), (w.setCells b o us).heap.size = w.heap.size
  | [], _, _ => rfl
  | u :: r, o, w => by rw [World.setCells, sets_size b r]; simp [World.setCell]
def AbBox (b : Nat) (v : Value) (w : World) : Prop := w.cell? ⟨b, 49, none⟩ = some v
theorem rdL_ability {F : Nat → Prop} {L : Nat} {w : World} {g : Nat} {cs cs3 zs : List Value} {v1 v2 v3 : Value} {ds : List D} {n : Nat} {wr : World} (h : AbS F L w g cs3 zs v1 v2 v3 ds n wr) (hr : RdL F L w kAbility cs ds) (hc : cs3 = ((cs.set 17 v1).set 48 v2).set 49 v3) : RdL (fun b => (F b ∧ b < w.heap.size) ∨ w.heap.size + 2 ≤ b) L wr kAbility cs3 ds := by
  have h0 : RdL (fun b => (F b ∧ b < w.heap.size) ∨ w.heap.size + 2 ≤ b) L wr kAbility cs ds := hr.frame (Nat.le_refl _) h.bel.size (fun b _ hlt => h.bel.block b hlt) (fun b hF hlt => .inl ⟨hF, hlt⟩)
  have im : ∀ b, ((F b ∧ b < w.heap.size) ∨ (w.heap.size + 2 ≤ b ∧ b ≠ g)) → ((F b ∧ b < w.heap.size) ∨ w.heap.size + 2 ≤ b) := fun b hb => by
    rcases hb with hb | hb
    · exact .inl hb
    · exact .inr hb.1
  obtain ⟨_, _, d1, _⟩ := hr.sl 17 _ _ rfl
  obtain ⟨_, _, d2, _⟩ := hr.sl 48 _ _ rfl
  obtain ⟨_, _, d3, r3⟩ := hr.sl 49 _ _ rfl
  obtain ⟨_, _, _, hby⟩ := r3.row (k := 64) rfl
  have e : ∀ (i : Nat) (d : D), ds[i]? = some d → ds.set i d = ds := fun i d hd => by
    apply List.ext_getElem?
    intro j
    by_cases hj : j = i
    · subst hj
      rw [List.getElem?_set_self (List.getElem?_eq_some_iff.1 hd).1, hd]
    · rw [List.getElem?_set_ne (fun h => hj h.symm)]
  have c3 : RdC (fun b => (F b ∧ b < w.heap.size) ∨ w.heap.size + 2 ≤ b) L wr (.sl kEffect 560) v3 (.sl (dxs ds 49)) := by
    rcases h.r3 with ⟨_, hx, ao, cap, rfl, hn⟩ | ⟨cap, es, rfl, hcap, hlen, hlp⟩
    · rw [hx]; exact .slNil hn
    · have hrow := hlp.blk.row cap (by rw [hlen]; exact hcap)
      rw [hlen] at hrow
      exact rdC_of (k := 64) rfl hrow (hlp.es.frame (Nat.le_refl _) (Nat.le_refl _) (fun _ _ _ => rfl) (fun b hb _ => im b hb)) hby (fun b hb _ => by cases hb; exact .inr h.glt)
  have s1 := h0.set 17 _ v1 _ rfl (h.r1.imp (fun b hb _ => im b hb))
  have s2 := s1.set 48 _ v2 _ rfl (h.r2.imp (fun b hb _ => im b hb))
  have s3 := s2.set 49 _ v3 _ rfl c3
  rw [e 17 _ d1, e 48 _ d2, e 49 _ d3] at s3
  rw [hc]
  exact s3
set_option maxRecDepth 100000 in
set_option maxHeartbeats 4000000 in
theorem copyAbility (F : Nat → Prop) (L : Nat) (cs : List Value) (ds : List D) (w : World) (h : RdL F L w kAbility cs ds) (hL : L ≤ 140737488355328) :
    Calls Try.prog 56 #[.agg cs.toArray] w fun e w' => ∃ cs', e = .returned (.agg cs'.toArray) ∧ RdL (fun b => (F b ∧ b < w.heap.size) ∨ w.heap.size ≤ b) L w' kAbility cs' ds ∧ Below w.heap.size w w' := by
  have hl := h.len.1
  rw [kAbility_len] at hl
  have HH := Lib.hid h
  obtain ⟨u1, h1, d1, r1⟩ := h.sl 17 _ _ rfl
  obtain ⟨u2, h2, d2, r2⟩ := h.sl 48 _ _ rfl
  obtain ⟨u3, h3, d3, r3⟩ := h.sl 49 _ _ rfl
  have e1 : cs[17] = u1 := (List.getElem?_eq_some_iff.1 h1).2
  obtain ⟨zs, hzs⟩ : ∃ zs : List Value, zs = Try.zeroCells78.toList := ⟨_, rfl⟩
  obtain ⟨W0, hW0⟩ : ∃ W, W = (w.alloc (.cells cs.toArray 78)).alloc (.cells Try.zeroCells78 78) := ⟨_, rfl⟩
  have hsz : (w.alloc (.cells cs.toArray 78)).heap.size = w.heap.size + 1 := by simp
  have Y0 := Lib.hid (show Bx W0 w.heap.size 78 cs by rw [hW0]; exact (Bx.new _ _ _).old ((Below.refl _ _).alloc (Nat.le_refl _) _))
  have Z0 := Lib.hid (show Bx W0 (w.heap.size + 1) 78 zs by rw [hW0, ← hsz, hzs]; exact Bx.new _ _ _)
  have B0 := Lib.hid (show Below w.heap.size w W0 by rw [hW0]; exact ((Below.refl w.heap.size w).alloc (Nat.le_refl _) _).alloc (by rw [hsz]; omega) _)
  have S0 := Lib.hid (show w.heap.size + 2 ≤ W0.heap.size by rw [hW0]; simp)
  have HW0 := Lib.hid hW0
  have R1 := Lib.hid r1
  have R2 := Lib.hid r2
  have R3 := Lib.hid r3
  have H1 := Lib.hid h1
  have H2 := Lib.hid h2
  have H3 := Lib.hid h3
  have HZ := Lib.hid (show zs.length = 72 by rw [hzs, Array.length_toList]; exact Try.zeroCells78_size)
  clear r1 r2 r3 hzs hW0 hsz h h1 h2 h3 d1 d2 d3
  go_enter Try.func56, Try.ntmps56
  go_wp2_with fail
  rw [← HW0.out]
  refine (cloneFMod F L u1 _ W0 (R1.out.old B0.out) hL).mono ?_
  rintro e w1 ⟨p1, n1, k1, rfl, q1, b1⟩
  have Q1 := Lib.hid (q1 (fun b => W0.heap.size ≤ b ∧ b < w1.heap.size) (fun b h1 h2 => ⟨h1, h2⟩))
  have X1 := Lib.hid (Y0.out.old b1)
  have c17 := X1.out.cell 17 u1 H1.out
  have c48 := X1.out.cell 48 u2 H2.out
  have f17 := X1.out.frozen 17
  obtain ⟨W1, hW1, y1, sz1, sm1, bl1⟩ := box_store X1.out 17 (.slice p1 n1 k1)
  have Y1 := Lib.hid y1
  have Z1 := Lib.hid ((Z0.out.old b1).same (sm1 _ (by omega)))
  have B1 := Lib.hid (bl1 _ w (Nat.le_refl _) (B0.out.trans (b1.mono B0.out.size)))
  have S1 := Lib.hid (show w.heap.size + 2 ≤ W1.heap.size by rw [sz1]; exact Nat.le_trans S0.out b1.size)
  have L1 := Lib.hid (show W0.heap.size ≤ W1.heap.size by rw [sz1]; exact b1.size)
  have HW1 := Lib.hid hW1
  have Q1 := Lib.hid (RdC.but Q1.out w.heap.size sz1 sm1 (fun b hb => by have := hb.1; have := S0.out; omega))
  have T1 := Lib.hid (show w1.heap.size ≤ W1.heap.size by rw [sz1]; exact Nat.le_refl _)
  clear b1 hW1 y1 sz1 sm1 bl1 q1 e1
  go_wp2_with fail
  rw [← HW1.out]
  refine (cloneFSpec F L u2 _ W1 (R2.out.old B1.out) hL).mono ?_
  rintro e w2 ⟨p2, n2, k2, rfl, q2, b2⟩
  have Q2 := Lib.hid (q2 (fun b => W1.heap.size ≤ b ∧ b < w2.heap.size) (fun b h1 h2 => ⟨h1, h2⟩))
  have X2 := Lib.hid (Y1.out.old b2)
  have c48 := X2.out.cell 48 u2 (by simp only [List.getElem?_set]; simp; exact H2.out)
  have c49 := X2.out.cell 49 u3 (by simp only [List.getElem?_set]; simp; exact H3.out)
  have f48 := X2.out.frozen 48
  obtain ⟨W2, hW2, y2, sz2, sm2, bl2⟩ := box_store X2.out 48 (.slice p2 n2 k2)
  have Y2 := Lib.hid y2
  have Z2 := Lib.hid ((Z1.out.old b2).same (sm2 _ (by omega)))
  have B2 := Lib.hid (bl2 _ w (Nat.le_refl _) (B1.out.trans (b2.mono B1.out.size)))
  have S2 := Lib.hid (show w.heap.size + 2 ≤ W2.heap.size by rw [sz2]; exact Nat.le_trans S1.out b2.size)
  have L2 := Lib.hid (show W1.heap.size ≤ W2.heap.size by rw [sz2]; exact b2.size)
  have HW2 := Lib.hid hW2
  have Q2 := Lib.hid (RdC.but Q2.out w.heap.size sz2 sm2 (fun b hb => by have := hb.1; have := S1.out; omega))
  have T2 := Lib.hid (show w2.heap.size ≤ W2.heap.size by rw [sz2]; exact Nat.le_refl _)
  have Q1 := Lib.hid (RdC.but (Q1.out.old b2) w.heap.size sz2 sm2 (fun b hb => by have := hb.1; have := S0.out; omega))
  clear b2 hW2 y2 sz2 sm2 bl2 q2
  go_wp2_with fail
  rw [← HW2.out]
  obtain ⟨es, rw3, hes, hby⟩ := R3.out.row (k := 64) rfl
  have ES := Lib.hid hes
  have HBY := Lib.hid hby
  refine (cloneEffect u3 es W2 (rw3.below B2.out) (by rw [hes.len]; omega)).mono ?_
  rintro e w3 ⟨v3, rfl, own3, b3⟩
  obtain ⟨p3, n3, k3, rfl⟩ := own_sl own3
  have OW3 := Lib.hid own3
  have q3 := hby
  have X3 := Lib.hid (Y2.out.old b3)
  have c49 := X3.out.cell 49 u3 (by simp only [List.getElem?_set]; simp; exact H3.out)
  have f49 := X3.out.frozen 49
  obtain ⟨W3, hW3, y3, sz3, sm3, bl3⟩ := box_store X3.out 49 (.slice p3 n3 k3)
  have Y3 := Lib.hid y3
  have Z3 := Lib.hid ((Z2.out.old b3).same (sm3 _ (by omega)))
  have B3 := Lib.hid (bl3 _ w (Nat.le_refl _) (B2.out.trans (b3.mono B2.out.size)))
  have S3 := Lib.hid (show w.heap.size + 2 ≤ W3.heap.size by rw [sz3]; exact Nat.le_trans S2.out b3.size)
  have L3 := Lib.hid (show W2.heap.size ≤ W3.heap.size by rw [sz3]; exact b3.size)
  have HW3 := Lib.hid hW3
  have OW3 := Lib.hid (ownsRow_same OW3.out (fun g hg => sm3 g (by have := (OW3.out.lt g hg).1; have := S2.out; omega)))
  have Q1 := Lib.hid (RdC.but (Q1.out.old b3) w.heap.size sz3 sm3 (fun b hb => by have := hb.1; have := S0.out; omega))
  have Q2 := Lib.hid (RdC.but (Q2.out.old b3) w.heap.size sz3 sm3 (fun b hb => by have := hb.1; have := S1.out; omega))
  clear b3 hW3 y3 sz3 sm3 bl3 q3 own3
  have hlen : n3 = es.length := by
    rcases own_form OW3.out with ⟨cap, h, h0⟩ | ⟨g, cap, h⟩
    · simp only [Value.slice.injEq] at h; omega
    · simp only [Value.slice.injEq] at h; exact h.2.1
  subst hlen
  obtain ⟨cs3, hcs3⟩ : ∃ l, l = (((cs.set 17 (.slice p1 n1 k1)).set 48 (.slice p2 n2 k2)).set 49 (.slice p3 es.length k3)) := ⟨_, rfl⟩
  have hl3 : cs3.length = 72 := by rw [hcs3]; simp only [List.length_set]; exact hl
  have HC3 := Lib.hid hcs3
  have V3 := Lib.hid (show cs3[49]? = some (.slice p3 es.length k3) by rw [hcs3, List.getElem?_set]; simp [hl])
  obtain ⟨g, hab⟩ : ∃ g, AbS F L w g cs3 zs (.slice p1 n1 k1) (.slice p2 n2 k2) (.slice p3 es.length k3) ds es.length W3 := by
    rw [← hcs3] at Y3
    have im : ∀ g, W2.heap.size ≤ g → ∀ b lo hi, w.heap.size + 2 ≤ lo → hi ≤ W2.heap.size → lo ≤ b ∧ b < hi → ((F b ∧ b < w.heap.size) ∨ (w.heap.size + 2 ≤ b ∧ b ≠ g)) := fun g hg b lo hi h1 h2 h3 => .inr ⟨by omega, by omega⟩
    have t1 := T1.out
    have t2 := T2.out
    have l2 := L2.out
    have s0 := S0.out
    have s1 := S1.out
    have s2 := S2.out
    rcases own_form OW3.out with ⟨cap, hv, h0⟩ | ⟨g, cap, hv⟩
    · simp only [Value.slice.injEq] at hv
      obtain ⟨rfl, _, rfl⟩ := hv
      refine ⟨W2.heap.size, Y3.out, Z3.out, B3.out, S3.out, s2, Q1.out.imp (fun b hb _ => im _ (Nat.le_refl _) b _ _ s0 (by omega) hb), Q2.out.imp (fun b hb _ => im _ (Nat.le_refl _) b _ _ s1 (by omega) hb), .inl ⟨h0, List.eq_nil_of_length_eq_zero (by rw [← ES.out.len]; exact h0), none, k3, by rw [h0], fun _ => ?_⟩⟩
      rcases OW3.out.2 with ⟨hv, _⟩ | ⟨_, _, _, hv, _⟩
      · simp only [Value.slice.injEq] at hv; exact hv.2.2
      · cases hv
    · simp only [Value.slice.injEq] at hv
      obtain ⟨rfl, _, rfl⟩ := hv
      have hgb := (OW3.out.lt g rfl).1
      have hc3 : es.length ≤ k3 := by
        rcases OW3.out.2 with ⟨hv, _⟩ | ⟨_, _, _, hv, _, _, hc, _⟩
        · cases hv
        · simp only [Value.slice.injEq] at hv; rw [hv.2.2]; exact hc
      refine ⟨g, Y3.out, Z3.out, B3.out, S3.out, by omega, Q1.out.imp (fun b hb _ => im g hgb b _ _ s0 (by omega) hb), Q2.out.imp (fun b hb _ => im g hgb b _ _ s1 (by omega) hb), .inr ⟨k3, es, rfl, hc3, rfl, own_blkC OW3.out rfl, ?_, fun b hb => by rcases hb with hb | hb <;> omega⟩⟩
      exact (ES.out.frame (G := fun b => (F b ∧ b < w.heap.size) ∨ (w.heap.size + 2 ≤ b ∧ b ≠ g)) (Nat.le_refl _) B3.out.size (fun b _ hlt => B3.out.block b hlt) (fun b hF hlt => .inl ⟨hF, hlt⟩))
  have AB := Lib.hid hab
  have c49 := AB.out.box.cell 49 _ V3.out
  obtain ⟨n, hn⟩ : ∃ n, n = es.length := ⟨_, rfl⟩
  have hnb : n * 560 ≤ 140737488355328 := by rw [hn, ES.out.len]; exact Nat.le_trans HBY.out hL
  rw [← hn] at AB V3 c49 HW3 HC3
  rw [HW3.out] at AB c49
  rw [← hn]
  clear hab hn OW3 ES HBY X1 X2 X3 Y0 Y1 Y2 Z0 Z1 Z2 Q1 Q2 hcs3
  go_wp2_with fail
  go_loopw [19] (fun i wr => ∃ k : Nat, k ≤ n ∧ i = .int .i64 k ∧ AbS F L w g cs3 zs (.slice p1 n1 k1) (.slice p2 n2 k2) (.slice p3 n k3) ds n wr) (fun i _ => n - (intOf i).toNat)
  case atStart => exact ⟨0, by omega, rfl, AB.out⟩
  case round =>
    obtain ⟨k, hk, rfl, hab⟩ := hrel
    have A := Lib.hid hab
    clear hab
    by_cases hlt : k < n
    · obtain ⟨ms, m, hms, cm, fm, rm, hg⟩ := A.out.mods k hlt
      have c49 := A.out.box.cell 49 _ V3.out
      have hp3 : p3 = some ⟨g, 0, none⟩ := by
        rcases A.out.r3 with ⟨h0, _⟩ | ⟨cap, es, h1, _⟩
        · omega
        · simp only [Value.slice.injEq] at h1; exact h1.1
      subst hp3
      have RM := Lib.hid rm
      have HMS := Lib.hid hms
      have S0' := Lib.hid (show AbBox w.heap.size (.slice (some ⟨g, 0, none⟩) n k3) wr from c49)
      have CM := Lib.hid cm
      have FM := Lib.hid fm
      have HG := Lib.hid hg
      clear rm hms fm hg
      go_wp2_with fail
      refine wp_region_noPanic ?_
      refine wp_region_held_drew (S := AbBox w.heap.size (.slice (some ⟨g, 0, none⟩) n k3)) (by kernel_rfl) (S0'.out) (fun hHeld => ?_)
      refine wpAnyH_take (i := 0) (oi := ?oiA0x) (v := ?vA0x) ?hiA0x (by kernel_rfl) (by kernel_rfl) (by kernel_rfl) ?hqA0x ?hyA0x (by assumption) ?restA0x
      case hiA0x => (simp only [List.getElem?_toArray, List.getElem?_cons_zero] <;> rfl)
      case hqA0x => exact fun _ _ _ h => h
      case hyA0x => exact Or.inl ⟨by rfl, by (intro wS hSw; have s49 : wS.cell? ⟨w.heap.size, 49, none⟩ = some (.slice (some ⟨g, 0, none⟩) n k3) := hSw; go_simp; try with_reducible rfl)⟩
      try simp only [Act.put, List.setIfInBounds_toArray, List.set_cons_zero, List.set_cons_succ]
      refine wpAnyH_take (i := 1) (oi := ?oiA1x) (v := ?vA1x) ?hiA1x (by kernel_rfl) (by kernel_rfl) (by kernel_rfl) ?hqA1x ?hyA1x (by assumption) ?restA1x
      case hiA1x => (simp only [List.getElem?_toArray, List.getElem?_cons_succ, List.getElem?_cons_zero] <;> rfl)
      case hqA1x => exact fun _ _ _ h => h
      case hyA1x => exact Or.inl ⟨by rfl, by (intro wS hSw; have s49 : wS.cell? ⟨w.heap.size, 49, none⟩ = some (.slice (some ⟨g, 0, none⟩) n k3) := hSw; go_simp; try with_reducible rfl)⟩
      try simp only [Act.put, List.setIfInBounds_toArray, List.set_cons_zero, List.set_cons_succ]
      refine wpAnyH_take (i := 2) (oi := ?oiA2x) (v := ?vA2x) ?hiA2x (by kernel_rfl) (by kernel_rfl) (by kernel_rfl) ?hqA2x ?hyA2x (by assumption) ?restA2x
      case hiA2x => (simp only [List.getElem?_toArray, List.getElem?_cons_succ, List.getElem?_cons_zero] <;> rfl)
      case hqA2x => exact fun _ _ _ h => h
      case hyA2x => exact Or.inl ⟨by rfl, by (intro wS hSw; have s49 : wS.cell? ⟨w.heap.size, 49, none⟩ = some (.slice (some ⟨g, 0, none⟩) n k3) := hSw; go_simp; try with_reducible rfl)⟩
      try simp only [Act.put, List.setIfInBounds_toArray, List.set_cons_zero, List.set_cons_succ]
      refine wpAnyH_take (i := 3) (oi := ?oiA3x) (v := ?vA3x) ?hiA3x (by kernel_rfl) (by kernel_rfl) (by kernel_rfl) ?hqA3x ?hyA3x (by assumption) ?restA3x
      case hiA3x => (simp only [List.getElem?_toArray, List.getElem?_cons_succ, List.getElem?_cons_zero] <;> rfl)
      case hqA3x => exact fun _ _ _ h => h
      case hyA3x => exact Or.inl ⟨by rfl, by (intro wS hSw; have s49 : wS.cell? ⟨w.heap.size, 49, none⟩ = some (.slice (some ⟨g, 0, none⟩) n k3) := hSw; go_simp; try with_reducible rfl)⟩
      try simp only [Act.put, List.setIfInBounds_toArray, List.set_cons_zero, List.set_cons_succ]
      refine wpAnyH_take (i := 4) (oi := ?oiA4x) (v := ?vA4x) ?hiA4x (by kernel_rfl) (by kernel_rfl) (by kernel_rfl) ?hqA4x ?hyA4x (by assumption) ?restA4x
      case hiA4x => (simp only [List.getElem?_toArray, List.getElem?_cons_succ, List.getElem?_cons_zero] <;> rfl)
      case hqA4x => exact fun _ _ _ h => h
      case hyA4x => exact Or.inl ⟨by rfl, by (intro wS hSw; have s49 : wS.cell? ⟨w.heap.size, 49, none⟩ = some (.slice (some ⟨g, 0, none⟩) n k3) := hSw; go_simp; try with_reducible rfl)⟩
      try simp only [Act.put, List.setIfInBounds_toArray, List.set_cons_zero, List.set_cons_succ]
      refine wpAnyH_take (i := 5) (oi := ?oiA5x) (v := ?vA5x) ?hiA5x (by kernel_rfl) (by kernel_rfl) (by kernel_rfl) ?hqA5x ?hyA5x (by assumption) ?restA5x
      case hiA5x => (simp only [List.getElem?_toArray, List.getElem?_cons_succ, List.getElem?_cons_zero] <;> rfl)
      case hqA5x => exact fun _ _ _ h => h
      case hyA5x => exact Or.inl ⟨by rfl, by (intro wS hSw; have s49 : wS.cell? ⟨w.heap.size, 49, none⟩ = some (.slice (some ⟨g, 0, none⟩) n k3) := hSw; go_simp; try with_reducible rfl)⟩
      try simp only [Act.put, List.setIfInBounds_toArray, List.set_cons_zero, List.set_cons_succ]
      refine wpAnyH_take (i := 6) (oi := ?oiA6x) (v := ?vA6x) ?hiA6x (by kernel_rfl) (by kernel_rfl) (by kernel_rfl) ?hqA6x ?hyA6x (by assumption) ?restA6x
      case hiA6x => (simp only [List.getElem?_toArray, List.getElem?_cons_succ, List.getElem?_cons_zero] <;> rfl)
      case hqA6x => exact fun _ _ _ h => h
      case hyA6x => exact Or.inl ⟨by rfl, by (intro wS hSw; have s49 : wS.cell? ⟨w.heap.size, 49, none⟩ = some (.slice (some ⟨g, 0, none⟩) n k3) := hSw; go_simp; try with_reducible rfl)⟩
      try simp only [Act.put, List.setIfInBounds_toArray, List.set_cons_zero, List.set_cons_succ]
      refine wpAnyH_take (i := 7) (oi := ?oiA7x) (v := ?vA7x) ?hiA7x (by kernel_rfl) (by kernel_rfl) (by kernel_rfl) ?hqA7x ?hyA7x (by assumption) ?restA7x
      case hiA7x => (simp only [List.getElem?_toArray, List.getElem?_cons_succ, List.getElem?_cons_zero] <;> rfl)
      case hqA7x => exact fun _ _ _ h => h
      case hyA7x => exact Or.inl ⟨by rfl, by (intro wS hSw; have s49 : wS.cell? ⟨w.heap.size, 49, none⟩ = some (.slice (some ⟨g, 0, none⟩) n k3) := hSw; go_simp; try with_reducible rfl)⟩
      try simp only [Act.put, List.setIfInBounds_toArray, List.set_cons_zero, List.set_cons_succ]
      refine wpAnyH_ready (rs := [8]) (by kernel_rfl) (by simp) ?_
      refine AllReadyH.cons (o := ?oiA8x) ?hiA8x (fun K hK => ?hsA8x) AllReadyH.nil
      case hiA8x => (simp only [List.getElem?_toArray, List.getElem?_cons_succ, List.getElem?_cons_zero] <;> rfl)
      go_simp
      have c8 := CM.out
      refine hK.out _ _ S0'.out (fun hHeld8 => ?_)
      clear hHeld8
      clear hK K
      try simp only [Act.put, List.setIfInBounds_toArray, List.set_cons_zero, List.set_cons_succ]
      refine wpAnyH_ready (rs := [9]) (by kernel_rfl) (by simp) ?_
      refine AllReadyH.cons (o := ?oiA9x) ?hiA9x (fun K hK => ?hsA9x) AllReadyH.nil
      case hiA9x => (simp only [List.getElem?_toArray, List.getElem?_cons_succ, List.getElem?_cons_zero] <;> rfl)
      go_simp
      refine (cloneFMod _ L m ms wr.drew (RM.out.old (Below.refl _ _).drew) hL).mono ?_
      rintro e w5 ⟨p5, n5, k5, rfl, q5, b5⟩
      have B5 := Lib.hid (show Below wr.heap.size wr w5 from (Below.refl _ _).drew.trans b5)
      have S5 := Lib.hid (show AbBox w.heap.size (.slice (some ⟨g, 0, none⟩) n k3) w5 from (B5.out.cell (p := ⟨w.heap.size, 49, none⟩) A.out.box.lt).trans S0'.out)
      have A5 := Lib.hid (A.out.old B5.out)
      have Q5 := Lib.hid (q5 (fun b => (F b ∧ b < w.heap.size) ∨ (w.heap.size + 2 ≤ b ∧ b ≠ g)) (fun b h1 _ => .inr ⟨Nat.le_trans A.out.siz h1, fun e => by have := HG.out; rw [e] at h1; exact absurd h1 (Nat.not_le.2 this)⟩))
      have c12 := (B5.out.cell (p := ⟨g, k * 64 + 63, none⟩) HG.out).trans CM.out
      have f12 := (show w5.frozen? ⟨g, k * 64 + 63, none⟩ = false by obtain ⟨_, _, _, _, h, _⟩ := A5.out.mods k hlt; exact h)
      clear q5 b5
      refine hK.out _ _ S5.out (fun hHeld9 => ?_)
      clear hK K
      try simp only [Act.put, List.setIfInBounds_toArray, List.set_cons_zero, List.set_cons_succ]
      refine wpAnyH_take (i := 10) (oi := ?oiA10x) (v := ?vA10x) ?hiA10x (by kernel_rfl) (by kernel_rfl) (by kernel_rfl) ?hqA10x ?hyA10x (by assumption) ?restA10x
      case hiA10x => (simp only [List.getElem?_toArray, List.getElem?_cons_succ, List.getElem?_cons_zero] <;> rfl)
      case hqA10x => exact fun _ _ _ h => h
      case hyA10x => exact Or.inl ⟨by rfl, by (intro wS hSw; have s49 : wS.cell? ⟨w.heap.size, 49, none⟩ = some (.slice (some ⟨g, 0, none⟩) n k3) := hSw; go_simp; try with_reducible rfl)⟩
      try simp only [Act.put, List.setIfInBounds_toArray, List.set_cons_zero, List.set_cons_succ]
      refine wpAnyH_take (i := 11) (oi := ?oiA11x) (v := ?vA11x) ?hiA11x (by kernel_rfl) (by kernel_rfl) (by kernel_rfl) ?hqA11x ?hyA11x (by assumption) ?restA11x
      case hiA11x => (simp only [List.getElem?_toArray, List.getElem?_cons_succ, List.getElem?_cons_zero] <;> rfl)
      case hqA11x => exact fun _ _ _ h => h
      case hyA11x => exact Or.inl ⟨by rfl, by (intro wS hSw; have s49 : wS.cell? ⟨w.heap.size, 49, none⟩ = some (.slice (some ⟨g, 0, none⟩) n k3) := hSw; go_simp; try with_reducible rfl)⟩
      try simp only [Act.put, List.setIfInBounds_toArray, List.set_cons_zero, List.set_cons_succ]
      refine wpAnyH_ready (rs := [12]) (by kernel_rfl) (by simp) ?_
      refine AllReadyH.cons (o := ?oiA12x) ?hiA12x (fun K hK => ?hsA12x) AllReadyH.nil
      case hiA12x => (simp only [List.getElem?_toArray, List.getElem?_cons_succ, List.getElem?_cons_zero] <;> rfl)
      go_simp
      have A6 := Lib.hid (A5.out.put k hlt (.slice p5 n5 k5) (fun ms2 h2 => by obtain ⟨x, h3, h4⟩ := HMS.out; obtain ⟨y, h5, h6⟩ := h2; rw [h3] at h5; obtain rfl := Option.some.inj h5; rw [h4] at h6; cases h6; exact Q5.out))
      have S6 := Lib.hid (show AbBox w.heap.size (.slice (some ⟨g, 0, none⟩) n k3) (w5.setCell ⟨g, k * 64 + 63, none⟩ (.slice p5 n5 k5)) from A6.out.box.cell 49 _ V3.out)
      refine hK.out _ _ S6.out (fun hHeld12 => ?_)
      clear hK K
      try simp only [Act.put, List.setIfInBounds_toArray, List.set_cons_zero, List.set_cons_succ]
      refine wpAnyH_done (by kernel_rfl) ?_ _
      refine NoPanic.normal ?_
      go_wp2_with fail
      go_round
      case rel => exact ⟨k + 1, by omega, by go_num, A6.out⟩
      case measure => simp [intOf]; omega
    · obtain rfl : k = n := by omega
      have RG := Lib.hid (show wr.rangeAt w.heap.size 0 cs3 from A.out.box.range)
      have HI := Lib.hid (show (Try.prog.info? 78).map (·.size) = some cs3.length by rw [infoAbility, hl3])
      have hrd := rdL_ability A.out HH.out HC3.out
      have RR := Lib.hid hrd
      have hst := store_cs wr (w.heap.size + 1) cs3 (by
        have e : cs3.length = zs.length := by rw [hl3, HZ.out]
        rw [e]
        exact A.out.res.there) hrd.one
      have Z4 := Lib.hid (A.out.res.setAll cs3 (by rw [hl3, HZ.out]))
      clear hrd
      go_wp2_with (with_reducible refine wpList_load_mid rfl 78 (.tmp 1) rfl w.heap.size 0 ?_ cs3 _ RG.out Try.underlying78 rfl HI.out ?_; simp [Act.eval])
      have bl4 : Below w.heap.size w (wr.setCells (w.heap.size + 1) 0 cs3) := below_sets _ _ _ A.out.bel _ (by omega)
      refine bodyPost_ret (results_cs Try.results56 (w.heap.size + 1) ?_ cs3 _ (Bx.range Z4.out) Try.underlying78 rfl HI.out) rfl ?_
      · rfl
      · refine ⟨cs3, rfl, RR.out.frame (Nat.le_refl _) (by rw [sets_size]; exact Nat.le_refl _) (fun b hb _ => heap_sets _ _ _ _ b (by rcases hb with hb | hb <;> omega)) (fun b hb _ => by rcases hb with hb | hb; exact .inl hb; exact .inr (by omega)), bl4⟩
end Go.Proofs.Ytiebjkbofoppaaa
