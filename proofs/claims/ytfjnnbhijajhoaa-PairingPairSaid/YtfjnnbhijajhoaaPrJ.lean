/- Chapter 56: Standings of the reference. -/
import Derived.Test.YtfjnnbhijajhoaaPrI
namespace Go.Proofs.Ytfjnnbhijajhoaa
open Go Go.RowKit Go.Sort Go.Shelf Cg
/-- 'out = append(out, ys...)' at structs, with where the answer lies. -/
theorem wpList_append_rowKat {α : Type} {P : Program} {w : World} {ops : Array Oper} {rest : List Oper} {o : Oper} {a : Act} {Q : Exit → Act → World → Prop} (hgd : o.guard = none) (s x : Operand) (t : TypeId)
    (ho : o.op = .call { callee := .builtin .append, args := #[s, x], argTypes := #[t, t] })
    (base : Nat) {e : TypeId} {z : Value} {k bytes : Nat} (hE : ElemIs P t e z k bytes)
    (v : Value) (n : Nat) (xs : List Value) (hs : a.eval s = v) (hown : w.ownsRow base e k v n xs)
    (enc : α → List Value) (hk : ∀ x, (enc x).length = k) (h1 : ∀ y, ∀ u ∈ enc y, u.oneCell' = true) (ys : List α) (vx : Value) (hx : a.eval x = vx) (hr : Cg.RowK k enc w vx ys)
    (hn : (n + ys.length) * bytes ≤ 140737488355328) (hn1 : n + ys.length < 140737488355328) (hbase : base ≤ w.heap.size)
    (h : ∀ v' w', w'.ownsRow base e k v' (n + ys.length) (xs ++ ys.flatMap enc) → w.grownBy w' v.ownBlock → (v'.ownBlock = v.ownBlock ∨ v'.ownBlock = some w.heap.size) → wpList P ops Q rest (a.put o.dst v') w') :
    wpList P ops Q (o :: rest) a w := by
  obtain ⟨ht, hzs, hsz, i, hi, hz, hsize, hby⟩ := hE
  obtain ⟨ao, cap, rfl, ⟨hc, hnil⟩, hr⟩ := hr
  cases ao with
  | none =>
    have hc0 := hnil rfl
    subst hc0
    have hy : ys = [] := List.eq_nil_of_length_eq_zero (by omega)
    subst hy
    refine wpList_append_own_none hgd s x t ho base e i k ht hi v n xs hs hown hx (h v w ?_ (World.grownBy.refl w _) (.inl rfl))
    simpa using hown
  | some ad =>
    have hcells : ∀ (j : Nat) u, (ys.flatMap enc)[j]? = some u → w.cell? (ad.add j) = some u := by
      intro j u hj
      rcases hr with rfl | ⟨b, oo, hao, _, hcell⟩
      · simp at hj
      · cases hao
        have hjl := (List.getElem?_eq_some_iff.1 hj).1
        rw [flat_len hk] at hjl
        have hq : j / k < ys.length := Nat.div_lt_of_lt_mul (by rw [Nat.mul_comm]; exact hjl)
        have hm : j % k < k := Nat.mod_lt _ hsz
        have ha : (⟨b, oo, none⟩ : Addr).add j = ⟨b, oo + j, none⟩ := by unfold Addr.add; split <;> simp_all
        have hj2 : j = j / k * k + j % k := by rw [Nat.mul_comm]; exact (Nat.div_add_mod j k).symm
        have hg := flat_get hk ys (j / k) _ (List.getElem?_eq_getElem hq) (j % k) hm
        rw [← hj2, hj] at hg
        have hadd : (⟨b, oo, none⟩ : Addr).add j = ⟨b, oo + j / k * k + j % k, none⟩ := by
          rw [ha, Nat.add_assoc, ← hj2]
        rw [hadd]
        exact hcell (j / k) _ (List.getElem?_eq_getElem hq) (j % k) u hg.symm
    refine wpList_append_own_at (P := P) w hgd s x t ho base e i z k bytes ht hi hz hsize hby hzs hsz v n xs hs hown ad ys.length cap (ys.flatMap enc) hx (flat_len hk ys) hcells (fun u hu => by
      obtain ⟨y, _, hu⟩ := List.mem_flatMap.1 hu
      exact h1 y u hu) (by simp only [maxLen]; omega) hn hbase ?_
    intro v' w' hown' hgrow _ hat
    exact h v' w' hown' hgrow hat
/-- A row of integers that does not lie in block b. -/
def RowX (b : Option Nat) (w : World) (v : Value) (xs : List Int) : Prop :=
  ∃ ao cap, v = .slice ao xs.length cap ∧ (xs.length ≤ cap ∧ (ao = none → cap = 0)) ∧ (xs = [] ∨ ∃ g o, ao = some ⟨g, o, none⟩ ∧ g < w.heap.size ∧ some g ≠ b ∧ ∀ (j : Nat) x, xs[j]? = some x → w.cell? ⟨g, o + j, none⟩ = some (.int .i64 x))
theorem RowX.row {b : Option Nat} {w : World} {v : Value} {xs : List Int} (h : RowX b w v xs) : RowAt (Value.int .i64) w v xs := by
  obtain ⟨ao, cap, rfl, hc, h⟩ := h
  refine ⟨ao, cap, rfl, hc, ?_⟩
  rcases h with h | ⟨g, o, ha, hg, _, hx⟩
  · exact .inl h
  · exact .inr ⟨g, o, ha, hg, hx⟩
theorem RowX.grow {b : Option Nat} {w w' : World} {v : Value} {xs : List Int} (h : RowX b w v xs) (hg : w.grownBy w' b) : RowX b w' v xs := by
  obtain ⟨ao, cap, rfl, hc, h⟩ := h
  refine ⟨ao, cap, rfl, hc, ?_⟩
  rcases h with h | ⟨g, o, ha, hl, hb, hx⟩
  · exact .inl h
  · exact .inr ⟨g, o, ha, Nat.lt_of_lt_of_le hl hg.size, hb, fun j x hj => (World.cell?_of_block (a := ⟨g, o + j, none⟩) (hg.block g hl hb)).trans (hx j x hj)⟩
theorem RowX.turn {b b' : Option Nat} {w : World} {v : Value} {xs : List Int} (h : RowX b w v xs) (hb : b' = b ∨ ∃ g, b' = some g ∧ w.heap.size ≤ g) : RowX b' w v xs := by
  obtain ⟨ao, cap, rfl, hc, h⟩ := h
  refine ⟨ao, cap, rfl, hc, ?_⟩
  rcases h with h | ⟨g, o, ha, hl, hn, hx⟩
  · exact .inl h
  · refine .inr ⟨g, o, ha, hl, ?_, hx⟩
    rcases hb with rfl | ⟨g2, rfl, h2⟩
    · exact hn
    · intro e
      cases e
      omega
theorem RowX.of_own {b : Option Nat} {w : World} {base : Nat} {v : Value} {xs : List Int} (h : w.ownsRow base 3 1 v xs.length (xs.map (Value.int .i64))) (hb : ∀ g, v.ownBlock = some g → some g ≠ b) : RowX b w v xs := by
  obtain ⟨ao, cap, rfl, hc, hr⟩ := rowAt_own h
  refine ⟨ao, cap, rfl, hc, ?_⟩
  rcases hr with hr | ⟨g, o, rfl, hl, hx⟩
  · exact .inl hr
  · exact .inr ⟨g, o, rfl, hl, hb g rfl, hx⟩
theorem alloc_row (w : World) (x : St × Sl) (t : TypeId) : Cg.RowK 8 encT (w.alloc (.cells (encT x).toArray t)) (.slice (some ⟨w.heap.size, 0, none⟩) 1 1) [x] := by
  refine ⟨_, 1, rfl, ⟨Nat.le_refl _, fun h => by cases h⟩, .inr ⟨w.heap.size, 0, rfl, by show _ < (w.heap.push _).size; simp, fun j y hj i u hu => ?_⟩⟩
  rcases j with _ | j
  · have e : x = y := by simpa using hj
    subst e
    rw [Nat.zero_mul, Nat.add_zero, Nat.zero_add, cell_of_row _ _ _ _ _ _ (heap_alloc_new w _), List.getElem?_toArray]
    exact hu
  · simp at hj
/-- The list of records in the making. -/
structure Al (w wr : World) (v : Value) (rows : List (St × Sl)) : Prop where
  own : wr.ownsRow w.heap.size 35 8 v rows.length (rows.flatMap encT)
  opp : ∀ x ∈ rows, RowX v.ownBlock wr (slv x.2) x.1.opp
  bel : Below w.heap.size w wr
theorem Al.step {w wr wr' : World} {v : Value} {rows : List (St × Sl)} (h : Al w wr v rows) (hb : Below wr.heap.size wr wr') : Al w wr' v rows :=
  ⟨own_block h.own hb, fun x hx => (h.opp x hx).grow ⟨hb.os, hb.tape, hb.output, hb.size, fun k hk _ => hb.block k hk⟩, h.bel.trans (hb.mono h.bel.size)⟩
theorem Al.push {w w2 w3 : World} {v v' : Value} {rows : List (St × Sl)} (h : Al w w2 v rows) (x : St × Sl) (ho : RowX v.ownBlock w2 (slv x.2) x.1.opp) (own : w3.ownsRow w.heap.size 35 8 v' (rows.length + 1) (rows.flatMap encT ++ [x].flatMap encT)) (hg : w2.grownBy w3 v.ownBlock) (hat : v'.ownBlock = v.ownBlock ∨ ∃ g, v'.ownBlock = some g ∧ w2.heap.size ≤ g) : Al w w3 v' (rows ++ [x]) := by
  refine ⟨by rw [List.length_append, List.length_singleton, List.flatMap_append]; exact own, fun y hy => ?_, ?_⟩
  · have h2 : RowX v.ownBlock w2 (slv y.2) y.1.opp := by
      rcases List.mem_append.1 hy with hy | hy
      · exact h.opp y hy
      · rw [List.mem_singleton.1 hy]; exact ho
    rcases hat with hat | ⟨g, hat, hge⟩
    · rw [hat]; exact h2.grow hg
    · obtain ⟨ao, cap, hv, hc, hr⟩ := h2.grow hg
      obtain ⟨_, _, hv2, _, hr2⟩ := h2
      rw [hv] at hv2
      cases hv2
      refine ⟨ao, cap, hv, hc, ?_⟩
      rcases hr with hr | ⟨g1, o, ha, hl, hn, hx⟩
      · exact .inl hr
      · rcases hr2 with hr2 | ⟨g2, o2, ha2, hl2, _, _⟩
        · exact .inl hr2
        · rw [ha] at ha2
          cases ha2
          exact .inr ⟨g1, o, ha, hl, fun e => by rw [hat] at e; cases e; omega, hx⟩
  · exact ⟨hg.os.trans h.bel.os, hg.tape.trans h.bel.tape, hg.output.trans h.bel.output, Nat.le_trans h.bel.size hg.size, fun k hk => (hg.block k (Nat.lt_of_lt_of_le hk h.bel.size) (fun e => own_ne h.own hk e.symm)).trans (h.bel.block k hk)⟩
/-- The list of records, its block written in place. -/
structure Bl (N : Nat) (w wr : World) (v : Value) (rows : List (St × Sl)) : Prop where
  blk : N = 0 ∨ ∃ g cap, v = .slice (some ⟨g, 0, none⟩) N cap ∧ N ≤ cap ∧ BlkK 8 encT 35 wr g rows ∧ w.heap.size ≤ g ∧ ∀ x ∈ rows, RowX (some g) wr (slv x.2) x.1.opp
  len : rows.length = N
  bel : Below w.heap.size w wr
theorem Bl.of_al {N : Nat} {w wr : World} {v : Value} {rows : List (St × Sl)} (h : Al w wr v rows) (hl : rows.length = N) : Bl N w wr v rows := by
  refine ⟨?_, hl, h.bel⟩
  have ho := h.own
  rcases ho.2 with ⟨_, hn⟩ | ⟨g, cap, cur, rfl, hg, hgg, hc, _⟩
  · exact .inl (by omega)
  · refine .inr ⟨g, cap, by rw [hl], by omega, own_blkK encT_len ho rfl, hg, h.opp⟩
theorem Bl.step {N : Nat} {w wr wr' : World} {v : Value} {rows : List (St × Sl)} (h : Bl N w wr v rows) (hb : Below wr.heap.size wr wr') : Bl N w wr' v rows := by
  refine ⟨?_, h.len, h.bel.trans (hb.mono h.bel.size)⟩
  rcases h.blk with h0 | ⟨g, cap, rfl, hc, hk, hg, ho⟩
  · exact .inl h0
  · exact .inr ⟨g, cap, rfl, hc, hk.same (hb.block _ hk.lt), hg, fun x hx => (ho x hx).grow ⟨hb.os, hb.tape, hb.output, hb.size, fun k hk _ => hb.block k hk⟩⟩
theorem RowX.setCell {g : Nat} {w : World} {v : Value} {xs : List Int} (h : RowX (some g) w v xs) (o : Nat) (u : Value) : RowX (some g) (w.setCell ⟨g, o, none⟩ u) v xs :=
  h.grow ⟨rfl, rfl, rfl, by simp [World.setCell], fun k _ hr => Below.heap_setCell _ _ _ _ (fun e => hr (by rw [e]))⟩
theorem Bl.poke {N g cap : Nat} {w wr : World} {rows : List (St × Sl)} (h : Bl N w wr (.slice (some ⟨g, 0, none⟩) N cap) rows) (hN : ¬ N = 0) (j : Nat) (x : St × Sl) (hj : rows[j]? = some x) (c : Nat) (hc : c < 8) (u : Value) (y : St) (hy : ∀ i, (encT (y, x.2))[i]? = if i = c then some u else (encT x)[i]?) (ho : y.opp = x.1.opp) : Bl N w (wr.setCell ⟨g, j * 8 + c, none⟩ u) (.slice (some ⟨g, 0, none⟩) N cap) (rows.set j (y, x.2)) := by
  rcases h.blk with h0 | ⟨g', cap', hv, hcc, hk, hg, hop⟩
  · exact absurd h0 hN
  · cases hv
    refine ⟨.inr ⟨g, cap, rfl, hcc, hk.setCell encT_len j x hj c hc u (y, x.2) hy, hg, fun z hz => ?_⟩, by rw [List.length_set]; exact h.len, below_setCell h.bel _ hg _⟩
    obtain ⟨p, hp, hpz⟩ := List.getElem_of_mem hz
    rcases set_get (List.getElem?_eq_some_iff.2 ⟨hp, hpz⟩) with ⟨rfl, rfl⟩ | ⟨_, hp⟩
    · have h0 := hop x (List.mem_of_getElem? hj)
      show RowX _ _ (slv x.2) y.opp
      rw [ho]
      exact h0.setCell _ _
    · exact (hop z (List.mem_of_getElem? hp)).setCell _ _
/-- The eight cells of a record. -/
def Cells8 (w : World) (g o : Nat) (x : St × Sl) : Prop := w.cell? ⟨g, o, none⟩ = some (.int .i64 x.1.pl) ∧ w.cell? ⟨g, o + 1, none⟩ = some (.int .i64 x.1.pt) ∧ w.cell? ⟨g, o + 2, none⟩ = some (.int .i64 x.1.wi) ∧ w.cell? ⟨g, o + 3, none⟩ = some (.int .i64 x.1.lo) ∧ w.cell? ⟨g, o + 4, none⟩ = some (.int .i64 x.1.dw) ∧ w.cell? ⟨g, o + 5, none⟩ = some (.int .i64 x.1.by_) ∧ w.cell? ⟨g, o + 6, none⟩ = some (slv x.2) ∧ w.cell? ⟨g, o + 7, none⟩ = some (.int .i64 x.1.tie)
theorem BlkK.cells8 {t : TypeId} {w : World} {g : Nat} {rows : List (St × Sl)} (h : BlkK 8 encT t w g rows) (j : Nat) (x : St × Sl) (hj : rows[j]? = some x) : Cells8 w g (j * 8) x :=
  ⟨h.cell j x hj 0 _ rfl, h.cell j x hj 1 _ rfl, h.cell j x hj 2 _ rfl, h.cell j x hj 3 _ rfl, h.cell j x hj 4 _ rfl, h.cell j x hj 5 _ rfl, h.cell j x hj 6 _ rfl, h.cell j x hj 7 _ rfl⟩
theorem Cells8.keep {w w' : World} {g o : Nat} {x : St × Sl} (h : Cells8 w g o x) (hb : w'.heap[g]? = w.heap[g]?) : Cells8 w' g o x := by
  have e : ∀ o, w'.cell? ⟨g, o, none⟩ = w.cell? ⟨g, o, none⟩ := fun o => World.cell?_of_block (a := ⟨g, o, none⟩) hb
  unfold Cells8 at *
  rw [e, e, e, e, e, e, e, e]
  exact h
/-- The list that grows by insertion. -/
structure Ot (wr : World) (v : Value) (i : Nat) (rows : List (St × Sl)) : Prop where
  form : (i = 0 ∧ v = .slice none 0 0) ∨ (0 < i ∧ ∃ g cap, v = .slice (some ⟨g, 0, none⟩) i cap ∧ i ≤ cap ∧ BlkK 8 encT 35 wr g rows)
  len : rows.length = i
  opp : ∀ x ∈ rows, RowAt (Value.int .i64) wr (slv x.2) x.1.opp
theorem Ot.step {wr wr' : World} {v : Value} {i : Nat} {rows : List (St × Sl)} (h : Ot wr v i rows) (hb : Below wr.heap.size wr wr') : Ot wr' v i rows := by
  refine ⟨?_, h.len, fun x hx => (h.opp x hx).below hb⟩
  rcases h.form with h0 | ⟨hi, g, cap, hv, hc, hk⟩
  · exact .inl h0
  · exact .inr ⟨hi, g, cap, hv, hc, hk.same (hb.block _ hk.lt)⟩
theorem Ot.row {wr : World} {v : Value} {i : Nat} {rows : List (St × Sl)} (h : Ot wr v i rows) : Cg.RowK 8 encT wr v rows := by
  rcases h.form with ⟨hi, rfl⟩ | ⟨hi, g, cap, rfl, hc, hk⟩
  · have : rows = [] := List.eq_nil_of_length_eq_zero (by rw [h.len]; exact hi)
    rw [this]
    exact rowK_nil 8 encT wr
  · have := hk.row cap (by rw [h.len]; exact hc)
    rwa [h.len] at this
theorem Ot.made {w : World} {base n : Nat} {v : Value} {k : Nat} {rows : List (St × Sl)} {cs : List Value} (h : w.ownsRow base 35 8 v n cs) (hn : n = k) (hc : cs = rows.flatMap encT) (hk : 0 < k) (hl : rows.length = k) (ho : ∀ x ∈ rows, RowAt (Value.int .i64) w (slv x.2) x.1.opp) : Ot w v k rows := by
  subst hn
  subst hc
  refine ⟨.inr ⟨hk, ?_⟩, hl, ho⟩
  rcases h.2 with ⟨_, h0⟩ | ⟨g, cap, cur, rfl, hg, hgg, hcap, _⟩
  · omega
  · exact ⟨g, cap, rfl, hcap, own_blkK encT_len h hl⟩
theorem row_takeK {w : World} {g n cap : Nat} {rows : List (St × Sl)} (h : BlkK 8 encT 35 w g rows) (hl : rows.length = n) (hc : n ≤ cap) (i : Nat) (hi : i ≤ n) : Cg.RowK 8 encT w (.slice (some ⟨g, 0, none⟩) i cap) (rows.take i) := by
  have hti : (rows.take i).length = i := by rw [List.length_take]; omega
  refine ⟨_, cap, by rw [hti], ⟨by omega, fun h => by cases h⟩, .inr ⟨g, 0, rfl, h.lt, fun j x hj c u hu => ?_⟩⟩
  rw [List.getElem?_take] at hj
  split at hj
  · rw [Nat.zero_add]; exact h.cell j x hj c u hu
  · cases hj
theorem row_dropK {w : World} {g n cap : Nat} {rows : List (St × Sl)} (h : BlkK 8 encT 35 w g rows) (hl : rows.length = n) (hc : n ≤ cap) (i : Nat) (hi : i ≤ n) : ∀ o, (o = i * 8 ∨ i = n) → Cg.RowK 8 encT w (.slice (some ⟨g, o, none⟩) (n - i) (cap - i)) (rows.drop i) := by
  intro o ho
  have hti : (rows.drop i).length = n - i := by rw [List.length_drop, hl]
  refine ⟨_, cap - i, by rw [hti], ⟨by omega, fun h => by cases h⟩, ?_⟩
  rcases ho with rfl | rfl
  · refine .inr ⟨g, i * 8, rfl, h.lt, fun j x hj c u hu => ?_⟩
    rw [List.getElem?_drop] at hj
    have := h.cell _ x hj c u hu
    rwa [Nat.add_mul] at this
  · exact .inl (List.eq_nil_of_length_eq_zero (by omega))
set_option maxRecDepth 100000 in
set_option maxHeartbeats 8000000 in
theorem standings_ref (n : Int) (N : Nat) (v : Value) (l : List Rs) (w : World) (h : Cg.RowK 5 encR w v l) (hl : l.length ≤ 1000) (hN : clampI n = N) (hN2 : N ≤ 256) :
    Calls Try.prog 13 #[.int .i64 n, v] w fun e w' => ∃ v' rows, e = .returned v' ∧ Cg.RowK 8 encT w' v' rows ∧ (∀ x ∈ rows, RowAt (Value.int .i64) w' (slv x.2) x.1.opp) ∧ Below w.heap.size w w' ∧ (rows.map (·.1)).Perm ((List.range N).map fun (p : Nat) => recT N l p) ∧ Srt (rows.map (·.1)) := by
  have HC := Lib.hid (clamp_ref n w)
  rw [hN] at HC
  have HX := Lib.hid h
  clear h hN
  go_enter Try.func13, Try.ntmps13
  go_wp2_with (go_at_call 24; refine HC.out.mono ?_; rintro e w' ⟨rfl, rfl⟩)
  go_loopw [5, 6] (fun all i wr => ∃ p : Nat, p ≤ N ∧ i = .int .i64 p ∧ ∃ rows, Al w wr all rows ∧ Rows p rows (fun p => recs N l p)) (fun _ i _ => N - (intOf i).toNat)
  case atStart => exact ⟨0, by omega, rfl, [], ⟨World.ownsRow_nil _ _ _ _, fun x hx => (List.not_mem_nil hx).elim, Below.refl _ _⟩, ⟨rfl, fun p x hp => by simp at hp⟩⟩
  case round =>
    obtain ⟨p, hp, rfl, rows, HA, HR⟩ := hrel
    have AA := Lib.hid HA
    have RR := Lib.hid HR
    clear HA HR
    by_cases hlt : p < N
    · have HRC := Lib.hid (record_ref N p v l wr (HX.out.below AA.out.bel) hl)
      go_wp2_with (first
        | (go_at_call 25; refine HRC.out.mono ?_; rintro e w2 ⟨s, rfl, own2, b2⟩; have O2 := Lib.hid own2; have A2 := Lib.hid (AA.out.step b2); clear own2 b2)
        | (at_builtin; have AW := Lib.hid (A2.out.step (show Below w2.heap.size w2 (w2.alloc (.cells (encT (recs N l p, s)).toArray 35)) from (Below.refl _ _).alloc (Nat.le_refl _) _)); refine wpList_append_rowKat rfl (.tmp 20) (.tmp 25) 26 rfl w.heap.size stdElem _ rows.length _ rfl AW.out.own encT encT_len encT_one [(recs N l p, s)] _ rfl (alloc_row w2 (recs N l p, s) 35) (by rw [RR.out.len, List.length_singleton]; omega) (by rw [RR.out.len, List.length_singleton]; omega) AW.out.bel.size ?_; intro v3 w3 own3 grow3 hat3; have OX := own_block O2.out (show Below w2.heap.size w2 (w2.alloc (.cells (encT (recs N l p, s)).toArray 35)) from (Below.refl _ _).alloc (Nat.le_refl _) _); have AN := Lib.hid (AW.out.push (recs N l p, s) (RowX.of_own OX (fun g hg e => by have h1 := (OX.lt g hg).1; have h2 := (AA.out.own.lt g e.symm).2; omega)) own3 grow3 (hat3.imp id (fun h => ⟨_, h, Nat.le_refl _⟩))); clear own3 grow3 hat3 OX))
      go_round
      case rel => exact ⟨p + 1, by omega, by go_num, _, AN.out, ⟨by rw [List.length_append, RR.out.len]; rfl, fun q x hq => by
        by_cases e : q < rows.length
        · rw [List.getElem?_append_left e] at hq
          exact RR.out.at_ q x hq
        · rw [List.getElem?_append_right (by omega)] at hq
          have hqe : q - rows.length = 0 := by
            have := (List.getElem?_eq_some_iff.1 hq).1
            rw [List.length_singleton] at this
            omega
          rw [hqe] at hq
          have hqp : q = p := by have := RR.out.len; omega
          have : x = (recs N l p, s) := by simpa using hq.symm
          rw [this, hqp]⟩⟩
      case measure => simp [intOf]; omega
    · obtain rfl : p = N := by omega
      have BB := Lib.hid (Bl.of_al AA.out RR.out.len)
      have RR0 := Lib.hid (RR.out.same (f' := fun q => if q < 0 then recT p l q else recs p l q) (fun q _ => by rw [if_neg (Nat.not_lt_zero q)]))
      clear AA RR
      go_wp2_with fail
      go_loopw [7] (fun i wr => ∃ q : Nat, q ≤ p ∧ i = .int .i64 q ∧ ∃ rows, Bl p w wr u5 rows ∧ Rows p rows (fun m => if m < q then recT p l m else recs p l m)) (fun i _ => p - (intOf i).toNat)
      case atStart => exact ⟨0, by omega, rfl, rows, BB.out, RR0.out⟩
      clear BB RR0
      case round =>
        obtain ⟨q, hq, rfl, rows3, HB, HR⟩ := hrel
        have BB := Lib.hid HB
        have TR := Lib.hid HR
        clear HB HR
        by_cases hlt : q < p
        · rcases BB.out.blk with h0 | ⟨g, cap, rfl, hcap, hk, hg, ho⟩
          · omega
          have HK0 := Lib.hid hk
          have HG := Lib.hid hg
          clear hk hg ho
          obtain ⟨s, hs⟩ := TR.out.get q hlt
          rw [if_neg (Nat.lt_irrefl q)] at hs
          have hok := recs_ok p q l
          have HPT := Lib.hid (fun (m : Nat) (hm : m < p) => (show ∃ y : St × Sl, rows3[m]? = some y ∧ y.1.pt = (recs p l m).pt by
            obtain ⟨s, hs⟩ := TR.out.get m hm
            refine ⟨_, hs, ?_⟩
            show (if m < q then recT p l m else recs p l m).pt = _
            split <;> rfl))
          have HRT := Lib.hid (show recT p l q = { recs p l q with tie := tieUp (fun m => (recs p l m).pt) (recs p l q).opp } from rfl)
          obtain ⟨x, hx⟩ : ∃ x, x = recs p l q := ⟨_, rfl⟩
          rw [← hx] at hs hok HRT
          have hfs : s.2.1 = x.opp.length := by
            rcases BB.out.blk with h0 | ⟨_, _, _, _, _, _, ho⟩
            · omega
            · obtain ⟨_, _, hv, _⟩ := (ho _ (List.mem_of_getElem? hs)).row
              simp only [Value.slice.injEq] at hv
              exact hv.2.1
          obtain ⟨ao, len, cp⟩ := s
          simp only at hfs
          obtain ⟨_, _, _, _, _, _, ho1, ho2, _⟩ := hok
          obtain ⟨pl, pt, wi, lo, dw, by_, opp, tie⟩ := x
          simp only at hfs ho1 ho2 HRT
          subst hfs
          have HTIE := Lib.hid (show tie = 0 by have := (recs_ok p q l).tie; rw [← hx] at this; exact this)
          have HPP := Lib.hid (show (recs p l q).pt = pt by rw [← hx])
          clear hx
          have HS := Lib.hid hs
          have HO2 := Lib.hid ho2
          clear hs ho2
          go_wp2_with fail
          go_loopw [8] (fun i w3 => ∃ j : Nat, j ≤ opp.length ∧ i = .int .i64 j ∧ Bl p w w3 (.slice (some ⟨g, 0, none⟩) p cap) (rows3.set q (⟨pl, pt, wi, lo, dw, by_, opp, tieUp (fun m => (recs p l m).pt) (opp.take j)⟩, (ao, opp.length, cp)))) (fun i _ => opp.length - (intOf i).toNat)
          case atStart => exact ⟨0, by omega, rfl, by
            have e : rows3.set q (⟨pl, pt, wi, lo, dw, by_, opp, tieUp (fun m => (recs p l m).pt) (opp.take 0)⟩, (ao, opp.length, cp)) = rows3 := by
              have := HS.out
              rw [HTIE.out] at this
              exact List.ext_getElem? fun i => by
                by_cases e : i = q
                · subst e
                  rw [List.getElem?_set_self (List.getElem?_eq_some_iff.1 this).1, this]
                  rfl
                · rw [List.getElem?_set_ne (fun h => e h.symm)]
            rw [e]
            exact BB.out⟩
          case round =>
            obtain ⟨j, hj, rfl, HB3⟩ := hrel
            have B3 := Lib.hid HB3
            clear HB3
            have hpl := (List.getElem?_eq_some_iff.1 HS.out).1
            rcases B3.out.blk with h0 | ⟨g', cap', hv, _, hk3, _, ho3⟩
            · omega
            cases hv
            have K3 := Lib.hid hk3
            have O3 := Lib.hid ho3
            clear hk3 ho3
            have c6 := K3.out.cell q _ (List.getElem?_set_self hpl) 6 _ rfl
            simp only [slv] at c6
            by_cases hjl : j < opp.length
            · rcases (O3.out _ (List.mem_of_getElem? (List.getElem?_set_self hpl))) with ⟨ao2, cp2, hv, _, hx2⟩
              cases hv
              rcases hx2 with hh | ⟨g2, o2, rfl, hg2, hgn, hcell2⟩
              · have hh2 : opp = [] := hh
                rw [hh2] at hjl; simp at hjl
              have qc := cells_getD 0 hcell2 j hjl
              have hq2 := HO2.out (opp.getD j 0) (by rw [List.getD_eq_getElem?_getD, List.getElem?_eq_getElem hjl]; exact List.getElem_mem hjl)
              obtain ⟨m, hm⟩ : ∃ m : Nat, opp.getD j 0 = (m : Int) := ⟨(opp.getD j 0).toNat, by omega⟩
              rw [hm] at qc hq2
              have hmk : m < p := by omega
              have hy : ∃ y : St × Sl, (rows3.set q (⟨pl, pt, wi, lo, dw, by_, opp, tieUp (fun m => (recs p l m).pt) (opp.take j)⟩, (some ⟨g2, o2, none⟩, opp.length, cp)))[m]? = some y ∧ y.1.pt = (recs p l m).pt := by
                by_cases e : m = q
                · subst e
                  exact ⟨_, List.getElem?_set_self hpl, HPP.out.symm⟩
                · rw [List.getElem?_set_ne (fun h => e h.symm)]
                  exact HPT.out m hmk
              obtain ⟨y, hy, hyp⟩ := hy
              have c1 := K3.out.cell m _ hy 1 _ rfl
              rw [hyp] at c1
              have c7 := K3.out.cell q _ (List.getElem?_set_self hpl) 7 _ rfl
              have f7 := K3.out.frozen (q * 8 + 7)
              have hb1 := (recs_ok p m l).pt
              have hb2 := tieUp_bound (fun m => (recs p l m).pt) 3000 (by omega) (opp.take j) (fun q _ => by
                have := (recs_ok p q l).pt
                exact ⟨this.1, by show (recs p l q).pt ≤ 3000; omega⟩)
              have hb3 : (opp.take j).length ≤ 1000 := by rw [List.length_take]; omega
              have HTN := Lib.hid (show tieUp (fun m => (recs p l m).pt) (opp.take (j + 1)) = tieUp (fun m => (recs p l m).pt) (opp.take j) + (recs p l m).pt by
                rw [List.take_succ_eq_append_getElem hjl, tieUp_snoc]
                have : opp[j] = (m : Int) := by rw [← hm, List.getD_eq_getElem?_getD, List.getElem?_eq_getElem hjl]; rfl
                rw [this])
              obtain ⟨pm, hpm⟩ : ∃ pm, pm = (recs p l m).pt := ⟨_, rfl⟩
              obtain ⟨tj, htj⟩ : ∃ tj, tj = tieUp (fun m => (recs p l m).pt) (opp.take j) := ⟨_, rfl⟩
              rw [← hpm] at c1 hb1 HTN
              simp only at c7
              rw [← htj] at c7 hb2 HTN
              have hb4 : 0 ≤ tj ∧ tj ≤ 3000000 := by omega
              have hb5 : 0 ≤ pm ∧ pm ≤ 3000 := by omega
              have hgne : g2 ≠ g := fun e => hgn (by rw [e])
              have CS := Lib.hid (show wr.cell? ⟨g, q * 8 + 6, none⟩ = some (.slice (some ⟨g2, o2, none⟩) opp.length cp) ∧ wr.cell? ⟨g2, o2 + j, none⟩ = some (.int .i64 m) ∧ wr.cell? ⟨g, m * 8 + 1, none⟩ = some (.int .i64 pm) from ⟨c6, qc, c1⟩)
              have HGNE := Lib.hid hgne
              clear hcell2 hg2 hm hy hyp hb1 hb2 hb3 hpm htj hq2 hgne hgn
              go_wp2_with fail
              refine wp_region_noPanic ?_
              refine wp_region_held_drew (S := fun w' => w'.cell? ⟨g, q * 8 + 6, none⟩ = some (.slice (some ⟨g2, o2, none⟩) opp.length cp) ∧ w'.cell? ⟨g2, o2 + j, none⟩ = some (.int .i64 m) ∧ w'.cell? ⟨g, m * 8 + 1, none⟩ = some (.int .i64 pm)) (by kernel_rfl) (CS.out) (fun hHeld => ?_)
              refine wpAnyH_take (i := 0) (oi := ?oiZ0x) (v := ?vZ0x) ?hiZ0x (by kernel_rfl) (by kernel_rfl) (by kernel_rfl) ?hqZ0x ?hyZ0x (by assumption) ?restZ0x
              case hiZ0x => (simp only [List.getElem?_toArray, List.getElem?_cons_zero] <;> rfl)
              case hqZ0x => exact fun _ _ _ h => h
              case hyZ0x => exact Or.inl ⟨by rfl, by (intro wS hSw; obtain ⟨s0, s1, s2⟩ := hSw; go_simp; try with_reducible rfl)⟩
              try simp only [Act.put, List.setIfInBounds_toArray, List.set_cons_zero, List.set_cons_succ]
              refine wpAnyH_take (i := 1) (oi := ?oiZ1x) (v := ?vZ1x) ?hiZ1x (by kernel_rfl) (by kernel_rfl) (by kernel_rfl) ?hqZ1x ?hyZ1x (by assumption) ?restZ1x
              case hiZ1x => (simp only [List.getElem?_toArray, List.getElem?_cons_succ, List.getElem?_cons_zero] <;> rfl)
              case hqZ1x => exact fun _ _ _ h => h
              case hyZ1x => exact Or.inl ⟨by rfl, by (intro wS hSw; obtain ⟨s0, s1, s2⟩ := hSw; go_simp; try with_reducible rfl)⟩
              try simp only [Act.put, List.setIfInBounds_toArray, List.set_cons_zero, List.set_cons_succ]
              refine wpAnyH_take (i := 2) (oi := ?oiZ2x) (v := ?vZ2x) ?hiZ2x (by kernel_rfl) (by kernel_rfl) (by kernel_rfl) ?hqZ2x ?hyZ2x (by assumption) ?restZ2x
              case hiZ2x => (simp only [List.getElem?_toArray, List.getElem?_cons_succ, List.getElem?_cons_zero] <;> rfl)
              case hqZ2x => exact fun _ _ _ h => h
              case hyZ2x => exact Or.inl ⟨by rfl, by (intro wS hSw; obtain ⟨s0, s1, s2⟩ := hSw; go_simp; try with_reducible rfl)⟩
              try simp only [Act.put, List.setIfInBounds_toArray, List.set_cons_zero, List.set_cons_succ]
              refine wpAnyH_take (i := 3) (oi := ?oiZ3x) (v := ?vZ3x) ?hiZ3x (by kernel_rfl) (by kernel_rfl) (by kernel_rfl) ?hqZ3x ?hyZ3x (by assumption) ?restZ3x
              case hiZ3x => (simp only [List.getElem?_toArray, List.getElem?_cons_succ, List.getElem?_cons_zero] <;> rfl)
              case hqZ3x => exact fun _ _ _ h => h
              case hyZ3x => exact Or.inl ⟨by rfl, by (intro wS hSw; obtain ⟨s0, s1, s2⟩ := hSw; go_simp; try with_reducible rfl)⟩
              try simp only [Act.put, List.setIfInBounds_toArray, List.set_cons_zero, List.set_cons_succ]
              refine wpAnyH_take (i := 4) (oi := ?oiZ4x) (v := ?vZ4x) ?hiZ4x (by kernel_rfl) (by kernel_rfl) (by kernel_rfl) ?hqZ4x ?hyZ4x (by assumption) ?restZ4x
              case hiZ4x => (simp only [List.getElem?_toArray, List.getElem?_cons_succ, List.getElem?_cons_zero] <;> rfl)
              case hqZ4x => exact fun _ _ _ h => h
              case hyZ4x => exact Or.inl ⟨by rfl, by (intro wS hSw; obtain ⟨s0, s1, s2⟩ := hSw; go_simp; try with_reducible rfl)⟩
              try simp only [Act.put, List.setIfInBounds_toArray, List.set_cons_zero, List.set_cons_succ]
              refine wpAnyH_take (i := 5) (oi := ?oiZ5x) (v := ?vZ5x) ?hiZ5x (by kernel_rfl) (by kernel_rfl) (by kernel_rfl) ?hqZ5x ?hyZ5x (by assumption) ?restZ5x
              case hiZ5x => (simp only [List.getElem?_toArray, List.getElem?_cons_succ, List.getElem?_cons_zero] <;> rfl)
              case hqZ5x => exact fun _ _ _ h => h
              case hyZ5x => exact Or.inl ⟨by rfl, by (intro wS hSw; obtain ⟨s0, s1, s2⟩ := hSw; go_simp; try with_reducible rfl)⟩
              try simp only [Act.put, List.setIfInBounds_toArray, List.set_cons_zero, List.set_cons_succ]
              refine wpAnyH_take (i := 7) (oi := ?oiZ7x) (v := ?vZ7x) ?hiZ7x (by kernel_rfl) (by kernel_rfl) (by kernel_rfl) ?hqZ7x ?hyZ7x (by assumption) ?restZ7x
              case hiZ7x => (simp only [List.getElem?_toArray, List.getElem?_cons_succ, List.getElem?_cons_zero] <;> rfl)
              case hqZ7x => exact fun _ _ _ h => h
              case hyZ7x => exact Or.inl ⟨by rfl, by (intro wS hSw; obtain ⟨s0, s1, s2⟩ := hSw; go_simp; try with_reducible rfl)⟩
              try simp only [Act.put, List.setIfInBounds_toArray, List.set_cons_zero, List.set_cons_succ]
              refine wpAnyH_take (i := 8) (oi := ?oiZ8x) (v := ?vZ8x) ?hiZ8x (by kernel_rfl) (by kernel_rfl) (by kernel_rfl) ?hqZ8x ?hyZ8x (by assumption) ?restZ8x
              case hiZ8x => (simp only [List.getElem?_toArray, List.getElem?_cons_succ, List.getElem?_cons_zero] <;> rfl)
              case hqZ8x => exact fun _ _ _ h => h
              case hyZ8x => exact Or.inl ⟨by rfl, by (intro wS hSw; obtain ⟨s0, s1, s2⟩ := hSw; go_simp; try with_reducible rfl)⟩
              try simp only [Act.put, List.setIfInBounds_toArray, List.set_cons_zero, List.set_cons_succ]
              refine wpAnyH_take (i := 9) (oi := ?oiZ9x) (v := ?vZ9x) ?hiZ9x (by kernel_rfl) (by kernel_rfl) (by kernel_rfl) ?hqZ9x ?hyZ9x (by assumption) ?restZ9x
              case hiZ9x => (simp only [List.getElem?_toArray, List.getElem?_cons_succ, List.getElem?_cons_zero] <;> rfl)
              case hqZ9x => exact fun _ _ _ h => h
              case hyZ9x => exact Or.inl ⟨by rfl, by (intro wS hSw; obtain ⟨s0, s1, s2⟩ := hSw; go_simp; try with_reducible rfl)⟩
              try simp only [Act.put, List.setIfInBounds_toArray, List.set_cons_zero, List.set_cons_succ]
              refine wpAnyH_take (i := 10) (oi := ?oiZ10x) (v := ?vZ10x) ?hiZ10x (by kernel_rfl) (by kernel_rfl) (by kernel_rfl) ?hqZ10x ?hyZ10x (by assumption) ?restZ10x
              case hiZ10x => (simp only [List.getElem?_toArray, List.getElem?_cons_succ, List.getElem?_cons_zero] <;> rfl)
              case hqZ10x => exact fun _ _ _ h => h
              case hyZ10x => exact Or.inl ⟨by rfl, by (intro wS hSw; obtain ⟨s0, s1, s2⟩ := hSw; go_simp; try with_reducible rfl)⟩
              try simp only [Act.put, List.setIfInBounds_toArray, List.set_cons_zero, List.set_cons_succ]
              refine wpAnyH_take (i := 11) (oi := ?oiZ11x) (v := ?vZ11x) ?hiZ11x (by kernel_rfl) (by kernel_rfl) (by kernel_rfl) ?hqZ11x ?hyZ11x (by assumption) ?restZ11x
              case hiZ11x => (simp only [List.getElem?_toArray, List.getElem?_cons_succ, List.getElem?_cons_zero] <;> rfl)
              case hqZ11x => exact fun _ _ _ h => h
              case hyZ11x => exact Or.inl ⟨by rfl, by (intro wS hSw; obtain ⟨s0, s1, s2⟩ := hSw; go_simp; try with_reducible rfl)⟩
              try simp only [Act.put, List.setIfInBounds_toArray, List.set_cons_zero, List.set_cons_succ]
              refine wpAnyH_take (i := 12) (oi := ?oiZ12x) (v := ?vZ12x) ?hiZ12x (by kernel_rfl) (by kernel_rfl) (by kernel_rfl) ?hqZ12x ?hyZ12x (by assumption) ?restZ12x
              case hiZ12x => (simp only [List.getElem?_toArray, List.getElem?_cons_succ, List.getElem?_cons_zero] <;> rfl)
              case hqZ12x => exact fun _ _ _ h => h
              case hyZ12x => exact Or.inl ⟨by rfl, by (intro wS hSw; obtain ⟨s0, s1, s2⟩ := hSw; go_simp; try with_reducible rfl)⟩
              try simp only [Act.put, List.setIfInBounds_toArray, List.set_cons_zero, List.set_cons_succ]
              refine wpAnyH_take (i := 13) (oi := ?oiZ13x) (v := ?vZ13x) ?hiZ13x (by kernel_rfl) (by kernel_rfl) (by kernel_rfl) ?hqZ13x ?hyZ13x (by assumption) ?restZ13x
              case hiZ13x => (simp only [List.getElem?_toArray, List.getElem?_cons_succ, List.getElem?_cons_zero] <;> rfl)
              case hqZ13x => exact fun _ _ _ h => h
              case hyZ13x => exact Or.inl ⟨by rfl, by (intro wS hSw; obtain ⟨s0, s1, s2⟩ := hSw; go_simp; try with_reducible rfl)⟩
              try simp only [Act.put, List.setIfInBounds_toArray, List.set_cons_zero, List.set_cons_succ]
              refine wpAnyH_take (i := 14) (oi := ?oiZ14x) (v := ?vZ14x) ?hiZ14x (by kernel_rfl) (by kernel_rfl) (by kernel_rfl) ?hqZ14x ?hyZ14x (by assumption) ?restZ14x
              case hiZ14x => (simp only [List.getElem?_toArray, List.getElem?_cons_succ, List.getElem?_cons_zero] <;> rfl)
              case hqZ14x => exact fun _ _ _ h => h
              case hyZ14x => exact Or.inl ⟨by rfl, by (intro wS hSw; obtain ⟨s0, s1, s2⟩ := hSw; go_simp; try with_reducible rfl)⟩
              try simp only [Act.put, List.setIfInBounds_toArray, List.set_cons_zero, List.set_cons_succ]
              refine wpAnyH_take (i := 15) (oi := ?oiZ15x) (v := ?vZ15x) ?hiZ15x (by kernel_rfl) (by kernel_rfl) (by kernel_rfl) ?hqZ15x ?hyZ15x (by assumption) ?restZ15x
              case hiZ15x => (simp only [List.getElem?_toArray, List.getElem?_cons_succ, List.getElem?_cons_zero] <;> rfl)
              case hqZ15x => exact fun _ _ _ h => h
              case hyZ15x => exact Or.inl ⟨by rfl, by (intro wS hSw; obtain ⟨s0, s1, s2⟩ := hSw; go_simp; try with_reducible rfl)⟩
              try simp only [Act.put, List.setIfInBounds_toArray, List.set_cons_zero, List.set_cons_succ]
              refine wpAnyH_take (i := 16) (oi := ?oiZ16x) (v := ?vZ16x) ?hiZ16x (by kernel_rfl) (by kernel_rfl) (by kernel_rfl) ?hqZ16x ?hyZ16x (by assumption) ?restZ16x
              case hiZ16x => (simp only [List.getElem?_toArray, List.getElem?_cons_succ, List.getElem?_cons_zero] <;> rfl)
              case hqZ16x => exact fun _ _ _ h => h
              case hyZ16x => exact Or.inl ⟨by rfl, by (intro wS hSw; obtain ⟨s0, s1, s2⟩ := hSw; go_simp; try with_reducible rfl)⟩
              try simp only [Act.put, List.setIfInBounds_toArray, List.set_cons_zero, List.set_cons_succ]
              refine wpAnyH_take (i := 17) (oi := ?oiZ17x) (v := ?vZ17x) ?hiZ17x (by kernel_rfl) (by kernel_rfl) (by kernel_rfl) ?hqZ17x ?hyZ17x (by assumption) ?restZ17x
              case hiZ17x => (simp only [List.getElem?_toArray, List.getElem?_cons_succ, List.getElem?_cons_zero] <;> rfl)
              case hqZ17x => exact fun _ _ _ h => h
              case hyZ17x => exact Or.inl ⟨by rfl, by (intro wS hSw; obtain ⟨s0, s1, s2⟩ := hSw; go_simp; try with_reducible rfl)⟩
              try simp only [Act.put, List.setIfInBounds_toArray, List.set_cons_zero, List.set_cons_succ]
              refine wpAnyH_take (i := 18) (oi := ?oiZ18x) (v := ?vZ18x) ?hiZ18x (by kernel_rfl) (by kernel_rfl) (by kernel_rfl) ?hqZ18x ?hyZ18x (by assumption) ?restZ18x
              case hiZ18x => (simp only [List.getElem?_toArray, List.getElem?_cons_succ, List.getElem?_cons_zero] <;> rfl)
              case hqZ18x => exact fun _ _ _ h => h
              case hyZ18x => exact Or.inl ⟨by rfl, by (intro wS hSw; obtain ⟨s0, s1, s2⟩ := hSw; go_simp; try with_reducible rfl)⟩
              try simp only [Act.put, List.setIfInBounds_toArray, List.set_cons_zero, List.set_cons_succ]
              refine wpAnyH_ready (rs := [6]) (by kernel_rfl) (by simp) ?_
              refine AllReadyH.cons (o := ?oiZ6x) ?hiZ6x (fun K hK => ?hsZ6x) AllReadyH.nil
              case hiZ6x => (simp only [List.getElem?_toArray, List.getElem?_cons_succ, List.getElem?_cons_zero] <;> rfl)
              go_simp
              refine hK.out _ _ CS.out (fun hHeld => ?_)
              clear hHeld
              clear hK K
              try simp only [Act.put, List.setIfInBounds_toArray, List.set_cons_zero, List.set_cons_succ]
              refine wpAnyH_take (i := 19) (oi := ?oiZ19x) (v := ?vZ19x) ?hiZ19x (by kernel_rfl) (by kernel_rfl) (by kernel_rfl) ?hqZ19x ?hyZ19x (by assumption) ?restZ19x
              case hiZ19x => (simp only [List.getElem?_toArray, List.getElem?_cons_succ, List.getElem?_cons_zero] <;> rfl)
              case hqZ19x => exact fun _ _ _ h => h
              case hyZ19x => exact Or.inl ⟨by rfl, by (intro wS hSw; obtain ⟨s0, s1, s2⟩ := hSw; go_simp; try with_reducible rfl)⟩
              try simp only [Act.put, List.setIfInBounds_toArray, List.set_cons_zero, List.set_cons_succ]
              refine wpAnyH_take (i := 20) (oi := ?oiZ20x) (v := ?vZ20x) ?hiZ20x (by kernel_rfl) (by kernel_rfl) (by kernel_rfl) ?hqZ20x ?hyZ20x (by assumption) ?restZ20x
              case hiZ20x => (simp only [List.getElem?_toArray, List.getElem?_cons_succ, List.getElem?_cons_zero] <;> rfl)
              case hqZ20x => exact fun _ _ _ h => h
              case hyZ20x => exact Or.inl ⟨by rfl, by (intro wS hSw; obtain ⟨s0, s1, s2⟩ := hSw; go_simp; try with_reducible rfl)⟩
              try simp only [Act.put, List.setIfInBounds_toArray, List.set_cons_zero, List.set_cons_succ]
              refine wpAnyH_take (i := 21) (oi := ?oiZ21x) (v := ?vZ21x) ?hiZ21x (by kernel_rfl) (by kernel_rfl) (by kernel_rfl) ?hqZ21x ?hyZ21x (by assumption) ?restZ21x
              case hiZ21x => (simp only [List.getElem?_toArray, List.getElem?_cons_succ, List.getElem?_cons_zero] <;> rfl)
              case hqZ21x => exact fun _ _ _ h => h
              case hyZ21x => exact Or.inl ⟨by rfl, by (intro wS hSw; obtain ⟨s0, s1, s2⟩ := hSw; go_simp; try with_reducible rfl)⟩
              try simp only [Act.put, List.setIfInBounds_toArray, List.set_cons_zero, List.set_cons_succ]
              refine wpAnyH_ready (rs := [22]) (by kernel_rfl) (by simp) ?_
              refine AllReadyH.cons (o := ?oiZ22x) ?hiZ22x (fun K hK => ?hsZ22x) AllReadyH.nil
              case hiZ22x => (simp only [List.getElem?_toArray, List.getElem?_cons_succ, List.getElem?_cons_zero] <;> rfl)
              go_simp
              refine hK.out _ _ ⟨(World.cell?_setCell_other _ _ _ _ (by intro e; have := congrArg Addr.off e; simp only at this; omega)).trans CS.out.1, (World.cell?_setCell_other _ _ _ _ (by intro e; exact HGNE.out (congrArg Addr.block e).symm)).trans CS.out.2.1, (World.cell?_setCell_other _ _ _ _ (by intro e; have := congrArg Addr.off e; simp only at this; omega)).trans CS.out.2.2⟩ (fun hHeld => ?_)
              clear hHeld
              clear hK K
              try simp only [Act.put, List.setIfInBounds_toArray, List.set_cons_zero, List.set_cons_succ]
              refine wpAnyH_done (by kernel_rfl) ?_ _
              refine NoPanic.normal ?_
              go_wp2_with fail
              go_round
              case rel =>
                refine ⟨j + 1, by omega, by go_num, ?_⟩
                have P := B3.out.poke (by omega) q _ (List.getElem?_set_self hpl) 7 (by omega) (.int .i64 (tj + pm)) ⟨pl, pt, wi, lo, dw, by_, opp, tieUp (fun m => (recs p l m).pt) (opp.take (j + 1))⟩ (fun i => by rw [HTN.out]; rcases i with _ | _ | _ | _ | _ | _ | _ | _ | i <;> rfl) rfl
                rw [List.set_set] at P
                exact P.step (Below.refl _ _).drew
              case measure => simp [intOf]; omega
            · obtain rfl : j = opp.length := by omega
              go_wp2_with fail
              go_round
              case rel =>
                refine ⟨q + 1, by omega, by go_num, _, B3.out, ?_⟩
                refine TR.out.set q _ ?_ (fun m _ hm => ?_)
                · rw [if_pos (Nat.lt_succ_self q), HRT.out, List.take_length]
                · by_cases hmq : m < q
                  · rw [if_pos hmq, if_pos (by omega)]
                  · rw [if_neg hmq, if_neg (by omega)]
              case measure => simp [intOf]; omega
        · obtain rfl : q = p := by omega
          have TR2 := Lib.hid (TR.out.same (f' := fun m => recT q l m) (fun m hm => by rw [if_pos hm]))
          clear TR
          go_wp2_with fail
          go_loopw [9, 10] (fun out i wr => ∃ k : Nat, k ≤ q ∧ i = .int .i64 k ∧ Bl q w wr u5 rows3 ∧ ∃ ro, Ot wr out k ro ∧ (ro.map (·.1)).Perm ((List.range k).map fun (m : Nat) => recT q l m) ∧ Srt (ro.map (·.1))) (fun _ i _ => q - (intOf i).toNat)
          case atStart => exact ⟨0, by omega, rfl, BB.out, [], ⟨.inl ⟨rfl, rfl⟩, rfl, fun x hx => (List.not_mem_nil hx).elim⟩, List.Perm.refl _, List.Pairwise.nil⟩
          clear BB
          case round =>
            obtain ⟨k, hk, rfl, HB, ro, HO, HP, HSR⟩ := hrel
            have BB := Lib.hid HB
            have OO := Lib.hid HO
            have PP := Lib.hid HP
            have SS := Lib.hid HSR
            clear HB HO HP HSR
            by_cases hlt : k < q
            · rcases BB.out.blk with h0 | ⟨g, cap, rfl, hcap, hk3, hg, ho⟩
              · omega
              obtain ⟨s, hs⟩ := TR2.out.get k hlt
              have HCX := Lib.hid (BlkK.cells8 hk3 k _ hs)
              have HGL := Lib.hid hk3.lt
              have HOX := Lib.hid (ho _ (List.mem_of_getElem? hs)).row
              have HSX := Lib.hid hs
              clear hk3 hg ho hs
              obtain ⟨x, hx⟩ : ∃ x, x = recT q l k := ⟨_, rfl⟩
              rw [← hx] at HCX HOX HSX
              have HXE := Lib.hid hx
              clear hx
              rcases OO.out.form with ⟨rfl, rfl⟩ | ⟨hk0, g2, cap2, rfl, hcap2, hk2⟩
              · have hro : ro = [] := List.eq_nil_of_length_eq_zero OO.out.len
                subst hro
                go_wp2_with fail
                go_loopw [11] (fun a w3 => a = .int .i64 0 ∧ w3 = wr) (fun _ _ => 0)
                case atStart => exact ⟨rfl, rfl⟩
                case round =>
                  obtain ⟨rfl, rfl⟩ := hrel
                  go_wp2_with fail
                  go_quiet (fail)
                  rename_i nq
                  have BD := Lib.hid (show Below wr.heap.size wr (wr.drewN nq) from drewN_grow wr nq)
                  have B4 := Lib.hid (BB.out.step BD.out)
                  have O4 := Lib.hid (OO.out.step BD.out)
                  have HLT := Lib.hid (show (([] : List (St × Sl)).take 0).length = 0 by rfl)
                  have HLD := Lib.hid (show (([] : List (St × Sl)).drop 0).length = 0 by rfl)
                  go_wp2_with (first
                    | (at_builtin; refine wpList_append_rowK rfl (.tmp 86) (.tmp 89) 26 rfl (wr.drewN nq).heap.size stdElem _ 0 [] rfl (World.ownsRow_nil _ _ _ _) encT encT_len encT_one (([] : List (St × Sl)).take 0) _ rfl (rowK_nil 8 encT _) (by rw [HLT.out]; omega) (by rw [HLT.out]; omega) (Nat.le_refl _) ?_; intro v5 w5 own5 gr5 bel5; rw [HLT.out, Nat.zero_add, List.nil_append] at own5; have O5 := Lib.hid own5; have BE5 := Lib.hid bel5; have C5 := (HCX.out.keep (BD.out.block _ HGL.out)).keep (bel5.block _ (Nat.lt_of_lt_of_le HGL.out BD.out.size)); obtain ⟨x0, x1, x2, x3, x4, x5, x6, x7⟩ := C5; clear own5 gr5 bel5)
                    | (at_builtin; refine wpList_append_rowK rfl (.tmp 91) (.tmp 96) 26 rfl (wr.drewN nq).heap.size stdElem _ 0 _ rfl (own_block O5.out (show Below w5.heap.size w5 (w5.alloc (.cells (encT (x, s)).toArray 35)) from (Below.refl _ _).alloc (Nat.le_refl _) _)) encT encT_len encT_one [(x, s)] _ rfl (alloc_row w5 (x, s) 35) (by rw [List.length_singleton]; omega) (by rw [List.length_singleton]; omega) (Nat.le_trans BE5.out.size (show Below w5.heap.size w5 (w5.alloc (.cells (encT (x, s)).toArray 35)) from (Below.refl _ _).alloc (Nat.le_refl _) _).size) ?_; intro v6 w6 own6 gr6 bel6; rw [List.length_singleton] at own6; have O6 := Lib.hid own6; have BE6 := Lib.hid (BE5.out.trans (((show Below w5.heap.size w5 (w5.alloc (.cells (encT (x, s)).toArray 35)) from (Below.refl _ _).alloc (Nat.le_refl _) _).mono BE5.out.size).trans bel6)); clear own6 gr6 bel6)
                    | (at_builtin; refine wpList_append_rowK rfl (.tmp 98) (.tmp 101) 26 rfl (wr.drewN nq).heap.size stdElem _ (0 + 1) _ rfl O6.out encT encT_len encT_one (([] : List (St × Sl)).drop 0) _ rfl (rowK_nil 8 encT _) (by rw [HLD.out]; omega) (by rw [HLD.out]; omega) BE6.out.size ?_; intro v7 w7 own7 gr7 bel7; have O7 := Lib.hid own7; have BE7 := Lib.hid (BE6.out.trans bel7); clear own7 gr7 bel7))
                  go_round
                  case rel =>
                    refine ⟨0 + 1, by omega, by go_num, B4.out.step BE7.out, ([] : List (St × Sl)).take 0 ++ [(x, s)] ++ ([] : List (St × Sl)).drop 0, Ot.made O7.out (by rw [HLD.out] <;> omega) (by rw [List.flatMap_append, List.flatMap_append]) (by omega) (by rw [List.length_append, List.length_append, HLT.out, HLD.out, List.length_singleton] <;> omega) (fun y hy => ?_), ?_, ?_⟩
                    · rw [List.append_assoc, List.mem_append, List.mem_append, List.mem_singleton] at hy
                      rcases hy with hy | rfl | hy
                      · exact (O4.out.opp y (List.mem_of_mem_take hy)).below BE7.out
                      · exact (HOX.out.below BD.out).below BE7.out
                      · exact (O4.out.opp y (List.mem_of_mem_drop hy)).below BE7.out
                    · rw [List.map_append, List.map_append, List.map_take, List.map_drop, List.range_succ, List.map_append]
                      refine (ins_perm (([] : List (St × Sl)).map (·.1)) x 0).trans ?_
                      rw [HXE.out]
                      exact PP.out.append_right _
                    · rw [List.map_append, List.map_append, List.map_take, List.map_drop]
                      exact srt_ins SS.out x 0 (by rw [List.length_map, OO.out.len]; omega) (fun j hj hjk => absurd hjk (Nat.not_lt_zero j)) (fun hk => absurd hk (Nat.not_lt_zero 0))
                  case measure => simp [intOf]; omega
              · have HK2 := Lib.hid hk2
                clear hk2
                go_wp2_with fail
                obtain ⟨wo, rfl⟩ : ∃ wo, wo = wr := ⟨_, rfl⟩
                go_loopw [11] (fun a w3 => ∃ j : Nat, j ≤ k ∧ a = .int .i64 j ∧ Hid (∀ m (h : m < ro.length), m < j → better ro[m].1 x = true) ∧ Below wo.heap.size wo w3) (fun a _ => k - (intOf a).toNat)
                case atStart => exact ⟨0, by omega, rfl, Lib.hid (fun m _ hm => absurd hm (Nat.not_lt_zero m)), Below.refl _ _⟩
                case round =>
                  obtain ⟨j, hj, rfl, HJ, hbw⟩ := hrel
                  have BD0 := Lib.hid hbw
                  clear hbw
                  by_cases hjk : j < k
                  · have hjl : j < ro.length := by rw [OO.out.len]; exact hjk
                    obtain ⟨yy, hyy⟩ : ∃ yy, yy = ro[j] := ⟨_, rfl⟩
                    have HYY := Lib.hid hyy
                    have CS := Lib.hid (show Cells8 wr g2 (j * 8) yy ∧ Cells8 wr g (k * 8) (x, s) from ⟨by rw [hyy]; exact (BlkK.cells8 HK2.out j ro[j] (List.getElem?_eq_getElem hjl)).keep (BD0.out.block _ HK2.out.lt), HCX.out.keep (BD0.out.block _ HGL.out)⟩)
                    clear hyy
                    cases hb : better yy.1 x
                    · have HBV := Lib.hid hb
                      clear hb
                      go_wp2_with fail
                      refine wp_region_noPanic ?_
                      refine wp_region_held_drew (S := fun w' => Cells8 w' g2 (j * 8) yy ∧ Cells8 w' g (k * 8) (x, s)) (by kernel_rfl) (CS.out) (fun hHeld => ?_)
                      refine wpAnyH_take (i := 0) (oi := ?oiG0x) (v := ?vG0x) ?hiG0x (by kernel_rfl) (by kernel_rfl) (by kernel_rfl) ?hqG0x ?hyG0x (by assumption) ?restG0x
                      case hiG0x => (simp only [List.getElem?_toArray, List.getElem?_cons_zero] <;> rfl)
                      case hqG0x => exact fun _ _ _ h => h
                      case hyG0x => exact Or.inl ⟨by rfl, by (intro wS hSw; obtain ⟨⟨a0, a1, a2, a3, a4, a5, a6, a7⟩, ⟨e0, e1, e2, e3, e4, e5, e6, e7⟩⟩ := hSw; simp only at e0 e1 e2 e3 e4 e5 e6 e7; go_simp; try with_reducible rfl)⟩
                      try simp only [Act.put, List.setIfInBounds_toArray, List.set_cons_zero, List.set_cons_succ]
                      refine wpAnyH_take (i := 1) (oi := ?oiG1x) (v := ?vG1x) ?hiG1x (by kernel_rfl) (by kernel_rfl) (by kernel_rfl) ?hqG1x ?hyG1x (by assumption) ?restG1x
                      case hiG1x => (simp only [List.getElem?_toArray, List.getElem?_cons_succ, List.getElem?_cons_zero] <;> rfl)
                      case hqG1x => exact fun _ _ _ h => h
                      case hyG1x => exact Or.inl ⟨by rfl, by (intro wS hSw; obtain ⟨⟨a0, a1, a2, a3, a4, a5, a6, a7⟩, ⟨e0, e1, e2, e3, e4, e5, e6, e7⟩⟩ := hSw; simp only at e0 e1 e2 e3 e4 e5 e6 e7; go_simp; try with_reducible rfl)⟩
                      try simp only [Act.put, List.setIfInBounds_toArray, List.set_cons_zero, List.set_cons_succ]
                      refine wpAnyH_take (i := 2) (oi := ?oiG2x) (v := ?vG2x) ?hiG2x (by kernel_rfl) (by kernel_rfl) (by kernel_rfl) ?hqG2x ?hyG2x (by assumption) ?restG2x
                      case hiG2x => (simp only [List.getElem?_toArray, List.getElem?_cons_succ, List.getElem?_cons_zero] <;> rfl)
                      case hqG2x => exact fun _ _ _ h => h
                      case hyG2x => exact Or.inl ⟨by rfl, by (intro wS hSw; obtain ⟨⟨a0, a1, a2, a3, a4, a5, a6, a7⟩, ⟨e0, e1, e2, e3, e4, e5, e6, e7⟩⟩ := hSw; simp only at e0 e1 e2 e3 e4 e5 e6 e7; go_simp; try with_reducible rfl)⟩
                      try simp only [Act.put, List.setIfInBounds_toArray, List.set_cons_zero, List.set_cons_succ]
                      refine wpAnyH_take (i := 3) (oi := ?oiG3x) (v := ?vG3x) ?hiG3x (by kernel_rfl) (by kernel_rfl) (by kernel_rfl) ?hqG3x ?hyG3x (by assumption) ?restG3x
                      case hiG3x => (simp only [List.getElem?_toArray, List.getElem?_cons_succ, List.getElem?_cons_zero] <;> rfl)
                      case hqG3x => exact fun _ _ _ h => h
                      case hyG3x => exact Or.inl ⟨by rfl, by (intro wS hSw; obtain ⟨⟨a0, a1, a2, a3, a4, a5, a6, a7⟩, ⟨e0, e1, e2, e3, e4, e5, e6, e7⟩⟩ := hSw; simp only at e0 e1 e2 e3 e4 e5 e6 e7; go_simp; try with_reducible rfl)⟩
                      try simp only [Act.put, List.setIfInBounds_toArray, List.set_cons_zero, List.set_cons_succ]
                      refine wpAnyH_take (i := 4) (oi := ?oiG4x) (v := ?vG4x) ?hiG4x (by kernel_rfl) (by kernel_rfl) (by kernel_rfl) ?hqG4x ?hyG4x (by assumption) ?restG4x
                      case hiG4x => (simp only [List.getElem?_toArray, List.getElem?_cons_succ, List.getElem?_cons_zero] <;> rfl)
                      case hqG4x => exact fun _ _ _ h => h
                      case hyG4x => exact Or.inl ⟨by rfl, by (intro wS hSw; obtain ⟨⟨a0, a1, a2, a3, a4, a5, a6, a7⟩, ⟨e0, e1, e2, e3, e4, e5, e6, e7⟩⟩ := hSw; simp only at e0 e1 e2 e3 e4 e5 e6 e7; go_simp; try with_reducible rfl)⟩
                      try simp only [Act.put, List.setIfInBounds_toArray, List.set_cons_zero, List.set_cons_succ]
                      refine wpAnyH_take (i := 5) (oi := ?oiG5x) (v := ?vG5x) ?hiG5x (by kernel_rfl) (by kernel_rfl) (by kernel_rfl) ?hqG5x ?hyG5x (by assumption) ?restG5x
                      case hiG5x => (simp only [List.getElem?_toArray, List.getElem?_cons_succ, List.getElem?_cons_zero] <;> rfl)
                      case hqG5x => exact fun _ _ _ h => h
                      case hyG5x => exact Or.inl ⟨by rfl, by (intro wS hSw; obtain ⟨⟨a0, a1, a2, a3, a4, a5, a6, a7⟩, ⟨e0, e1, e2, e3, e4, e5, e6, e7⟩⟩ := hSw; simp only at e0 e1 e2 e3 e4 e5 e6 e7; go_simp; try with_reducible rfl)⟩
                      try simp only [Act.put, List.setIfInBounds_toArray, List.set_cons_zero, List.set_cons_succ]
                      refine wpAnyH_take (i := 6) (oi := ?oiG6x) (v := ?vG6x) ?hiG6x (by kernel_rfl) (by kernel_rfl) (by kernel_rfl) ?hqG6x ?hyG6x (by assumption) ?restG6x
                      case hiG6x => (simp only [List.getElem?_toArray, List.getElem?_cons_succ, List.getElem?_cons_zero] <;> rfl)
                      case hqG6x => exact fun _ _ _ h => h
                      case hyG6x => exact Or.inl ⟨by rfl, by (intro wS hSw; obtain ⟨⟨a0, a1, a2, a3, a4, a5, a6, a7⟩, ⟨e0, e1, e2, e3, e4, e5, e6, e7⟩⟩ := hSw; simp only at e0 e1 e2 e3 e4 e5 e6 e7; go_simp; try with_reducible rfl)⟩
                      try simp only [Act.put, List.setIfInBounds_toArray, List.set_cons_zero, List.set_cons_succ]
                      refine wpAnyH_take (i := 7) (oi := ?oiG7x) (v := ?vG7x) ?hiG7x (by kernel_rfl) (by kernel_rfl) (by kernel_rfl) ?hqG7x ?hyG7x (by assumption) ?restG7x
                      case hiG7x => (simp only [List.getElem?_toArray, List.getElem?_cons_succ, List.getElem?_cons_zero] <;> rfl)
                      case hqG7x => exact fun _ _ _ h => h
                      case hyG7x => exact Or.inl ⟨by rfl, by (intro wS hSw; obtain ⟨⟨a0, a1, a2, a3, a4, a5, a6, a7⟩, ⟨e0, e1, e2, e3, e4, e5, e6, e7⟩⟩ := hSw; simp only at e0 e1 e2 e3 e4 e5 e6 e7; go_simp; try with_reducible rfl)⟩
                      try simp only [Act.put, List.setIfInBounds_toArray, List.set_cons_zero, List.set_cons_succ]
                      refine wpAnyH_take (i := 8) (oi := ?oiG8x) (v := ?vG8x) ?hiG8x (by kernel_rfl) (by kernel_rfl) (by kernel_rfl) ?hqG8x ?hyG8x (by assumption) ?restG8x
                      case hiG8x => (simp only [List.getElem?_toArray, List.getElem?_cons_succ, List.getElem?_cons_zero] <;> rfl)
                      case hqG8x => exact fun _ _ _ h => h
                      case hyG8x => exact Or.inl ⟨by rfl, by (intro wS hSw; obtain ⟨⟨a0, a1, a2, a3, a4, a5, a6, a7⟩, ⟨e0, e1, e2, e3, e4, e5, e6, e7⟩⟩ := hSw; simp only at e0 e1 e2 e3 e4 e5 e6 e7; go_simp; try with_reducible rfl)⟩
                      try simp only [Act.put, List.setIfInBounds_toArray, List.set_cons_zero, List.set_cons_succ]
                      refine wpAnyH_take (i := 9) (oi := ?oiG9x) (v := ?vG9x) ?hiG9x (by kernel_rfl) (by kernel_rfl) (by kernel_rfl) ?hqG9x ?hyG9x (by assumption) ?restG9x
                      case hiG9x => (simp only [List.getElem?_toArray, List.getElem?_cons_succ, List.getElem?_cons_zero] <;> rfl)
                      case hqG9x => exact fun _ _ _ h => h
                      case hyG9x => exact Or.inl ⟨by rfl, by (intro wS hSw; obtain ⟨⟨a0, a1, a2, a3, a4, a5, a6, a7⟩, ⟨e0, e1, e2, e3, e4, e5, e6, e7⟩⟩ := hSw; simp only at e0 e1 e2 e3 e4 e5 e6 e7; go_simp; try with_reducible rfl)⟩
                      try simp only [Act.put, List.setIfInBounds_toArray, List.set_cons_zero, List.set_cons_succ]
                      refine wpAnyH_take (i := 10) (oi := ?oiG10x) (v := ?vG10x) ?hiG10x (by kernel_rfl) (by kernel_rfl) (by kernel_rfl) ?hqG10x ?hyG10x (by assumption) ?restG10x
                      case hiG10x => (simp only [List.getElem?_toArray, List.getElem?_cons_succ, List.getElem?_cons_zero] <;> rfl)
                      case hqG10x => exact fun _ _ _ h => h
                      case hyG10x => exact Or.inl ⟨by rfl, by (intro wS hSw; obtain ⟨⟨a0, a1, a2, a3, a4, a5, a6, a7⟩, ⟨e0, e1, e2, e3, e4, e5, e6, e7⟩⟩ := hSw; simp only at e0 e1 e2 e3 e4 e5 e6 e7; go_simp; try with_reducible rfl)⟩
                      try simp only [Act.put, List.setIfInBounds_toArray, List.set_cons_zero, List.set_cons_succ]
                      refine wpAnyH_take (i := 11) (oi := ?oiG11x) (v := ?vG11x) ?hiG11x (by kernel_rfl) (by kernel_rfl) (by kernel_rfl) ?hqG11x ?hyG11x (by assumption) ?restG11x
                      case hiG11x => (simp only [List.getElem?_toArray, List.getElem?_cons_succ, List.getElem?_cons_zero] <;> rfl)
                      case hqG11x => exact fun _ _ _ h => h
                      case hyG11x => exact Or.inl ⟨by rfl, by (intro wS hSw; obtain ⟨⟨a0, a1, a2, a3, a4, a5, a6, a7⟩, ⟨e0, e1, e2, e3, e4, e5, e6, e7⟩⟩ := hSw; simp only at e0 e1 e2 e3 e4 e5 e6 e7; go_simp; try with_reducible rfl)⟩
                      try simp only [Act.put, List.setIfInBounds_toArray, List.set_cons_zero, List.set_cons_succ]
                      refine wpAnyH_take (i := 12) (oi := ?oiG12x) (v := ?vG12x) ?hiG12x (by kernel_rfl) (by kernel_rfl) (by kernel_rfl) ?hqG12x ?hyG12x (by assumption) ?restG12x
                      case hiG12x => (simp only [List.getElem?_toArray, List.getElem?_cons_succ, List.getElem?_cons_zero] <;> rfl)
                      case hqG12x => exact fun _ _ _ h => h
                      case hyG12x => exact Or.inl ⟨by rfl, by (intro wS hSw; obtain ⟨⟨a0, a1, a2, a3, a4, a5, a6, a7⟩, ⟨e0, e1, e2, e3, e4, e5, e6, e7⟩⟩ := hSw; simp only at e0 e1 e2 e3 e4 e5 e6 e7; go_simp; try with_reducible rfl)⟩
                      try simp only [Act.put, List.setIfInBounds_toArray, List.set_cons_zero, List.set_cons_succ]
                      refine wpAnyH_ready (rs := [13]) (by kernel_rfl) (by simp) ?_
                      refine AllReadyH.cons (o := ?oiG13x) ?hiG13x (fun K hK => ?hsG13x) AllReadyH.nil
                      case hiG13x => (simp only [List.getElem?_toArray, List.getElem?_cons_succ, List.getElem?_cons_zero] <;> rfl)
                      go_simp
                      refine (before_ref yy.1 x (slv yy.2) (slv s) _).mono ?_
                      rintro e w4 ⟨rfl, b4⟩
                      rw [HBV.out]
                      have BD4 := Lib.hid (BD0.out.trans ((show Below wr.heap.size wr wr.drew from (Below.refl _ _).drew).trans b4 |>.mono BD0.out.size))
                      have CS4 := Lib.hid (show Cells8 w4 g2 (j * 8) yy ∧ Cells8 w4 g (k * 8) (x, s) from ⟨CS.out.1.keep (b4.block _ (Nat.lt_of_lt_of_le HK2.out.lt BD0.out.size)), CS.out.2.keep (b4.block _ (Nat.lt_of_lt_of_le HGL.out BD0.out.size))⟩)
                      clear b4
                      go_wp2_with fail
                      refine hK.out _ _ CS4.out (fun hHeld => ?_)
                      clear hHeld
                      clear hK K
                      try simp only [Act.put, List.setIfInBounds_toArray, List.set_cons_zero, List.set_cons_succ]
                      refine wpAnyH_take (i := 14) (oi := ?oiG14x) (v := ?vG14x) ?hiG14x (by kernel_rfl) (by kernel_rfl) (by kernel_rfl) ?hqG14x ?hyG14x (by assumption) ?restG14x
                      case hiG14x => (simp only [List.getElem?_toArray, List.getElem?_cons_succ, List.getElem?_cons_zero] <;> rfl)
                      case hqG14x => exact fun _ _ _ h => h
                      case hyG14x => exact Or.inl ⟨by rfl, by (intro wS hSw; obtain ⟨⟨a0, a1, a2, a3, a4, a5, a6, a7⟩, ⟨e0, e1, e2, e3, e4, e5, e6, e7⟩⟩ := hSw; simp only at e0 e1 e2 e3 e4 e5 e6 e7; go_simp; try with_reducible rfl)⟩
                      try simp only [Act.put, List.setIfInBounds_toArray, List.set_cons_zero, List.set_cons_succ]
                      refine wpAnyH_done (by kernel_rfl) ?_ _
                      refine NoPanic.normal ?_
                      have hck : ¬ cap2 = j := by omega
                      have B4 := Lib.hid (BB.out.step BD4.out)
                      have O4 := Lib.hid (OO.out.step BD4.out)
                      have HLT := Lib.hid (show (ro.take j).length = j by rw [List.length_take, OO.out.len]; omega)
                      have HLD := Lib.hid (show (ro.drop j).length = k - j by rw [List.length_drop, OO.out.len] <;> omega)
                      go_wp2_with (first
                        | (at_builtin; refine wpList_append_rowK rfl (.tmp 86) (.tmp 89) 26 rfl (w4).heap.size stdElem _ 0 [] rfl (World.ownsRow_nil _ _ _ _) encT encT_len encT_one (ro.take j) _ rfl (row_takeK (HK2.out.same (BD4.out.block _ HK2.out.lt)) OO.out.len hcap2 j (by omega)) (by rw [HLT.out]; omega) (by rw [HLT.out]; omega) (Nat.le_refl _) ?_; intro v5 w5 own5 gr5 bel5; rw [HLT.out, Nat.zero_add, List.nil_append] at own5; have O5 := Lib.hid own5; have BE5 := Lib.hid bel5; have C5 := (HCX.out.keep (BD4.out.block _ HGL.out)).keep (bel5.block _ (Nat.lt_of_lt_of_le HGL.out BD4.out.size)); obtain ⟨x0, x1, x2, x3, x4, x5, x6, x7⟩ := C5; clear own5 gr5 bel5)
                        | (at_builtin; refine wpList_append_rowK rfl (.tmp 91) (.tmp 96) 26 rfl (w4).heap.size stdElem _ j _ rfl (own_block O5.out (show Below w5.heap.size w5 (w5.alloc (.cells (encT (x, s)).toArray 35)) from (Below.refl _ _).alloc (Nat.le_refl _) _)) encT encT_len encT_one [(x, s)] _ rfl (alloc_row w5 (x, s) 35) (by rw [List.length_singleton]; omega) (by rw [List.length_singleton]; omega) (Nat.le_trans BE5.out.size (show Below w5.heap.size w5 (w5.alloc (.cells (encT (x, s)).toArray 35)) from (Below.refl _ _).alloc (Nat.le_refl _) _).size) ?_; intro v6 w6 own6 gr6 bel6; rw [List.length_singleton] at own6; have O6 := Lib.hid own6; have BE6 := Lib.hid (BE5.out.trans (((show Below w5.heap.size w5 (w5.alloc (.cells (encT (x, s)).toArray 35)) from (Below.refl _ _).alloc (Nat.le_refl _) _).mono BE5.out.size).trans bel6)); clear own6 gr6 bel6)
                        | (at_builtin; refine wpList_append_rowK rfl (.tmp 98) (.tmp 101) 26 rfl (w4).heap.size stdElem _ (j + 1) _ rfl O6.out encT encT_len encT_one (ro.drop j) _ rfl (by have h := row_dropK (HK2.out.same ((BD4.out.trans (BE6.out.mono BD4.out.size)).block _ HK2.out.lt)) OO.out.len hcap2 j (by omega) (j * 8) (.inl rfl); (try rw [Nat.sub_self] at h); exact h) (by rw [HLD.out]; omega) (by rw [HLD.out]; omega) BE6.out.size ?_; intro v7 w7 own7 gr7 bel7; have O7 := Lib.hid own7; have BE7 := Lib.hid (BE6.out.trans bel7); clear own7 gr7 bel7))
                      go_round
                      case rel =>
                        refine ⟨k + 1, by omega, by go_num, B4.out.step BE7.out, ro.take j ++ [(x, s)] ++ ro.drop j, Ot.made O7.out (by rw [HLD.out] <;> omega) (by rw [List.flatMap_append, List.flatMap_append]) (by omega) (by rw [List.length_append, List.length_append, HLT.out, HLD.out, List.length_singleton] <;> omega) (fun y hy => ?_), ?_, ?_⟩
                        · rw [List.append_assoc, List.mem_append, List.mem_append, List.mem_singleton] at hy
                          rcases hy with hy | rfl | hy
                          · exact (O4.out.opp y (List.mem_of_mem_take hy)).below BE7.out
                          · exact (HOX.out.below BD4.out).below BE7.out
                          · exact (O4.out.opp y (List.mem_of_mem_drop hy)).below BE7.out
                        · rw [List.map_append, List.map_append, List.map_take, List.map_drop, List.range_succ, List.map_append]
                          refine (ins_perm (ro.map (·.1)) x j).trans ?_
                          rw [HXE.out]
                          exact PP.out.append_right _
                        · rw [List.map_append, List.map_append, List.map_take, List.map_drop]
                          exact srt_ins SS.out x j (by rw [List.length_map, OO.out.len]; omega) (fun j hj hjk => by rw [List.length_map] at hj; rw [List.getElem_map]; exact HJ.out _ hj hjk) (fun hk => by rw [List.getElem_map]; have := HBV.out; rwa [HYY.out] at this)
                      case measure => simp [intOf]; omega
                    · have HBV := Lib.hid hb
                      clear hb
                      go_wp2_with fail
                      refine wp_region_noPanic ?_
                      refine wp_region_held_drew (S := fun w' => Cells8 w' g2 (j * 8) yy ∧ Cells8 w' g (k * 8) (x, s)) (by kernel_rfl) (CS.out) (fun hHeld => ?_)
                      refine wpAnyH_take (i := 0) (oi := ?oiH0x) (v := ?vH0x) ?hiH0x (by kernel_rfl) (by kernel_rfl) (by kernel_rfl) ?hqH0x ?hyH0x (by assumption) ?restH0x
                      case hiH0x => (simp only [List.getElem?_toArray, List.getElem?_cons_zero] <;> rfl)
                      case hqH0x => exact fun _ _ _ h => h
                      case hyH0x => exact Or.inl ⟨by rfl, by (intro wS hSw; obtain ⟨⟨a0, a1, a2, a3, a4, a5, a6, a7⟩, ⟨e0, e1, e2, e3, e4, e5, e6, e7⟩⟩ := hSw; simp only at e0 e1 e2 e3 e4 e5 e6 e7; go_simp; try with_reducible rfl)⟩
                      try simp only [Act.put, List.setIfInBounds_toArray, List.set_cons_zero, List.set_cons_succ]
                      refine wpAnyH_take (i := 1) (oi := ?oiH1x) (v := ?vH1x) ?hiH1x (by kernel_rfl) (by kernel_rfl) (by kernel_rfl) ?hqH1x ?hyH1x (by assumption) ?restH1x
                      case hiH1x => (simp only [List.getElem?_toArray, List.getElem?_cons_succ, List.getElem?_cons_zero] <;> rfl)
                      case hqH1x => exact fun _ _ _ h => h
                      case hyH1x => exact Or.inl ⟨by rfl, by (intro wS hSw; obtain ⟨⟨a0, a1, a2, a3, a4, a5, a6, a7⟩, ⟨e0, e1, e2, e3, e4, e5, e6, e7⟩⟩ := hSw; simp only at e0 e1 e2 e3 e4 e5 e6 e7; go_simp; try with_reducible rfl)⟩
                      try simp only [Act.put, List.setIfInBounds_toArray, List.set_cons_zero, List.set_cons_succ]
                      refine wpAnyH_take (i := 2) (oi := ?oiH2x) (v := ?vH2x) ?hiH2x (by kernel_rfl) (by kernel_rfl) (by kernel_rfl) ?hqH2x ?hyH2x (by assumption) ?restH2x
                      case hiH2x => (simp only [List.getElem?_toArray, List.getElem?_cons_succ, List.getElem?_cons_zero] <;> rfl)
                      case hqH2x => exact fun _ _ _ h => h
                      case hyH2x => exact Or.inl ⟨by rfl, by (intro wS hSw; obtain ⟨⟨a0, a1, a2, a3, a4, a5, a6, a7⟩, ⟨e0, e1, e2, e3, e4, e5, e6, e7⟩⟩ := hSw; simp only at e0 e1 e2 e3 e4 e5 e6 e7; go_simp; try with_reducible rfl)⟩
                      try simp only [Act.put, List.setIfInBounds_toArray, List.set_cons_zero, List.set_cons_succ]
                      refine wpAnyH_take (i := 3) (oi := ?oiH3x) (v := ?vH3x) ?hiH3x (by kernel_rfl) (by kernel_rfl) (by kernel_rfl) ?hqH3x ?hyH3x (by assumption) ?restH3x
                      case hiH3x => (simp only [List.getElem?_toArray, List.getElem?_cons_succ, List.getElem?_cons_zero] <;> rfl)
                      case hqH3x => exact fun _ _ _ h => h
                      case hyH3x => exact Or.inl ⟨by rfl, by (intro wS hSw; obtain ⟨⟨a0, a1, a2, a3, a4, a5, a6, a7⟩, ⟨e0, e1, e2, e3, e4, e5, e6, e7⟩⟩ := hSw; simp only at e0 e1 e2 e3 e4 e5 e6 e7; go_simp; try with_reducible rfl)⟩
                      try simp only [Act.put, List.setIfInBounds_toArray, List.set_cons_zero, List.set_cons_succ]
                      refine wpAnyH_take (i := 4) (oi := ?oiH4x) (v := ?vH4x) ?hiH4x (by kernel_rfl) (by kernel_rfl) (by kernel_rfl) ?hqH4x ?hyH4x (by assumption) ?restH4x
                      case hiH4x => (simp only [List.getElem?_toArray, List.getElem?_cons_succ, List.getElem?_cons_zero] <;> rfl)
                      case hqH4x => exact fun _ _ _ h => h
                      case hyH4x => exact Or.inl ⟨by rfl, by (intro wS hSw; obtain ⟨⟨a0, a1, a2, a3, a4, a5, a6, a7⟩, ⟨e0, e1, e2, e3, e4, e5, e6, e7⟩⟩ := hSw; simp only at e0 e1 e2 e3 e4 e5 e6 e7; go_simp; try with_reducible rfl)⟩
                      try simp only [Act.put, List.setIfInBounds_toArray, List.set_cons_zero, List.set_cons_succ]
                      refine wpAnyH_take (i := 5) (oi := ?oiH5x) (v := ?vH5x) ?hiH5x (by kernel_rfl) (by kernel_rfl) (by kernel_rfl) ?hqH5x ?hyH5x (by assumption) ?restH5x
                      case hiH5x => (simp only [List.getElem?_toArray, List.getElem?_cons_succ, List.getElem?_cons_zero] <;> rfl)
                      case hqH5x => exact fun _ _ _ h => h
                      case hyH5x => exact Or.inl ⟨by rfl, by (intro wS hSw; obtain ⟨⟨a0, a1, a2, a3, a4, a5, a6, a7⟩, ⟨e0, e1, e2, e3, e4, e5, e6, e7⟩⟩ := hSw; simp only at e0 e1 e2 e3 e4 e5 e6 e7; go_simp; try with_reducible rfl)⟩
                      try simp only [Act.put, List.setIfInBounds_toArray, List.set_cons_zero, List.set_cons_succ]
                      refine wpAnyH_take (i := 6) (oi := ?oiH6x) (v := ?vH6x) ?hiH6x (by kernel_rfl) (by kernel_rfl) (by kernel_rfl) ?hqH6x ?hyH6x (by assumption) ?restH6x
                      case hiH6x => (simp only [List.getElem?_toArray, List.getElem?_cons_succ, List.getElem?_cons_zero] <;> rfl)
                      case hqH6x => exact fun _ _ _ h => h
                      case hyH6x => exact Or.inl ⟨by rfl, by (intro wS hSw; obtain ⟨⟨a0, a1, a2, a3, a4, a5, a6, a7⟩, ⟨e0, e1, e2, e3, e4, e5, e6, e7⟩⟩ := hSw; simp only at e0 e1 e2 e3 e4 e5 e6 e7; go_simp; try with_reducible rfl)⟩
                      try simp only [Act.put, List.setIfInBounds_toArray, List.set_cons_zero, List.set_cons_succ]
                      refine wpAnyH_take (i := 7) (oi := ?oiH7x) (v := ?vH7x) ?hiH7x (by kernel_rfl) (by kernel_rfl) (by kernel_rfl) ?hqH7x ?hyH7x (by assumption) ?restH7x
                      case hiH7x => (simp only [List.getElem?_toArray, List.getElem?_cons_succ, List.getElem?_cons_zero] <;> rfl)
                      case hqH7x => exact fun _ _ _ h => h
                      case hyH7x => exact Or.inl ⟨by rfl, by (intro wS hSw; obtain ⟨⟨a0, a1, a2, a3, a4, a5, a6, a7⟩, ⟨e0, e1, e2, e3, e4, e5, e6, e7⟩⟩ := hSw; simp only at e0 e1 e2 e3 e4 e5 e6 e7; go_simp; try with_reducible rfl)⟩
                      try simp only [Act.put, List.setIfInBounds_toArray, List.set_cons_zero, List.set_cons_succ]
                      refine wpAnyH_take (i := 8) (oi := ?oiH8x) (v := ?vH8x) ?hiH8x (by kernel_rfl) (by kernel_rfl) (by kernel_rfl) ?hqH8x ?hyH8x (by assumption) ?restH8x
                      case hiH8x => (simp only [List.getElem?_toArray, List.getElem?_cons_succ, List.getElem?_cons_zero] <;> rfl)
                      case hqH8x => exact fun _ _ _ h => h
                      case hyH8x => exact Or.inl ⟨by rfl, by (intro wS hSw; obtain ⟨⟨a0, a1, a2, a3, a4, a5, a6, a7⟩, ⟨e0, e1, e2, e3, e4, e5, e6, e7⟩⟩ := hSw; simp only at e0 e1 e2 e3 e4 e5 e6 e7; go_simp; try with_reducible rfl)⟩
                      try simp only [Act.put, List.setIfInBounds_toArray, List.set_cons_zero, List.set_cons_succ]
                      refine wpAnyH_take (i := 9) (oi := ?oiH9x) (v := ?vH9x) ?hiH9x (by kernel_rfl) (by kernel_rfl) (by kernel_rfl) ?hqH9x ?hyH9x (by assumption) ?restH9x
                      case hiH9x => (simp only [List.getElem?_toArray, List.getElem?_cons_succ, List.getElem?_cons_zero] <;> rfl)
                      case hqH9x => exact fun _ _ _ h => h
                      case hyH9x => exact Or.inl ⟨by rfl, by (intro wS hSw; obtain ⟨⟨a0, a1, a2, a3, a4, a5, a6, a7⟩, ⟨e0, e1, e2, e3, e4, e5, e6, e7⟩⟩ := hSw; simp only at e0 e1 e2 e3 e4 e5 e6 e7; go_simp; try with_reducible rfl)⟩
                      try simp only [Act.put, List.setIfInBounds_toArray, List.set_cons_zero, List.set_cons_succ]
                      refine wpAnyH_take (i := 10) (oi := ?oiH10x) (v := ?vH10x) ?hiH10x (by kernel_rfl) (by kernel_rfl) (by kernel_rfl) ?hqH10x ?hyH10x (by assumption) ?restH10x
                      case hiH10x => (simp only [List.getElem?_toArray, List.getElem?_cons_succ, List.getElem?_cons_zero] <;> rfl)
                      case hqH10x => exact fun _ _ _ h => h
                      case hyH10x => exact Or.inl ⟨by rfl, by (intro wS hSw; obtain ⟨⟨a0, a1, a2, a3, a4, a5, a6, a7⟩, ⟨e0, e1, e2, e3, e4, e5, e6, e7⟩⟩ := hSw; simp only at e0 e1 e2 e3 e4 e5 e6 e7; go_simp; try with_reducible rfl)⟩
                      try simp only [Act.put, List.setIfInBounds_toArray, List.set_cons_zero, List.set_cons_succ]
                      refine wpAnyH_take (i := 11) (oi := ?oiH11x) (v := ?vH11x) ?hiH11x (by kernel_rfl) (by kernel_rfl) (by kernel_rfl) ?hqH11x ?hyH11x (by assumption) ?restH11x
                      case hiH11x => (simp only [List.getElem?_toArray, List.getElem?_cons_succ, List.getElem?_cons_zero] <;> rfl)
                      case hqH11x => exact fun _ _ _ h => h
                      case hyH11x => exact Or.inl ⟨by rfl, by (intro wS hSw; obtain ⟨⟨a0, a1, a2, a3, a4, a5, a6, a7⟩, ⟨e0, e1, e2, e3, e4, e5, e6, e7⟩⟩ := hSw; simp only at e0 e1 e2 e3 e4 e5 e6 e7; go_simp; try with_reducible rfl)⟩
                      try simp only [Act.put, List.setIfInBounds_toArray, List.set_cons_zero, List.set_cons_succ]
                      refine wpAnyH_take (i := 12) (oi := ?oiH12x) (v := ?vH12x) ?hiH12x (by kernel_rfl) (by kernel_rfl) (by kernel_rfl) ?hqH12x ?hyH12x (by assumption) ?restH12x
                      case hiH12x => (simp only [List.getElem?_toArray, List.getElem?_cons_succ, List.getElem?_cons_zero] <;> rfl)
                      case hqH12x => exact fun _ _ _ h => h
                      case hyH12x => exact Or.inl ⟨by rfl, by (intro wS hSw; obtain ⟨⟨a0, a1, a2, a3, a4, a5, a6, a7⟩, ⟨e0, e1, e2, e3, e4, e5, e6, e7⟩⟩ := hSw; simp only at e0 e1 e2 e3 e4 e5 e6 e7; go_simp; try with_reducible rfl)⟩
                      try simp only [Act.put, List.setIfInBounds_toArray, List.set_cons_zero, List.set_cons_succ]
                      refine wpAnyH_ready (rs := [13]) (by kernel_rfl) (by simp) ?_
                      refine AllReadyH.cons (o := ?oiH13x) ?hiH13x (fun K hK => ?hsH13x) AllReadyH.nil
                      case hiH13x => (simp only [List.getElem?_toArray, List.getElem?_cons_succ, List.getElem?_cons_zero] <;> rfl)
                      go_simp
                      refine (before_ref yy.1 x (slv yy.2) (slv s) _).mono ?_
                      rintro e w4 ⟨rfl, b4⟩
                      rw [HBV.out]
                      have BD4 := Lib.hid (BD0.out.trans ((show Below wr.heap.size wr wr.drew from (Below.refl _ _).drew).trans b4 |>.mono BD0.out.size))
                      have CS4 := Lib.hid (show Cells8 w4 g2 (j * 8) yy ∧ Cells8 w4 g (k * 8) (x, s) from ⟨CS.out.1.keep (b4.block _ (Nat.lt_of_lt_of_le HK2.out.lt BD0.out.size)), CS.out.2.keep (b4.block _ (Nat.lt_of_lt_of_le HGL.out BD0.out.size))⟩)
                      clear b4
                      go_wp2_with fail
                      refine hK.out _ _ CS4.out (fun hHeld => ?_)
                      clear hHeld
                      clear hK K
                      try simp only [Act.put, List.setIfInBounds_toArray, List.set_cons_zero, List.set_cons_succ]
                      refine wpAnyH_take (i := 14) (oi := ?oiH14x) (v := ?vH14x) ?hiH14x (by kernel_rfl) (by kernel_rfl) (by kernel_rfl) ?hqH14x ?hyH14x (by assumption) ?restH14x
                      case hiH14x => (simp only [List.getElem?_toArray, List.getElem?_cons_succ, List.getElem?_cons_zero] <;> rfl)
                      case hqH14x => exact fun _ _ _ h => h
                      case hyH14x => exact Or.inl ⟨by rfl, by (intro wS hSw; obtain ⟨⟨a0, a1, a2, a3, a4, a5, a6, a7⟩, ⟨e0, e1, e2, e3, e4, e5, e6, e7⟩⟩ := hSw; simp only at e0 e1 e2 e3 e4 e5 e6 e7; go_simp; try with_reducible rfl)⟩
                      try simp only [Act.put, List.setIfInBounds_toArray, List.set_cons_zero, List.set_cons_succ]
                      refine wpAnyH_done (by kernel_rfl) ?_ _
                      refine NoPanic.normal ?_
                      go_wp2_with fail
                      go_round
                      case rel => exact ⟨j + 1, by omega, by go_num, Lib.hid (fun m hm hmj => by
                        by_cases e : m = j
                        · subst e
                          have := HBV.out
                          rwa [HYY.out] at this
                        · exact HJ.out m hm (by omega)), BD4.out⟩
                      case measure => simp [intOf]; omega
                  · obtain rfl : j = k := by omega
                    go_wp2_with fail
                    go_quiet (fail)
                    rename_i nq
                    have BDE := Lib.hid (BD0.out.trans ((drewN_grow wr nq).mono BD0.out.size))
                    by_cases hck : cap2 = j
                    · subst hck
                      have B4 := Lib.hid (BB.out.step BDE.out)
                      have O4 := Lib.hid (OO.out.step BDE.out)
                      have HLT := Lib.hid (show (ro.take cap2).length = cap2 by rw [List.length_take, OO.out.len]; omega)
                      have HLD := Lib.hid (show (ro.drop cap2).length = 0 by rw [List.length_drop, OO.out.len] <;> omega)
                      go_wp2_with (first
                        | (at_builtin; refine wpList_append_rowK rfl (.tmp 86) (.tmp 89) 26 rfl (wr.drewN nq).heap.size stdElem _ 0 [] rfl (World.ownsRow_nil _ _ _ _) encT encT_len encT_one (ro.take cap2) _ rfl (row_takeK (HK2.out.same (BDE.out.block _ HK2.out.lt)) OO.out.len hcap2 cap2 (by omega)) (by rw [HLT.out]; omega) (by rw [HLT.out]; omega) (Nat.le_refl _) ?_; intro v5 w5 own5 gr5 bel5; rw [HLT.out, Nat.zero_add, List.nil_append] at own5; have O5 := Lib.hid own5; have BE5 := Lib.hid bel5; have C5 := (HCX.out.keep (BDE.out.block _ HGL.out)).keep (bel5.block _ (Nat.lt_of_lt_of_le HGL.out BDE.out.size)); obtain ⟨x0, x1, x2, x3, x4, x5, x6, x7⟩ := C5; clear own5 gr5 bel5)
                        | (at_builtin; refine wpList_append_rowK rfl (.tmp 91) (.tmp 96) 26 rfl (wr.drewN nq).heap.size stdElem _ cap2 _ rfl (own_block O5.out (show Below w5.heap.size w5 (w5.alloc (.cells (encT (x, s)).toArray 35)) from (Below.refl _ _).alloc (Nat.le_refl _) _)) encT encT_len encT_one [(x, s)] _ rfl (alloc_row w5 (x, s) 35) (by rw [List.length_singleton]; omega) (by rw [List.length_singleton]; omega) (Nat.le_trans BE5.out.size (show Below w5.heap.size w5 (w5.alloc (.cells (encT (x, s)).toArray 35)) from (Below.refl _ _).alloc (Nat.le_refl _) _).size) ?_; intro v6 w6 own6 gr6 bel6; rw [List.length_singleton] at own6; have O6 := Lib.hid own6; have BE6 := Lib.hid (BE5.out.trans (((show Below w5.heap.size w5 (w5.alloc (.cells (encT (x, s)).toArray 35)) from (Below.refl _ _).alloc (Nat.le_refl _) _).mono BE5.out.size).trans bel6)); clear own6 gr6 bel6)
                        | (at_builtin; refine wpList_append_rowK rfl (.tmp 98) (.tmp 101) 26 rfl (wr.drewN nq).heap.size stdElem _ (cap2 + 1) _ rfl O6.out encT encT_len encT_one (ro.drop cap2) _ rfl (by have h := row_dropK (HK2.out.same ((BDE.out.trans (BE6.out.mono BDE.out.size)).block _ HK2.out.lt)) OO.out.len hcap2 cap2 (by omega) (0) (.inr rfl); (try rw [Nat.sub_self] at h); exact h) (by rw [HLD.out]; omega) (by rw [HLD.out]; omega) BE6.out.size ?_; intro v7 w7 own7 gr7 bel7; have O7 := Lib.hid own7; have BE7 := Lib.hid (BE6.out.trans bel7); clear own7 gr7 bel7))
                      go_round
                      case rel =>
                        refine ⟨cap2 + 1, by omega, by go_num, B4.out.step BE7.out, ro.take cap2 ++ [(x, s)] ++ ro.drop cap2, Ot.made O7.out (by rw [HLD.out] <;> omega) (by rw [List.flatMap_append, List.flatMap_append]) (by omega) (by rw [List.length_append, List.length_append, HLT.out, HLD.out, List.length_singleton] <;> omega) (fun y hy => ?_), ?_, ?_⟩
                        · rw [List.append_assoc, List.mem_append, List.mem_append, List.mem_singleton] at hy
                          rcases hy with hy | rfl | hy
                          · exact (O4.out.opp y (List.mem_of_mem_take hy)).below BE7.out
                          · exact (HOX.out.below BDE.out).below BE7.out
                          · exact (O4.out.opp y (List.mem_of_mem_drop hy)).below BE7.out
                        · rw [List.map_append, List.map_append, List.map_take, List.map_drop, List.range_succ, List.map_append]
                          refine (ins_perm (ro.map (·.1)) x cap2).trans ?_
                          rw [HXE.out]
                          exact PP.out.append_right _
                        · rw [List.map_append, List.map_append, List.map_take, List.map_drop]
                          exact srt_ins SS.out x cap2 (by rw [List.length_map, OO.out.len]; omega) (fun j hj hjk => by rw [List.length_map] at hj; rw [List.getElem_map]; exact HJ.out _ hj hjk) (fun hk => absurd hk (by rw [List.length_map, OO.out.len]; omega))
                      case measure => simp [intOf]; omega
                    · skip
                      have B4 := Lib.hid (BB.out.step BDE.out)
                      have O4 := Lib.hid (OO.out.step BDE.out)
                      have HLT := Lib.hid (show (ro.take j).length = j by rw [List.length_take, OO.out.len]; omega)
                      have HLD := Lib.hid (show (ro.drop j).length = 0 by rw [List.length_drop, OO.out.len] <;> omega)
                      go_wp2_with (first
                        | (at_builtin; refine wpList_append_rowK rfl (.tmp 86) (.tmp 89) 26 rfl (wr.drewN nq).heap.size stdElem _ 0 [] rfl (World.ownsRow_nil _ _ _ _) encT encT_len encT_one (ro.take j) _ rfl (row_takeK (HK2.out.same (BDE.out.block _ HK2.out.lt)) OO.out.len hcap2 j (by omega)) (by rw [HLT.out]; omega) (by rw [HLT.out]; omega) (Nat.le_refl _) ?_; intro v5 w5 own5 gr5 bel5; rw [HLT.out, Nat.zero_add, List.nil_append] at own5; have O5 := Lib.hid own5; have BE5 := Lib.hid bel5; have C5 := (HCX.out.keep (BDE.out.block _ HGL.out)).keep (bel5.block _ (Nat.lt_of_lt_of_le HGL.out BDE.out.size)); obtain ⟨x0, x1, x2, x3, x4, x5, x6, x7⟩ := C5; clear own5 gr5 bel5)
                        | (at_builtin; refine wpList_append_rowK rfl (.tmp 91) (.tmp 96) 26 rfl (wr.drewN nq).heap.size stdElem _ j _ rfl (own_block O5.out (show Below w5.heap.size w5 (w5.alloc (.cells (encT (x, s)).toArray 35)) from (Below.refl _ _).alloc (Nat.le_refl _) _)) encT encT_len encT_one [(x, s)] _ rfl (alloc_row w5 (x, s) 35) (by rw [List.length_singleton]; omega) (by rw [List.length_singleton]; omega) (Nat.le_trans BE5.out.size (show Below w5.heap.size w5 (w5.alloc (.cells (encT (x, s)).toArray 35)) from (Below.refl _ _).alloc (Nat.le_refl _) _).size) ?_; intro v6 w6 own6 gr6 bel6; rw [List.length_singleton] at own6; have O6 := Lib.hid own6; have BE6 := Lib.hid (BE5.out.trans (((show Below w5.heap.size w5 (w5.alloc (.cells (encT (x, s)).toArray 35)) from (Below.refl _ _).alloc (Nat.le_refl _) _).mono BE5.out.size).trans bel6)); clear own6 gr6 bel6)
                        | (at_builtin; refine wpList_append_rowK rfl (.tmp 98) (.tmp 101) 26 rfl (wr.drewN nq).heap.size stdElem _ (j + 1) _ rfl O6.out encT encT_len encT_one (ro.drop j) _ rfl (by have h := row_dropK (HK2.out.same ((BDE.out.trans (BE6.out.mono BDE.out.size)).block _ HK2.out.lt)) OO.out.len hcap2 j (by omega) (j * 8) (.inl rfl); (try rw [Nat.sub_self] at h); exact h) (by rw [HLD.out]; omega) (by rw [HLD.out]; omega) BE6.out.size ?_; intro v7 w7 own7 gr7 bel7; have O7 := Lib.hid own7; have BE7 := Lib.hid (BE6.out.trans bel7); clear own7 gr7 bel7))
                      go_round
                      case rel =>
                        refine ⟨j + 1, by omega, by go_num, B4.out.step BE7.out, ro.take j ++ [(x, s)] ++ ro.drop j, Ot.made O7.out (by rw [HLD.out] <;> omega) (by rw [List.flatMap_append, List.flatMap_append]) (by omega) (by rw [List.length_append, List.length_append, HLT.out, HLD.out, List.length_singleton] <;> omega) (fun y hy => ?_), ?_, ?_⟩
                        · rw [List.append_assoc, List.mem_append, List.mem_append, List.mem_singleton] at hy
                          rcases hy with hy | rfl | hy
                          · exact (O4.out.opp y (List.mem_of_mem_take hy)).below BE7.out
                          · exact (HOX.out.below BDE.out).below BE7.out
                          · exact (O4.out.opp y (List.mem_of_mem_drop hy)).below BE7.out
                        · rw [List.map_append, List.map_append, List.map_take, List.map_drop, List.range_succ, List.map_append]
                          refine (ins_perm (ro.map (·.1)) x j).trans ?_
                          rw [HXE.out]
                          exact PP.out.append_right _
                        · rw [List.map_append, List.map_append, List.map_take, List.map_drop]
                          exact srt_ins SS.out x j (by rw [List.length_map, OO.out.len]; omega) (fun j hj hjk => by rw [List.length_map] at hj; rw [List.getElem_map]; exact HJ.out _ hj hjk) (fun hk => absurd hk (by rw [List.length_map, OO.out.len]; omega))
                      case measure => simp [intOf]; omega
            · obtain rfl : k = q := by omega
              go_wp2_with fail
              go_ret
              exact ⟨_, ro, rfl, OO.out.row, OO.out.opp, BB.out.bel, PP.out, SS.out⟩
end Go.Proofs.Ytfjnnbhijajhoaa
