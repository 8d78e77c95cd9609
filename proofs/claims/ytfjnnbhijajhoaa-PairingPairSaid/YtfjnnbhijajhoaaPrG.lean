/- Chapter 56: Standings of the program. -/
import Derived.Test.YtfjnnbhijajhoaaPrF
namespace Go.Proofs.Ytfjnnbhijajhoaa
open Go Go.RowKit Go.Sort Go.Shelf Cg
theorem stdElem : ElemIs Try.prog 26 35 (stV (st0 0) (.slice none 0 0)) 8 80 := elemIs_mk Try.underlying26 (by kernel_rfl) rfl (by decide)
theorem own_blkK {α : Type} {k : Nat} {enc : α → List Value} (hk : ∀ x, (enc x).length = k) {w : World} {base e g n cap : Nat} {xs : List α} (h : w.ownsRow base e k (.slice (some ⟨g, 0, none⟩) n cap) n (xs.flatMap enc)) (hn : xs.length = n) : BlkK k enc e w g xs := by
  rcases h.2 with ⟨hv, _⟩ | ⟨g', cap', cur, hv, _, hg, hc, _, hs, ht⟩
  · cases hv
  · cases hv
    refine ⟨cur, hg, by rw [hs, hn]; exact Nat.mul_le_mul_right k hc, fun j x hj i u hu => ?_⟩
    have hi := (List.getElem?_eq_some_iff.1 hu).1
    rw [hk] at hi
    have hjl := (List.getElem?_eq_some_iff.1 hj).1
    have hjk : j * k + i < n * k := by
      have : (j + 1) * k ≤ n * k := Nat.mul_le_mul_right k (by omega)
      rw [Nat.add_mul] at this
      omega
    have := flat_get hk xs j x hj i hi
    rw [← ht, List.getElem?_take, if_pos hjk, hu] at this
    rw [← Array.getElem?_toList]
    exact this
theorem made_flat {α : Type} {enc : α → List Value} {k : Nat} (hk : ∀ x, (enc x).length = k) (hk0 : 0 < k) (a : α) (n : Nat) : (madeCells (enc a).toArray (n * k)).toList = (List.replicate n a).flatMap enc := by
  apply List.ext_getElem?
  intro t
  by_cases ht : t < n * k
  · have h1 : (madeCells (enc a).toArray (n * k)).toList[t]? = (enc a)[t % k]? := by
      have hm : t % k < (enc a).length := by rw [hk]; exact Nat.mod_lt _ hk0
      rw [Array.getElem?_toList, madeCells, Array.getElem?_map, Array.getElem?_eq_getElem (by simpa using ht), Array.getElem_range, Option.map_some, List.size_toArray, hk, getI _ _ hm, List.getElem?_eq_getElem hm]
    have hq : t / k < n := Nat.div_lt_of_lt_mul (by rw [Nat.mul_comm]; exact ht)
    have h2 := flat_get hk (List.replicate n a) (t / k) a (by rw [List.getElem?_replicate, if_pos hq]) (t % k) (Nat.mod_lt _ hk0)
    rw [h1, ← h2, Nat.div_add_mod']
  · rw [List.getElem?_eq_none (by rw [Array.length_toList, size_madeCells]; omega), List.getElem?_eq_none (by rw [flat_len hk, List.length_replicate]; omega)]
/-- The records of all players. -/
structure Rows (N : Nat) (rows : List (St × Sl)) (f : Nat → St) : Prop where
  len : rows.length = N
  at_ : ∀ p x, rows[p]? = some x → x.1 = f p
theorem Rows.get {N : Nat} {rows : List (St × Sl)} {f : Nat → St} (h : Rows N rows f) (p : Nat) (hp : p < N) : ∃ s, rows[p]? = some (f p, s) := by
  have hl : p < rows.length := by rw [h.len]; exact hp
  have e := List.getElem?_eq_getElem hl
  have := h.at_ p _ e
  exact ⟨rows[p].2, by rw [e, ← this]⟩
theorem Rows.set {N : Nat} {rows : List (St × Sl)} {f f' : Nat → St} (h : Rows N rows f) (j : Nat) (y : St × Sl) (hy : y.1 = f' j) (ho : ∀ p, p < N → p ≠ j → f' p = f p) : Rows N (rows.set j y) f' := by
  refine ⟨by rw [List.length_set]; exact h.len, fun p x hp => ?_⟩
  have hpl := (List.getElem?_eq_some_iff.1 hp).1
  rw [List.length_set, h.len] at hpl
  rcases set_get hp with ⟨rfl, rfl⟩ | ⟨hpj, hp⟩
  · exact hy
  · rw [ho p hpl hpj]
    exact h.at_ p x hp
theorem Rows.same {N : Nat} {rows : List (St × Sl)} {f f' : Nat → St} (h : Rows N rows f) (ho : ∀ p, p < N → f' p = f p) : Rows N rows f' := by
  refine ⟨h.len, fun p x hp => ?_⟩
  have hpl := (List.getElem?_eq_some_iff.1 hp).1
  rw [h.len] at hpl
  rw [ho p hpl]
  exact h.at_ p x hp
theorem tab_start (N : Nat) (w w1 : World) (h : w1.ownsRow w.heap.size 35 8 (.slice (some ⟨w.heap.size, 0, none⟩) N N) N (madeCells (stV (st0 0) (.slice none 0 0)).cells (N * 8)).toList) (hg : w.grownBy w1 none) : Tab w.heap.size w w1 (List.replicate N (st0 0, (none, 0, 0))) ∧ Rows N (List.replicate N (st0 0, (none, 0, 0))) (fun _ => st0 0) := by
  have e : (stV (st0 0) (.slice none 0 0)).cells = (encT (st0 0, (none, 0, 0))).toArray := rfl
  rw [e, made_flat encT_len (by decide)] at h
  have hb := own_blkK encT_len h (List.length_replicate ..)
  have hr : ∀ p x, (List.replicate N ((st0 0, (none, 0, 0)) : St × Sl))[p]? = some x → x = (st0 0, (none, 0, 0)) := fun p x hp => by
    rw [List.getElem?_replicate] at hp
    split at hp
    · exact (Option.some.inj hp).symm
    · cases hp
  refine ⟨⟨hb, fun p x hp => ?_, fun p q x y g hp _ _ hg => ?_, ⟨hg.os, hg.tape, hg.output, hg.size, fun k hk => hg.block k hk (fun e => by cases e)⟩⟩, ⟨List.length_replicate .., fun p x hp => by rw [hr p x hp]⟩⟩
  · rw [hr p x hp]
    exact World.ownsRow_nil _ _ _ _
  · rw [hr p x hp] at hg
    cases hg
/-- The four numbers of a result in a box. -/
def RegS (T : Nat) (ra rb wa wb : Int) (w' : World) : Prop := w'.cell? ⟨T, 0, none⟩ = some (.int .i64 ra) ∧ w'.cell? ⟨T, 1, none⟩ = some (.int .i64 rb) ∧ w'.cell? ⟨T, 2, none⟩ = some (.int .i64 wa) ∧ w'.cell? ⟨T, 3, none⟩ = some (.int .i64 wb)
theorem RegS.keep {T : Nat} {ra rb wa wb : Int} {w w' : World} (h : RegS T ra rb wa wb w) (hb : w'.heap[T]? = w.heap[T]?) : RegS T ra rb wa wb w' :=
  ⟨(World.cell?_of_block hb).trans h.1, (World.cell?_of_block hb).trans h.2.1, (World.cell?_of_block hb).trans h.2.2.1, (World.cell?_of_block hb).trans h.2.2.2⟩
theorem own_sl {w : World} {base e size n : Nat} {v : Value} {xs : List Value} (h : w.ownsRow base e size v n xs) : ∃ s : Sl, v = slv s := by
  rcases h.2 with ⟨rfl, _⟩ | ⟨g, cap, cur, rfl, _⟩
  · exact ⟨(none, 0, 0), rfl⟩
  · exact ⟨(some ⟨g, 0, none⟩, n, cap), rfl⟩
theorem setCells_block (w : World) (b : Nat) : ∀ (vs : List Value) (o : Nat) (k : Nat), k ≠ b → (w.setCells b o vs).heap[k]? = w.heap[k]? := by
  intro vs
  induction vs generalizing w with
  | nil => intro o k _; rfl
  | cons v r ih => intro o k hk; rw [World.setCells, ih _ (o + 1) k hk, Below.heap_setCell _ _ _ _ hk]
theorem own_form {w : World} {base e size n : Nat} {s : Sl} {xs : List Value} (h : w.ownsRow base e size (slv s) n xs) : s.2.1 = n := by
  rcases h.2 with ⟨hv, hn⟩ | ⟨g, cap, cur, hv, _⟩
  · unfold slv at hv
    cases hv' : s with | mk a b => cases b with | mk b c => rw [hv'] at hv; simp only [Value.slice.injEq] at hv; simp only; omega
  · unfold slv at hv
    cases hv' : s with | mk a b => cases b with | mk b c => rw [hv'] at hv; simp only [Value.slice.injEq] at hv; simp only; omega
theorem Rows.map {N : Nat} {rows : List (St × Sl)} {f : Nat → St} (h : Rows N rows f) : rows.map (·.1) = (List.range N).map f := by
  apply List.ext_getElem?
  intro p
  rw [List.getElem?_map, List.getElem?_map]
  by_cases hp : p < N
  · obtain ⟨s, hs⟩ := h.get p hp
    rw [hs, List.getElem?_range hp]
    rfl
  · rw [List.getElem?_eq_none (by rw [h.len]; omega), List.getElem?_eq_none (by rw [List.length_range]; omega)]
    rfl
/-- The standings, sorted, in a block of their own. -/
structure Stood (out : List St) (w w' : World) (g : Nat) (rows : List (St × Sl)) : Prop where
  blk : BlkK 8 encT 35 w' g rows
  opp : ∀ x ∈ rows, RowAt (Value.int .i64) w' (slv x.2) x.1.opp
  new : w.heap.size ≤ g
  bel : Below w.heap.size w w'
  perm : (rows.map (·.1)).Perm out
  srt : ∀ i j (hi : i < rows.length) (hj : j < rows.length), i < j → better rows[j].1 rows[i].1 = false
theorem stood_of {N : Nat} {f : Nat → St} {w wr w' : World} {rows rows' : List (St × Sl)} (h : Tab w.heap.size w wr rows) (hr : Rows N rows f) (hp : rows'.Perm rows) (hs : ∀ i j (hi : i < rows'.length) (hj : j < rows'.length), i < j → better rows'[j].1 rows'[i].1 = false) (hb : BlkK 8 encT 35 w' w.heap.size rows') (hg : wr.grownBy w' (some w.heap.size)) : Stood ((List.range N).map f) w w' w.heap.size rows' := by
  refine ⟨hb, fun x hx => ?_, Nat.le_refl _, ?_, ?_, hs⟩
  · obtain ⟨p, hp, hpx⟩ := List.getElem_of_mem (hp.mem_iff.1 hx)
    have ho := h.own p x (by rw [List.getElem?_eq_getElem hp, hpx])
    have ho2 : w'.ownsRow (w.heap.size + 1) 3 1 (slv x.2) x.1.opp.length (x.1.opp.map (Value.int .i64)) := by
      refine ⟨ho.1, ?_⟩
      rcases ho.2 with hn | ⟨g, cap, cur, hv, h1, h2, rest⟩
      · exact .inl hn
      · refine .inr ⟨g, cap, cur, hv, h1, ?_, rest⟩
        rw [hg.block g (Array.getElem?_eq_some_iff.1 h2).1 (fun e => by cases e; omega)]
        exact h2
    exact rowAt_own ho2
  · exact ⟨hg.os.trans h.bel.os, hg.tape.trans h.bel.tape, hg.output.trans h.bel.output, Nat.le_trans h.bel.size hg.size, fun k hk => (hg.block k (Nat.lt_of_lt_of_le hk h.bel.size) (fun e => by cases e; omega)).trans (h.bel.block k hk)⟩
  · rw [← hr.map]
    exact hp.map _
set_option maxRecDepth 100000 in
set_option maxHeartbeats 8000000 in
theorem standings_prog (n : Int) (N : Nat) (v : Value) (l : List Rs) (w : World) (h : Cg.RowK 5 encR w v l) (hl : l.length ≤ 1000) (hN : clampI n = N) (hn : n ≤ 256) :
    Calls Try.prog 12 #[.int .i64 n, v] w fun e w' => ∃ g rows, e = .returned (.slice (some ⟨g, 0, none⟩) N N) ∧ rows.length = N ∧ Stood ((List.range N).map fun (p : Nat) => recT N l p) w w' g rows := by
  have hm1 : max n 0 = (N : Int) := by
    rw [← hN]
    unfold clampI
    split
    · omega
    · split <;> omega
  have hN2 : N ≤ 256 := by omega
  have hm2 : min (N : Int) 256 = (N : Int) := by omega
  obtain ⟨ao, cap, rfl, ⟨hc1, hc2⟩, hx⟩ := h
  have HX := Lib.hid hx
  clear hx hN hn
  obtain ⟨_, _, _, ii, e1, e2, e3, e4⟩ := stdElem
  have EI := Lib.hid (show _ ∧ _ ∧ _ ∧ _ from ⟨e1, e2, e3, e4⟩)
  clear e1 e2 e3 e4
  go_enter Try.func12, Try.ntmps12
  go_wp2_with (at_make; refine wpList_make_full _ rfl _ _ 26 rfl w.heap.size 35 ii (stV (st0 0) (.slice none 0 0)) 8 Try.underlying26 EI.out.1 EI.out.2.1 EI.out.2.2.1 .i64 .i64 _ _ N rfl rfl rfl rfl (by rw [EI.out.2.2.2]; omega) (by simp only [maxLen]; omega) (Nat.le_refl _) ?_; intro w1 own1 grow1; have ts := tab_start N w w1 own1 grow1; have TS := Lib.hid ts; clear own1 grow1 ts hm1 hm2)
  go_loopw [20] (fun i wr => ∃ k : Nat, k ≤ N ∧ i = .int .i64 k ∧ ∃ rows, Tab w.heap.size w wr rows ∧ Rows N rows (fun p => if p < k then st0 p else st0 0)) (fun i _ => N - (intOf i).toNat)
  case atStart => exact ⟨0, by omega, rfl, _, TS.out.1, TS.out.2.same (fun p _ => by rw [if_neg (Nat.not_lt_zero p)])⟩
  case round =>
    obtain ⟨k, hk, rfl, rows, HT, HR⟩ := hrel
    have TT := Lib.hid HT
    have TR := Lib.hid HR
    clear HT HR
    by_cases hlt : k < N
    · obtain ⟨s, hs⟩ := TR.out.get k hlt
      rw [if_neg (Nat.lt_irrefl k)] at hs
      have c0 := TT.out.blk.cell k _ hs 0 _ rfl
      have f0 := TT.out.blk.frozen (k * 8)
      have HS := Lib.hid hs
      clear hs
      rw [Nat.add_zero] at c0
      go_wp2_with fail
      go_round
      case rel => exact ⟨k + 1, by omega, by go_num, _, TT.out.poke k _ HS.out 0 (by omega) (.int .i64 k) (st0 k) (fun i => by rcases i with _ | i <;> rfl) rfl, TR.out.set k _ (by rw [if_pos (Nat.lt_succ_self k)]) (fun p _ hp => by
        by_cases hpk : p < k
        · rw [if_pos hpk, if_pos (by omega)]
        · rw [if_neg hpk, if_neg (by omega)])⟩
      case measure => simp [intOf]; omega
    · obtain rfl : k = N := by omega
      have TR0 := Lib.hid (TR.out.same (f' := fun p => recs k (l.take 0) p) (fun p hp => by rw [if_pos hp]; rfl))
      clear TR
      go_wp2_with fail
      go_loopw [31] (fun i wr => ∃ j : Nat, j ≤ l.length ∧ i = .int .i64 j ∧ ∃ rows, Tab w.heap.size w wr rows ∧ Rows k rows (fun p => recs k (l.take j) p)) (fun i _ => l.length - (intOf i).toNat)
      case atStart => exact ⟨0, by omega, rfl, rows, TT.out, TR0.out⟩
      clear TT TR0
      case round =>
        obtain ⟨j, hj, rfl, rows2, HT, HR⟩ := hrel
        have TT := Lib.hid HT
        have TR := Lib.hid HR
        clear HT HR
        by_cases hlt : j < l.length
        · rcases HX.out with hh | ⟨g, o, rfl, hg, hcell⟩
          · rw [hh] at hlt; simp at hlt
          have hcell2 := (fun (m : Nat) x (hm : l[m]? = some x) (i : Nat) u (hu : (encR x)[i]? = some u) => (TT.out.bel.cell (p := ⟨g, o + m * 5 + i, none⟩) hg).trans (hcell m x hm i u hu))
          obtain ⟨q0, q1, q2, q3, q4⟩ := five_at hcell2 hlt
          obtain ⟨⟨ra, rb, wa, wb, dr⟩, hr⟩ : ∃ r, r = l[j] := ⟨_, rfl⟩
          rw [← hr] at q0 q1 q2 q3 q4
          have HRJ := Lib.hid hr
          clear hcell hcell2 hr
          simp only at q0 q1 q2 q3 q4
          obtain ⟨wx, hwx, bx, y0, y1, y2, y3, y4⟩ := five_new wr (.int .i64 ra) (.int .i64 rb) (.int .i64 wa) (.int .i64 wb) (.int .i64 dr) 31
          have HCT := Lib.hid (counts_prog k ra rb wa wb dr wx)
          have HWX := Lib.hid hwx
          have HSZ := Lib.hid (show wx.heap.size = wr.heap.size + 1 by rw [hwx]; show (wr.heap.push _).size = _; simp)
          have TX := Lib.hid (TT.out.step bx)
          have RX := Lib.hid (show RegS wr.heap.size ra rb wa wb wx from ⟨y0, y1, y2, y3⟩)
          have HRT := Lib.hid (recs_take k l j hlt)
          rw [← HRJ.out] at HRT
          clear hwx y0 y1 y2 y3 y4 bx
          cases hc : cnts k ⟨ra, rb, wa, wb, dr⟩
          · rw [hc] at HCT
            have HCN := Lib.hid hc
            clear hc
            go_wp2_with (go_at_call 20; rw [← HWX.out]; refine HCT.out.mono ?_; rintro e w2 ⟨rfl, b2⟩; have B2 := Lib.hid b2; clear b2)
            go_round
            case rel => exact ⟨j + 1, by omega, by go_num, rows2, TX.out.step B2.out, TR.out.same (fun p _ => by rw [HRT.out, upd, if_neg (fun h => by rw [HCN.out] at h; exact Bool.noConfusion h.1)])⟩
            case measure => simp [intOf]; omega
          · rw [hc] at HCT
            have hcn := (cnts_iff _ _).1 hc
            simp only at hcn
            obtain ⟨hc1', hc2', hc3', hc4', hc5'⟩ := hcn
            obtain ⟨a, rfl⟩ : ∃ a : Nat, ra = (a : Int) := ⟨ra.toNat, by omega⟩
            have hak : a < k := by omega
            have HCN := Lib.hid hc
            have HNE := Lib.hid hc5'
            have HB1 := Lib.hid hc3'
            have HB2 := Lib.hid hc4'
            clear hc hc1' hc2' hc5' hc3' hc4'
            obtain ⟨s, hs⟩ := TR.out.get a hak
            have hok := (recs_ok k a (l.take j)).up (show (l.take j).length ≤ 1000 by rw [List.length_take]; omega)
            by_cases hb : rb = -1
            · subst hb
              have HXA := Lib.hid (show recs k (l.take (j + 1)) a = { recs k (l.take j) a with by_ := (recs k (l.take j) a).by_ + 1, pt := (recs k (l.take j) a).pt + 3 } by rw [HRT.out, upd, if_pos ⟨HCN.out, .inl rfl⟩, if_pos rfl])
              have HXO := Lib.hid (fun (p : Nat) (hp : p ≠ a) => (show recs k (l.take (j + 1)) p = recs k (l.take j) p by
                rw [HRT.out, upd, if_neg]
                rintro ⟨_, h | h⟩
                · exact hp (by simp only at h; omega)
                · simp only at h; omega))
              obtain ⟨x, hx⟩ : ∃ x, x = recs k (l.take j) a := ⟨_, rfl⟩
              rw [← hx] at hs hok HXA
              clear hx
              obtain ⟨_, ⟨p1, p2⟩, _, _, _, ⟨p3, p4⟩, _, _, _⟩ := hok
              obtain ⟨pl, pt, wi, lo, dw, by_, opp, tie⟩ := x
              simp only at p1 p2 p3 p4 HXA
              have HS := Lib.hid hs
              clear hs
              go_wp2_with (go_at_call 20; rw [← HWX.out]; refine HCT.out.mono ?_; rintro e w2 ⟨rfl, b2⟩; have T2 := Lib.hid (TX.out.step b2); have R2 := RX.out.keep (b2.block _ (by rw [HSZ.out]; omega)); obtain ⟨r0, r1, r2, r3⟩ := R2; have c5 := T2.out.blk.cell a _ HS.out 5 _ rfl; have c1 := T2.out.blk.cell a _ HS.out 1 _ rfl; have f5 := T2.out.blk.frozen (a * 8 + 5); have f1 := T2.out.blk.frozen (a * 8 + 1); clear b2 r2 r3)
              go_round
              case rel =>
                refine ⟨j + 1, by omega, by go_num, rows2.set a (⟨pl, pt + 3, wi, lo, dw, by_ + 1, opp, tie⟩, s), ?_, TR.out.set a _ HXA.out.symm (fun p _ hp => HXO.out p hp)⟩
                have P1 := T2.out.poke a _ HS.out 5 (by omega) (.int .i64 (by_ + 1)) ⟨pl, pt, wi, lo, dw, by_ + 1, opp, tie⟩ (fun i => by rcases i with _ | _ | _ | _ | _ | _ | _ | _ | i <;> rfl) rfl
                have P2 := P1.poke a (⟨pl, pt, wi, lo, dw, by_ + 1, opp, tie⟩, s) (List.getElem?_set_self (List.getElem?_eq_some_iff.1 HS.out).1) 1 (by omega) (.int .i64 (pt + 3)) ⟨pl, pt + 3, wi, lo, dw, by_ + 1, opp, tie⟩ (fun i => by rcases i with _ | _ | _ | _ | _ | _ | _ | _ | i <;> rfl) rfl
                rwa [List.set_set] at P2
              case measure => simp [intOf]; omega
            · obtain ⟨b, rfl⟩ : ∃ b : Nat, rb = (b : Int) := ⟨rb.toNat, by have := HB1.out; omega⟩
              have hbk : b < k := by have := HB2.out; omega
              have hba : b ≠ a := by have := HNE.out; omega
              obtain ⟨sb, hsb⟩ := TR.out.get b hbk
              have hokb := (recs_ok k b (l.take j)).up (show (l.take j).length ≤ 1000 by rw [List.length_take]; omega)
              have HXA := Lib.hid (show recs k (l.take (j + 1)) a = recd (recs k (l.take j) a) b wa wb by rw [HRT.out, upd, if_pos ⟨HCN.out, .inl rfl⟩, if_neg (by simp only; omega), if_neg (by simp only; omega)])
              have HXB := Lib.hid (show recs k (l.take (j + 1)) b = recd (recs k (l.take j) b) a wb wa by rw [HRT.out, upd, if_pos ⟨HCN.out, .inr rfl⟩, if_neg (by simp only; omega), if_pos rfl])
              have HXO := Lib.hid (fun (p : Nat) (hp : p ≠ a) (hp2 : p ≠ b) => (show recs k (l.take (j + 1)) p = recs k (l.take j) p by
                rw [HRT.out, upd, if_neg]
                rintro ⟨_, h | h⟩
                · exact hp (by simp only at h; omega)
                · exact hp2 (by simp only at h; omega)))
              obtain ⟨x, hx⟩ : ∃ x, x = recs k (l.take j) a := ⟨_, rfl⟩
              obtain ⟨y, hy⟩ : ∃ y, y = recs k (l.take j) b := ⟨_, rfl⟩
              rw [← hx] at hs hok HXA
              rw [← hy] at hsb hokb HXB
              have HS := Lib.hid hs
              have HSB := Lib.hid hsb
              have OK := Lib.hid hok
              have OKB := Lib.hid hokb
              have HBA := Lib.hid hba
              have HBN := Lib.hid hb
              have hb2 : ((b : Int) == -1) = false := beq_eq_false_iff_ne.2 hb
              have HOA := Lib.hid (own_lt (TT.out.own a _ hs) wr.heap.size (Nat.le_refl _))
              have HOB := Lib.hid (own_lt (TT.out.own b _ hsb) wr.heap.size (Nat.le_refl _))
              clear hx hy hs hsb hok hokb hba hb
              go_wp2_with (go_at_call 20; rw [← HWX.out]; refine HCT.out.mono ?_; rintro e w2 ⟨rfl, b2⟩; have T2 := Lib.hid (TX.out.step b2); have R2 := Lib.hid (RX.out.keep (b2.block _ (by rw [HSZ.out]; omega))); have S2 := Lib.hid b2.size; have r1 := R2.out.2.1; clear b2)
              have kP0 := T2.out.blk.cell a _ HS.out 0 _ rfl
              have kP1 := T2.out.blk.cell a _ HS.out 1 _ rfl
              have kP2 := T2.out.blk.cell a _ HS.out 2 _ rfl
              have kP3 := T2.out.blk.cell a _ HS.out 3 _ rfl
              have kP4 := T2.out.blk.cell a _ HS.out 4 _ rfl
              have kP5 := T2.out.blk.cell a _ HS.out 5 _ rfl
              have kP6 := T2.out.blk.cell a _ HS.out 6 _ rfl
              have kP7 := T2.out.blk.cell a _ HS.out 7 _ rfl
              rw [Nat.add_zero] at kP0
              refine wp_region_noPanic ?_
              refine wp_region_held_drew (S := RegS wr.heap.size a b wa wb) (by kernel_rfl) (R2.out) (fun hHeld => ?_)
              refine wpAnyH_take (i := 0) (oi := ?oiP0x) (v := ?vP0x) ?hiP0x (by kernel_rfl) (by kernel_rfl) (by kernel_rfl) ?hqP0x ?hyP0x (by assumption) ?restP0x
              case hiP0x => (simp only [List.getElem?_toArray, List.getElem?_cons_zero] <;> rfl)
              case hqP0x => exact fun _ _ _ h => h
              case hyP0x => exact Or.inl ⟨by rfl, by (intro wS hSw; obtain ⟨s0, s1, s2, s3⟩ := hSw; go_simp; try with_reducible rfl)⟩
              try simp only [Act.put, List.setIfInBounds_toArray, List.set_cons_zero, List.set_cons_succ]
              refine wpAnyH_take (i := 1) (oi := ?oiP1x) (v := ?vP1x) ?hiP1x (by kernel_rfl) (by kernel_rfl) (by kernel_rfl) ?hqP1x ?hyP1x (by assumption) ?restP1x
              case hiP1x => (simp only [List.getElem?_toArray, List.getElem?_cons_succ, List.getElem?_cons_zero] <;> rfl)
              case hqP1x => exact fun _ _ _ h => h
              case hyP1x => exact Or.inl ⟨by rfl, by (intro wS hSw; obtain ⟨s0, s1, s2, s3⟩ := hSw; go_simp; try with_reducible rfl)⟩
              try simp only [Act.put, List.setIfInBounds_toArray, List.set_cons_zero, List.set_cons_succ]
              refine wpAnyH_take (i := 2) (oi := ?oiP2x) (v := ?vP2x) ?hiP2x (by kernel_rfl) (by kernel_rfl) (by kernel_rfl) ?hqP2x ?hyP2x (by assumption) ?restP2x
              case hiP2x => (simp only [List.getElem?_toArray, List.getElem?_cons_succ, List.getElem?_cons_zero] <;> rfl)
              case hqP2x => exact fun _ _ _ h => h
              case hyP2x => exact Or.inl ⟨by rfl, by (intro wS hSw; obtain ⟨s0, s1, s2, s3⟩ := hSw; go_simp; try with_reducible rfl)⟩
              try simp only [Act.put, List.setIfInBounds_toArray, List.set_cons_zero, List.set_cons_succ]
              refine wpAnyH_take (i := 3) (oi := ?oiP3x) (v := ?vP3x) ?hiP3x (by kernel_rfl) (by kernel_rfl) (by kernel_rfl) ?hqP3x ?hyP3x (by assumption) ?restP3x
              case hiP3x => (simp only [List.getElem?_toArray, List.getElem?_cons_succ, List.getElem?_cons_zero] <;> rfl)
              case hqP3x => exact fun _ _ _ h => h
              case hyP3x => exact Or.inl ⟨by rfl, by (intro wS hSw; obtain ⟨s0, s1, s2, s3⟩ := hSw; go_simp; try with_reducible rfl)⟩
              try simp only [Act.put, List.setIfInBounds_toArray, List.set_cons_zero, List.set_cons_succ]
              refine wpAnyH_take (i := 4) (oi := ?oiP4x) (v := ?vP4x) ?hiP4x (by kernel_rfl) (by kernel_rfl) (by kernel_rfl) ?hqP4x ?hyP4x (by assumption) ?restP4x
              case hiP4x => (simp only [List.getElem?_toArray, List.getElem?_cons_succ, List.getElem?_cons_zero] <;> rfl)
              case hqP4x => exact fun _ _ _ h => h
              case hyP4x => exact Or.inl ⟨by rfl, by (intro wS hSw; obtain ⟨s0, s1, s2, s3⟩ := hSw; go_simp; try with_reducible rfl)⟩
              try simp only [Act.put, List.setIfInBounds_toArray, List.set_cons_zero, List.set_cons_succ]
              refine wpAnyH_take (i := 5) (oi := ?oiP5x) (v := ?vP5x) ?hiP5x (by kernel_rfl) (by kernel_rfl) (by kernel_rfl) ?hqP5x ?hyP5x (by assumption) ?restP5x
              case hiP5x => (simp only [List.getElem?_toArray, List.getElem?_cons_succ, List.getElem?_cons_zero] <;> rfl)
              case hqP5x => exact fun _ _ _ h => h
              case hyP5x => exact Or.inl ⟨by rfl, by (intro wS hSw; obtain ⟨s0, s1, s2, s3⟩ := hSw; go_simp; try with_reducible rfl)⟩
              try simp only [Act.put, List.setIfInBounds_toArray, List.set_cons_zero, List.set_cons_succ]
              refine wpAnyH_take (i := 6) (oi := ?oiP6x) (v := ?vP6x) ?hiP6x (by kernel_rfl) (by kernel_rfl) (by kernel_rfl) ?hqP6x ?hyP6x (by assumption) ?restP6x
              case hiP6x => (simp only [List.getElem?_toArray, List.getElem?_cons_succ, List.getElem?_cons_zero] <;> rfl)
              case hqP6x => exact fun _ _ _ h => h
              case hyP6x => exact Or.inl ⟨by rfl, by (intro wS hSw; obtain ⟨s0, s1, s2, s3⟩ := hSw; go_simp; try with_reducible rfl)⟩
              try simp only [Act.put, List.setIfInBounds_toArray, List.set_cons_zero, List.set_cons_succ]
              refine wpAnyH_take (i := 8) (oi := ?oiP8x) (v := ?vP8x) ?hiP8x (by kernel_rfl) (by kernel_rfl) (by kernel_rfl) ?hqP8x ?hyP8x (by assumption) ?restP8x
              case hiP8x => (simp only [List.getElem?_toArray, List.getElem?_cons_succ, List.getElem?_cons_zero] <;> rfl)
              case hqP8x => exact fun _ _ _ h => h
              case hyP8x => exact Or.inl ⟨by rfl, by (intro wS hSw; obtain ⟨s0, s1, s2, s3⟩ := hSw; go_simp; try with_reducible rfl)⟩
              try simp only [Act.put, List.setIfInBounds_toArray, List.set_cons_zero, List.set_cons_succ]
              refine wpAnyH_take (i := 9) (oi := ?oiP9x) (v := ?vP9x) ?hiP9x (by kernel_rfl) (by kernel_rfl) (by kernel_rfl) ?hqP9x ?hyP9x (by assumption) ?restP9x
              case hiP9x => (simp only [List.getElem?_toArray, List.getElem?_cons_succ, List.getElem?_cons_zero] <;> rfl)
              case hqP9x => exact fun _ _ _ h => h
              case hyP9x => exact Or.inl ⟨by rfl, by (intro wS hSw; obtain ⟨s0, s1, s2, s3⟩ := hSw; go_simp; try with_reducible rfl)⟩
              try simp only [Act.put, List.setIfInBounds_toArray, List.set_cons_zero, List.set_cons_succ]
              refine wpAnyH_take (i := 10) (oi := ?oiP10x) (v := ?vP10x) ?hiP10x (by kernel_rfl) (by kernel_rfl) (by kernel_rfl) ?hqP10x ?hyP10x (by assumption) ?restP10x
              case hiP10x => (simp only [List.getElem?_toArray, List.getElem?_cons_succ, List.getElem?_cons_zero] <;> rfl)
              case hqP10x => exact fun _ _ _ h => h
              case hyP10x => exact Or.inl ⟨by rfl, by (intro wS hSw; obtain ⟨s0, s1, s2, s3⟩ := hSw; go_simp; try with_reducible rfl)⟩
              try simp only [Act.put, List.setIfInBounds_toArray, List.set_cons_zero, List.set_cons_succ]
              refine wpAnyH_take (i := 11) (oi := ?oiP11x) (v := ?vP11x) ?hiP11x (by kernel_rfl) (by kernel_rfl) (by kernel_rfl) ?hqP11x ?hyP11x (by assumption) ?restP11x
              case hiP11x => (simp only [List.getElem?_toArray, List.getElem?_cons_succ, List.getElem?_cons_zero] <;> rfl)
              case hqP11x => exact fun _ _ _ h => h
              case hyP11x => exact Or.inl ⟨by rfl, by (intro wS hSw; obtain ⟨s0, s1, s2, s3⟩ := hSw; go_simp; try with_reducible rfl)⟩
              try simp only [Act.put, List.setIfInBounds_toArray, List.set_cons_zero, List.set_cons_succ]
              refine wpAnyH_take (i := 12) (oi := ?oiP12x) (v := ?vP12x) ?hiP12x (by kernel_rfl) (by kernel_rfl) (by kernel_rfl) ?hqP12x ?hyP12x (by assumption) ?restP12x
              case hiP12x => (simp only [List.getElem?_toArray, List.getElem?_cons_succ, List.getElem?_cons_zero] <;> rfl)
              case hqP12x => exact fun _ _ _ h => h
              case hyP12x => exact Or.inl ⟨by rfl, by (intro wS hSw; obtain ⟨s0, s1, s2, s3⟩ := hSw; go_simp; try with_reducible rfl)⟩
              try simp only [Act.put, List.setIfInBounds_toArray, List.set_cons_zero, List.set_cons_succ]
              refine wpAnyH_take (i := 13) (oi := ?oiP13x) (v := ?vP13x) ?hiP13x (by kernel_rfl) (by kernel_rfl) (by kernel_rfl) ?hqP13x ?hyP13x (by assumption) ?restP13x
              case hiP13x => (simp only [List.getElem?_toArray, List.getElem?_cons_succ, List.getElem?_cons_zero] <;> rfl)
              case hqP13x => exact fun _ _ _ h => h
              case hyP13x => exact Or.inl ⟨by rfl, by (intro wS hSw; obtain ⟨s0, s1, s2, s3⟩ := hSw; go_simp; try with_reducible rfl)⟩
              try simp only [Act.put, List.setIfInBounds_toArray, List.set_cons_zero, List.set_cons_succ]
              refine wpAnyH_ready (rs := [7]) (by kernel_rfl) (by simp) ?_
              refine AllReadyH.cons (o := ?oiP7x) ?hiP7x (fun K hK => ?hsP7x) AllReadyH.nil
              case hiP7x => (simp only [List.getElem?_toArray, List.getElem?_cons_succ, List.getElem?_cons_zero] <;> rfl)
              go_simp
              refine hK.out _ _ R2.out (fun hHeld => ?_)
              clear hHeld kP0 kP1 kP2 kP3 kP4 kP5 kP6 kP7
              clear hK K
              try simp only [Act.put, List.setIfInBounds_toArray, List.set_cons_zero, List.set_cons_succ]
              refine wpAnyH_ready (rs := [14]) (by kernel_rfl) (by simp) ?_
              refine AllReadyH.cons (o := ?oiP14x) ?hiP14x (fun K hK => ?hsP14x) AllReadyH.nil
              case hiP14x => (simp only [List.getElem?_toArray, List.getElem?_cons_succ, List.getElem?_cons_zero] <;> rfl)
              go_simp
              refine (record_prog (w.heap.size + 1) k 1000 a x (slv s) b wa wb w2.drew OK.out (by omega) (T2.out.own a _ HS.out) T2.out.blk.lt).mono ?_
              rintro e w3 ⟨v3, rfl, own3, hat3, grow3⟩
              obtain ⟨s3, rfl⟩ := own_sl own3
              obtain ⟨y3, hy3⟩ : ∃ zz, zz = recd x b wa wb := ⟨_, rfl⟩
              rw [← hy3] at own3
              rw [← hy3]
              have hb3 : w3.heap[w.heap.size]? = w2.heap[w.heap.size]? := grow3.block _ T2.out.blk.lt (fun e => own_ne (T2.out.own a _ HS.out) (Nat.lt_succ_self _) e.symm)
              have R3 := Lib.hid (R2.out.keep (grow3.block _ (by have := S2.out; have := HSZ.out; show wr.heap.size < w2.heap.size; omega) (fun e => HOA.out e.symm)))
              have KB3 := Lib.hid (T2.out.blk.same hb3)
              have TP3 := Lib.hid (T2.out.put a _ HS.out (y3, s3) own3 hat3 (grownBy_pre (show Below w2.heap.size w2 w2.drew from (Below.refl _ _).drew) grow3))
              have SZ3 := Lib.hid grow3.size
              have HY3 := Lib.hid hy3
              clear own3 hat3 grow3 hb3 hy3
              go_wp2_with fail
              refine hK.out _ _ R3.out (fun hHeld => ?_)
              clear hHeld
              have zP0 := KB3.out.cell a _ HS.out 0 _ rfl
              have zP1 := KB3.out.cell a _ HS.out 1 _ rfl
              have zP2 := KB3.out.cell a _ HS.out 2 _ rfl
              have zP3 := KB3.out.cell a _ HS.out 3 _ rfl
              have zP4 := KB3.out.cell a _ HS.out 4 _ rfl
              have zP5 := KB3.out.cell a _ HS.out 5 _ rfl
              have zP6 := KB3.out.cell a _ HS.out 6 _ rfl
              have zP7 := KB3.out.cell a _ HS.out 7 _ rfl
              have gP0 := KB3.out.frozen (a * 8 + 0)
              have gP1 := KB3.out.frozen (a * 8 + 1)
              have gP2 := KB3.out.frozen (a * 8 + 2)
              have gP3 := KB3.out.frozen (a * 8 + 3)
              have gP4 := KB3.out.frozen (a * 8 + 4)
              have gP5 := KB3.out.frozen (a * 8 + 5)
              have gP6 := KB3.out.frozen (a * 8 + 6)
              have gP7 := KB3.out.frozen (a * 8 + 7)
              rw [Nat.add_zero] at zP0 gP0
              clear hK K
              try simp only [Act.put, List.setIfInBounds_toArray, List.set_cons_zero, List.set_cons_succ]
              refine wpAnyH_take (i := 15) (oi := ?oiP15x) (v := ?vP15x) ?hiP15x (by kernel_rfl) (by kernel_rfl) (by kernel_rfl) ?hqP15x ?hyP15x (by assumption) ?restP15x
              case hiP15x => (simp only [List.getElem?_toArray, List.getElem?_cons_succ, List.getElem?_cons_zero] <;> rfl)
              case hqP15x => exact fun _ _ _ h => h
              case hyP15x => exact Or.inl ⟨by rfl, by (intro wS hSw; obtain ⟨s0, s1, s2, s3⟩ := hSw; go_simp; try with_reducible rfl)⟩
              try simp only [Act.put, List.setIfInBounds_toArray, List.set_cons_zero, List.set_cons_succ]
              refine wpAnyH_ready (rs := [16]) (by kernel_rfl) (by simp) ?_
              refine AllReadyH.cons (o := ?oiP16x) ?hiP16x (fun K hK => ?hsP16x) AllReadyH.nil
              case hiP16x => (simp only [List.getElem?_toArray, List.getElem?_cons_succ, List.getElem?_cons_zero] <;> rfl)
              go_simp
              obtain ⟨W3, hW3⟩ : ∃ W, W = w3.setCells w.heap.size (a * 8) (encT (y3, s3)) := ⟨_, rfl⟩
              have TW3 := Lib.hid (show Tab w.heap.size w W3 _ from by rw [hW3]; exact TP3.out)
              have RW3 := Lib.hid (show RegS wr.heap.size a b wa wb W3 from by rw [hW3]; exact R3.out.keep (setCells_block _ _ _ _ _ (Nat.ne_of_gt TT.out.blk.lt)))
              have SW3 := Lib.hid (show w3.heap.size ≤ W3.heap.size from by rw [hW3]; exact (below_setCells (B := 0) w.heap.size (Nat.zero_le _) _ _ (Below.refl 0 w3)).size)
              change K _ (w3.setCells w.heap.size (a * 8) (encT (y3, s3)))
              rw [← hW3]
              refine hK.out _ _ RW3.out (fun hHeld => ?_)
              clear hHeld hW3 TP3 KB3 R3 zP0 gP0 zP1 gP1 zP2 gP2 zP3 gP3 zP4 gP4 zP5 gP5 zP6 gP6 zP7 gP7
              clear hK K
              try simp only [Act.put, List.setIfInBounds_toArray, List.set_cons_zero, List.set_cons_succ]
              refine wpAnyH_done (by kernel_rfl) ?_ _
              refine NoPanic.normal ?_
              go_wp2_with fail
              have HS3 := Lib.hid (show (rows2.set a (y3, s3))[b]? = some (y, sb) by rw [List.getElem?_set_ne (fun e => HBA.out e.symm)]; exact HSB.out)
              have S3 := Lib.hid (show w2.heap.size ≤ W3.heap.size from Nat.le_trans SZ3.out SW3.out)
              have kQ0 := TW3.out.blk.cell b _ HS3.out 0 _ rfl
              have kQ1 := TW3.out.blk.cell b _ HS3.out 1 _ rfl
              have kQ2 := TW3.out.blk.cell b _ HS3.out 2 _ rfl
              have kQ3 := TW3.out.blk.cell b _ HS3.out 3 _ rfl
              have kQ4 := TW3.out.blk.cell b _ HS3.out 4 _ rfl
              have kQ5 := TW3.out.blk.cell b _ HS3.out 5 _ rfl
              have kQ6 := TW3.out.blk.cell b _ HS3.out 6 _ rfl
              have kQ7 := TW3.out.blk.cell b _ HS3.out 7 _ rfl
              rw [Nat.add_zero] at kQ0
              refine wp_region_noPanic ?_
              refine wp_region_held_drew (S := RegS wr.heap.size a b wa wb) (by kernel_rfl) (RW3.out) (fun hHeld => ?_)
              refine wpAnyH_take (i := 0) (oi := ?oiQ0x) (v := ?vQ0x) ?hiQ0x (by kernel_rfl) (by kernel_rfl) (by kernel_rfl) ?hqQ0x ?hyQ0x (by assumption) ?restQ0x
              case hiQ0x => (simp only [List.getElem?_toArray, List.getElem?_cons_zero] <;> rfl)
              case hqQ0x => exact fun _ _ _ h => h
              case hyQ0x => exact Or.inl ⟨by rfl, by (intro wS hSw; obtain ⟨s0, s1, s2, s3⟩ := hSw; go_simp; try with_reducible rfl)⟩
              try simp only [Act.put, List.setIfInBounds_toArray, List.set_cons_zero, List.set_cons_succ]
              refine wpAnyH_take (i := 1) (oi := ?oiQ1x) (v := ?vQ1x) ?hiQ1x (by kernel_rfl) (by kernel_rfl) (by kernel_rfl) ?hqQ1x ?hyQ1x (by assumption) ?restQ1x
              case hiQ1x => (simp only [List.getElem?_toArray, List.getElem?_cons_succ, List.getElem?_cons_zero] <;> rfl)
              case hqQ1x => exact fun _ _ _ h => h
              case hyQ1x => exact Or.inl ⟨by rfl, by (intro wS hSw; obtain ⟨s0, s1, s2, s3⟩ := hSw; go_simp; try with_reducible rfl)⟩
              try simp only [Act.put, List.setIfInBounds_toArray, List.set_cons_zero, List.set_cons_succ]
              refine wpAnyH_take (i := 2) (oi := ?oiQ2x) (v := ?vQ2x) ?hiQ2x (by kernel_rfl) (by kernel_rfl) (by kernel_rfl) ?hqQ2x ?hyQ2x (by assumption) ?restQ2x
              case hiQ2x => (simp only [List.getElem?_toArray, List.getElem?_cons_succ, List.getElem?_cons_zero] <;> rfl)
              case hqQ2x => exact fun _ _ _ h => h
              case hyQ2x => exact Or.inl ⟨by rfl, by (intro wS hSw; obtain ⟨s0, s1, s2, s3⟩ := hSw; go_simp; try with_reducible rfl)⟩
              try simp only [Act.put, List.setIfInBounds_toArray, List.set_cons_zero, List.set_cons_succ]
              refine wpAnyH_take (i := 3) (oi := ?oiQ3x) (v := ?vQ3x) ?hiQ3x (by kernel_rfl) (by kernel_rfl) (by kernel_rfl) ?hqQ3x ?hyQ3x (by assumption) ?restQ3x
              case hiQ3x => (simp only [List.getElem?_toArray, List.getElem?_cons_succ, List.getElem?_cons_zero] <;> rfl)
              case hqQ3x => exact fun _ _ _ h => h
              case hyQ3x => exact Or.inl ⟨by rfl, by (intro wS hSw; obtain ⟨s0, s1, s2, s3⟩ := hSw; go_simp; try with_reducible rfl)⟩
              try simp only [Act.put, List.setIfInBounds_toArray, List.set_cons_zero, List.set_cons_succ]
              refine wpAnyH_take (i := 4) (oi := ?oiQ4x) (v := ?vQ4x) ?hiQ4x (by kernel_rfl) (by kernel_rfl) (by kernel_rfl) ?hqQ4x ?hyQ4x (by assumption) ?restQ4x
              case hiQ4x => (simp only [List.getElem?_toArray, List.getElem?_cons_succ, List.getElem?_cons_zero] <;> rfl)
              case hqQ4x => exact fun _ _ _ h => h
              case hyQ4x => exact Or.inl ⟨by rfl, by (intro wS hSw; obtain ⟨s0, s1, s2, s3⟩ := hSw; go_simp; try with_reducible rfl)⟩
              try simp only [Act.put, List.setIfInBounds_toArray, List.set_cons_zero, List.set_cons_succ]
              refine wpAnyH_take (i := 5) (oi := ?oiQ5x) (v := ?vQ5x) ?hiQ5x (by kernel_rfl) (by kernel_rfl) (by kernel_rfl) ?hqQ5x ?hyQ5x (by assumption) ?restQ5x
              case hiQ5x => (simp only [List.getElem?_toArray, List.getElem?_cons_succ, List.getElem?_cons_zero] <;> rfl)
              case hqQ5x => exact fun _ _ _ h => h
              case hyQ5x => exact Or.inl ⟨by rfl, by (intro wS hSw; obtain ⟨s0, s1, s2, s3⟩ := hSw; go_simp; try with_reducible rfl)⟩
              try simp only [Act.put, List.setIfInBounds_toArray, List.set_cons_zero, List.set_cons_succ]
              refine wpAnyH_take (i := 6) (oi := ?oiQ6x) (v := ?vQ6x) ?hiQ6x (by kernel_rfl) (by kernel_rfl) (by kernel_rfl) ?hqQ6x ?hyQ6x (by assumption) ?restQ6x
              case hiQ6x => (simp only [List.getElem?_toArray, List.getElem?_cons_succ, List.getElem?_cons_zero] <;> rfl)
              case hqQ6x => exact fun _ _ _ h => h
              case hyQ6x => exact Or.inl ⟨by rfl, by (intro wS hSw; obtain ⟨s0, s1, s2, s3⟩ := hSw; go_simp; try with_reducible rfl)⟩
              try simp only [Act.put, List.setIfInBounds_toArray, List.set_cons_zero, List.set_cons_succ]
              refine wpAnyH_take (i := 8) (oi := ?oiQ8x) (v := ?vQ8x) ?hiQ8x (by kernel_rfl) (by kernel_rfl) (by kernel_rfl) ?hqQ8x ?hyQ8x (by assumption) ?restQ8x
              case hiQ8x => (simp only [List.getElem?_toArray, List.getElem?_cons_succ, List.getElem?_cons_zero] <;> rfl)
              case hqQ8x => exact fun _ _ _ h => h
              case hyQ8x => exact Or.inl ⟨by rfl, by (intro wS hSw; obtain ⟨s0, s1, s2, s3⟩ := hSw; go_simp; try with_reducible rfl)⟩
              try simp only [Act.put, List.setIfInBounds_toArray, List.set_cons_zero, List.set_cons_succ]
              refine wpAnyH_take (i := 9) (oi := ?oiQ9x) (v := ?vQ9x) ?hiQ9x (by kernel_rfl) (by kernel_rfl) (by kernel_rfl) ?hqQ9x ?hyQ9x (by assumption) ?restQ9x
              case hiQ9x => (simp only [List.getElem?_toArray, List.getElem?_cons_succ, List.getElem?_cons_zero] <;> rfl)
              case hqQ9x => exact fun _ _ _ h => h
              case hyQ9x => exact Or.inl ⟨by rfl, by (intro wS hSw; obtain ⟨s0, s1, s2, s3⟩ := hSw; go_simp; try with_reducible rfl)⟩
              try simp only [Act.put, List.setIfInBounds_toArray, List.set_cons_zero, List.set_cons_succ]
              refine wpAnyH_take (i := 10) (oi := ?oiQ10x) (v := ?vQ10x) ?hiQ10x (by kernel_rfl) (by kernel_rfl) (by kernel_rfl) ?hqQ10x ?hyQ10x (by assumption) ?restQ10x
              case hiQ10x => (simp only [List.getElem?_toArray, List.getElem?_cons_succ, List.getElem?_cons_zero] <;> rfl)
              case hqQ10x => exact fun _ _ _ h => h
              case hyQ10x => exact Or.inl ⟨by rfl, by (intro wS hSw; obtain ⟨s0, s1, s2, s3⟩ := hSw; go_simp; try with_reducible rfl)⟩
              try simp only [Act.put, List.setIfInBounds_toArray, List.set_cons_zero, List.set_cons_succ]
              refine wpAnyH_take (i := 11) (oi := ?oiQ11x) (v := ?vQ11x) ?hiQ11x (by kernel_rfl) (by kernel_rfl) (by kernel_rfl) ?hqQ11x ?hyQ11x (by assumption) ?restQ11x
              case hiQ11x => (simp only [List.getElem?_toArray, List.getElem?_cons_succ, List.getElem?_cons_zero] <;> rfl)
              case hqQ11x => exact fun _ _ _ h => h
              case hyQ11x => exact Or.inl ⟨by rfl, by (intro wS hSw; obtain ⟨s0, s1, s2, s3⟩ := hSw; go_simp; try with_reducible rfl)⟩
              try simp only [Act.put, List.setIfInBounds_toArray, List.set_cons_zero, List.set_cons_succ]
              refine wpAnyH_take (i := 12) (oi := ?oiQ12x) (v := ?vQ12x) ?hiQ12x (by kernel_rfl) (by kernel_rfl) (by kernel_rfl) ?hqQ12x ?hyQ12x (by assumption) ?restQ12x
              case hiQ12x => (simp only [List.getElem?_toArray, List.getElem?_cons_succ, List.getElem?_cons_zero] <;> rfl)
              case hqQ12x => exact fun _ _ _ h => h
              case hyQ12x => exact Or.inl ⟨by rfl, by (intro wS hSw; obtain ⟨s0, s1, s2, s3⟩ := hSw; go_simp; try with_reducible rfl)⟩
              try simp only [Act.put, List.setIfInBounds_toArray, List.set_cons_zero, List.set_cons_succ]
              refine wpAnyH_take (i := 13) (oi := ?oiQ13x) (v := ?vQ13x) ?hiQ13x (by kernel_rfl) (by kernel_rfl) (by kernel_rfl) ?hqQ13x ?hyQ13x (by assumption) ?restQ13x
              case hiQ13x => (simp only [List.getElem?_toArray, List.getElem?_cons_succ, List.getElem?_cons_zero] <;> rfl)
              case hqQ13x => exact fun _ _ _ h => h
              case hyQ13x => exact Or.inl ⟨by rfl, by (intro wS hSw; obtain ⟨s0, s1, s2, s3⟩ := hSw; go_simp; try with_reducible rfl)⟩
              try simp only [Act.put, List.setIfInBounds_toArray, List.set_cons_zero, List.set_cons_succ]
              refine wpAnyH_ready (rs := [7]) (by kernel_rfl) (by simp) ?_
              refine AllReadyH.cons (o := ?oiQ7x) ?hiQ7x (fun K hK => ?hsQ7x) AllReadyH.nil
              case hiQ7x => (simp only [List.getElem?_toArray, List.getElem?_cons_succ, List.getElem?_cons_zero] <;> rfl)
              go_simp
              refine hK.out _ _ RW3.out (fun hHeld => ?_)
              clear hHeld kQ0 kQ1 kQ2 kQ3 kQ4 kQ5 kQ6 kQ7
              clear hK K
              try simp only [Act.put, List.setIfInBounds_toArray, List.set_cons_zero, List.set_cons_succ]
              refine wpAnyH_ready (rs := [14]) (by kernel_rfl) (by simp) ?_
              refine AllReadyH.cons (o := ?oiQ14x) ?hiQ14x (fun K hK => ?hsQ14x) AllReadyH.nil
              case hiQ14x => (simp only [List.getElem?_toArray, List.getElem?_cons_succ, List.getElem?_cons_zero] <;> rfl)
              go_simp
              refine (record_prog (w.heap.size + 1) k 1000 b y (slv sb) a wb wa W3.drew OKB.out (by omega) (TW3.out.own b _ HS3.out) TW3.out.blk.lt).mono ?_
              rintro e w5 ⟨v5, rfl, own5, hat5, grow5⟩
              obtain ⟨s5, rfl⟩ := own_sl own5
              obtain ⟨y5, hy5⟩ : ∃ zz, zz = recd y a wb wa := ⟨_, rfl⟩
              rw [← hy5] at own5
              rw [← hy5]
              have hb5 : w5.heap[w.heap.size]? = W3.heap[w.heap.size]? := grow5.block _ TW3.out.blk.lt (fun e => own_ne (TW3.out.own b _ HS3.out) (Nat.lt_succ_self _) e.symm)
              have R5 := Lib.hid (RW3.out.keep (grow5.block _ (by have := S2.out; have := HSZ.out; show wr.heap.size < W3.heap.size; have := S3.out; omega) (fun e => HOB.out e.symm)))
              have KB5 := Lib.hid (TW3.out.blk.same hb5)
              have TP5 := Lib.hid (TW3.out.put b _ HS3.out (y5, s5) own5 hat5 (grownBy_pre (show Below W3.heap.size W3 W3.drew from (Below.refl _ _).drew) grow5))
              have SZ5 := Lib.hid grow5.size
              have HY5 := Lib.hid hy5
              clear own5 hat5 grow5 hb5 hy5
              go_wp2_with fail
              refine hK.out _ _ R5.out (fun hHeld => ?_)
              clear hHeld
              have zQ0 := KB5.out.cell b _ HS3.out 0 _ rfl
              have zQ1 := KB5.out.cell b _ HS3.out 1 _ rfl
              have zQ2 := KB5.out.cell b _ HS3.out 2 _ rfl
              have zQ3 := KB5.out.cell b _ HS3.out 3 _ rfl
              have zQ4 := KB5.out.cell b _ HS3.out 4 _ rfl
              have zQ5 := KB5.out.cell b _ HS3.out 5 _ rfl
              have zQ6 := KB5.out.cell b _ HS3.out 6 _ rfl
              have zQ7 := KB5.out.cell b _ HS3.out 7 _ rfl
              have gQ0 := KB5.out.frozen (b * 8 + 0)
              have gQ1 := KB5.out.frozen (b * 8 + 1)
              have gQ2 := KB5.out.frozen (b * 8 + 2)
              have gQ3 := KB5.out.frozen (b * 8 + 3)
              have gQ4 := KB5.out.frozen (b * 8 + 4)
              have gQ5 := KB5.out.frozen (b * 8 + 5)
              have gQ6 := KB5.out.frozen (b * 8 + 6)
              have gQ7 := KB5.out.frozen (b * 8 + 7)
              rw [Nat.add_zero] at zQ0 gQ0
              clear hK K
              try simp only [Act.put, List.setIfInBounds_toArray, List.set_cons_zero, List.set_cons_succ]
              refine wpAnyH_take (i := 15) (oi := ?oiQ15x) (v := ?vQ15x) ?hiQ15x (by kernel_rfl) (by kernel_rfl) (by kernel_rfl) ?hqQ15x ?hyQ15x (by assumption) ?restQ15x
              case hiQ15x => (simp only [List.getElem?_toArray, List.getElem?_cons_succ, List.getElem?_cons_zero] <;> rfl)
              case hqQ15x => exact fun _ _ _ h => h
              case hyQ15x => exact Or.inl ⟨by rfl, by (intro wS hSw; obtain ⟨s0, s1, s2, s3⟩ := hSw; go_simp; try with_reducible rfl)⟩
              try simp only [Act.put, List.setIfInBounds_toArray, List.set_cons_zero, List.set_cons_succ]
              refine wpAnyH_ready (rs := [16]) (by kernel_rfl) (by simp) ?_
              refine AllReadyH.cons (o := ?oiQ16x) ?hiQ16x (fun K hK => ?hsQ16x) AllReadyH.nil
              case hiQ16x => (simp only [List.getElem?_toArray, List.getElem?_cons_succ, List.getElem?_cons_zero] <;> rfl)
              go_simp
              obtain ⟨W5, hW5⟩ : ∃ W, W = w5.setCells w.heap.size (b * 8) (encT (y5, s5)) := ⟨_, rfl⟩
              have TW5 := Lib.hid (show Tab w.heap.size w W5 _ from by rw [hW5]; exact TP5.out)
              have RW5 := Lib.hid (show RegS wr.heap.size a b wa wb W5 from by rw [hW5]; exact R5.out.keep (setCells_block _ _ _ _ _ (Nat.ne_of_gt TT.out.blk.lt)))
              have SW5 := Lib.hid (show w5.heap.size ≤ W5.heap.size from by rw [hW5]; exact (below_setCells (B := 0) w.heap.size (Nat.zero_le _) _ _ (Below.refl 0 w5)).size)
              change K _ (w5.setCells w.heap.size (b * 8) (encT (y5, s5)))
              rw [← hW5]
              refine hK.out _ _ RW5.out (fun hHeld => ?_)
              clear hHeld hW5 TP5 KB5 R5 zQ0 gQ0 zQ1 gQ1 zQ2 gQ2 zQ3 gQ3 zQ4 gQ4 zQ5 gQ5 zQ6 gQ6 zQ7 gQ7
              clear hK K
              try simp only [Act.put, List.setIfInBounds_toArray, List.set_cons_zero, List.set_cons_succ]
              refine wpAnyH_done (by kernel_rfl) ?_ _
              refine NoPanic.normal ?_
              go_wp2_with fail
              go_round
              case rel =>
                refine ⟨j + 1, by omega, by go_num, _, TW5.out, ?_⟩
                have q1 := TR.out.set (f' := fun (p : Nat) => if p = a then recs k (l.take (j + 1)) a else recs k (l.take j) p) a (y3, s3) (by rw [if_pos rfl, HXA.out]; exact HY3.out) (fun p _ hp => if_neg hp)
                refine q1.set b (y5, s5) (by rw [HXB.out]; exact HY5.out) (fun p _ hp => ?_)
                by_cases hpa : p = a
                · rw [if_pos hpa, hpa]
                · rw [if_neg hpa]
                  exact HXO.out p hpa hp
              case measure => simp [intOf]; omega
        · obtain rfl : j = l.length := by omega
          have TR1 := Lib.hid (TR.out.same (f' := fun p => if p < 0 then recT k l p else recs k l p) (fun p _ => by rw [if_neg (Nat.not_lt_zero p), List.take_length]))
          clear TR HX
          go_wp2_with fail
          go_loopw [97] (fun i wr => ∃ p : Nat, p ≤ k ∧ i = .int .i64 p ∧ ∃ rows, Tab w.heap.size w wr rows ∧ Rows k rows (fun q => if q < p then recT k l q else recs k l q)) (fun i _ => k - (intOf i).toNat)
          case atStart => exact ⟨0, by omega, rfl, rows2, TT.out, TR1.out⟩
          clear TT TR1
          case round =>
            obtain ⟨p, hp, rfl, rows3, HT, HR⟩ := hrel
            have TT := Lib.hid HT
            have TR := Lib.hid HR
            clear HT HR
            by_cases hlt : p < k
            · obtain ⟨s, hs⟩ := TR.out.get p hlt
              rw [if_neg (Nat.lt_irrefl p)] at hs
              have hok := recs_ok k p l
              have HPT := Lib.hid (fun (q : Nat) (hq : q < k) => (show ∃ y : St × Sl, rows3[q]? = some y ∧ y.1.pt = (recs k l q).pt by
                obtain ⟨s, hs⟩ := TR.out.get q hq
                refine ⟨_, hs, ?_⟩
                show (if q < p then recT k l q else recs k l q).pt = _
                split <;> rfl))
              have HRT := Lib.hid (show recT k l p = { recs k l p with tie := tieUp (fun q => (recs k l q).pt) (recs k l p).opp } from rfl)
              obtain ⟨x, hx⟩ : ∃ x, x = recs k l p := ⟨_, rfl⟩
              rw [← hx] at hs hok HRT
              have hfs := own_form (TT.out.own p _ hs)
              obtain ⟨ao, len, cp⟩ := s
              simp only at hfs
              obtain ⟨_, _, _, _, _, _, ho1, ho2, _⟩ := hok
              obtain ⟨pl, pt, wi, lo, dw, by_, opp, tie⟩ := x
              simp only at hfs ho1 ho2 HRT
              subst hfs
              have HTIE := Lib.hid (show tie = 0 by have := (recs_ok k p l).tie; rw [← hx] at this; exact this)
              have HPP := Lib.hid (show (recs k l p).pt = pt by rw [← hx])
              clear hx
              have HS := Lib.hid hs
              have HO2 := Lib.hid ho2
              have c6 := TT.out.blk.cell p _ hs 6 _ rfl
              clear hs ho2
              simp only [slv] at c6
              go_wp2_with fail
              go_loopw [106] (fun i w3 => ∃ j : Nat, j ≤ opp.length ∧ i = .int .i64 j ∧ Tab w.heap.size w w3 (rows3.set p (⟨pl, pt, wi, lo, dw, by_, opp, tieUp (fun q => (recs k l q).pt) (opp.take j)⟩, (ao, opp.length, cp)))) (fun i _ => opp.length - (intOf i).toNat)
              case atStart => exact ⟨0, by omega, rfl, by
                have e : rows3.set p (⟨pl, pt, wi, lo, dw, by_, opp, tieUp (fun q => (recs k l q).pt) (opp.take 0)⟩, (ao, opp.length, cp)) = rows3 := by
                  have := HS.out
                  rw [HTIE.out] at this
                  exact List.ext_getElem? fun i => by
                    by_cases e : i = p
                    · subst e
                      rw [List.getElem?_set_self (List.getElem?_eq_some_iff.1 this).1, this]
                      rfl
                    · rw [List.getElem?_set_ne (fun h => e h.symm)]
                rw [e]
                exact TT.out⟩
              case round =>
                obtain ⟨j, hj, rfl, HT⟩ := hrel
                have T3 := Lib.hid HT
                clear HT
                by_cases hjl : j < opp.length
                · have hpl := (List.getElem?_eq_some_iff.1 HS.out).1
                  have ra := rowAt_own (T3.out.own p _ (List.getElem?_set_self hpl))
                  obtain ⟨ao2, cp2, hv, _, hx2⟩ := ra
                  cases hv
                  rcases hx2 with hh | ⟨g2, o2, rfl, hg2, hcell2⟩
                  · have hh2 : opp = [] := hh
                    rw [hh2] at hjl; simp at hjl
                  have qc := cells_getD 0 hcell2 j hjl
                  have hq := HO2.out (opp.getD j 0) (by rw [List.getD_eq_getElem?_getD, List.getElem?_eq_getElem hjl]; exact List.getElem_mem hjl)
                  obtain ⟨m, hm⟩ : ∃ m : Nat, opp.getD j 0 = (m : Int) := ⟨(opp.getD j 0).toNat, by omega⟩
                  rw [hm] at qc hq
                  have hmk : m < k := by omega
                  have hy : ∃ y : St × Sl, (rows3.set p (⟨pl, pt, wi, lo, dw, by_, opp, tieUp (fun q => (recs k l q).pt) (opp.take j)⟩, (some ⟨g2, o2, none⟩, opp.length, cp)))[m]? = some y ∧ y.1.pt = (recs k l m).pt := by
                    by_cases e : m = p
                    · subst e
                      exact ⟨_, List.getElem?_set_self hpl, HPP.out.symm⟩
                    · rw [List.getElem?_set_ne (fun h => e h.symm)]
                      exact HPT.out m hmk
                  obtain ⟨y, hy, hyp⟩ := hy
                  have c1 := T3.out.blk.cell m _ hy 1 _ rfl
                  rw [hyp] at c1
                  have c7 := T3.out.blk.cell p _ (List.getElem?_set_self hpl) 7 _ rfl
                  have f7 := T3.out.blk.frozen (p * 8 + 7)
                  have hb1 := (recs_ok k m l).pt
                  have hb2 := tieUp_bound (fun q => (recs k l q).pt) 3000 (by omega) (opp.take j) (fun q _ => by
                    have := (recs_ok k q l).pt
                    exact ⟨this.1, by show (recs k l q).pt ≤ 3000; omega⟩)
                  have hb3 : (opp.take j).length ≤ 1000 := by rw [List.length_take]; omega
                  have HTN := Lib.hid (show tieUp (fun q => (recs k l q).pt) (opp.take (j + 1)) = tieUp (fun q => (recs k l q).pt) (opp.take j) + (recs k l m).pt by
                    rw [List.take_succ_eq_append_getElem hjl, tieUp_snoc]
                    have : opp[j] = (m : Int) := by rw [← hm, List.getD_eq_getElem?_getD, List.getElem?_eq_getElem hjl]; rfl
                    rw [this])
                  obtain ⟨pm, hpm⟩ : ∃ pm, pm = (recs k l m).pt := ⟨_, rfl⟩
                  obtain ⟨tj, htj⟩ : ∃ tj, tj = tieUp (fun q => (recs k l q).pt) (opp.take j) := ⟨_, rfl⟩
                  rw [← hpm] at c1 hb1 HTN
                  simp only at c7
                  rw [← htj] at c7 hb2 HTN
                  have hb4 : 0 ≤ tj ∧ tj ≤ 3000000 := by omega
                  have hb5 : 0 ≤ pm ∧ pm ≤ 3000 := by omega
                  have HTJ := Lib.hid htj
                  clear hcell2 hg2 hm hy hyp hb1 hb2 hb3 hpm htj hq
                  have C7 := Lib.hid c7
                  have C1 := Lib.hid c1
                  go_wp2_with fail
                  refine wp_region_noPanic ?_
                  refine wp_region_held_drew (S := fun w' => w'.cell? ⟨w.heap.size, m * 8 + 1, none⟩ = some (.int .i64 pm)) (by kernel_rfl) (C1.out) (fun hHeld => ?_)
                  refine wpAnyH_take (i := 0) (oi := ?oiZ0x) (v := ?vZ0x) ?hiZ0x (by kernel_rfl) (by kernel_rfl) (by kernel_rfl) ?hqZ0x ?hyZ0x (by assumption) ?restZ0x
                  case hiZ0x => (simp only [List.getElem?_toArray, List.getElem?_cons_zero] <;> rfl)
                  case hqZ0x => exact fun _ _ _ h => h
                  case hyZ0x => exact Or.inl ⟨by rfl, by (intro wS hSw; have s0 : wS.cell? ⟨w.heap.size, m * 8 + 1, none⟩ = some (.int .i64 pm) := hSw; go_simp; try with_reducible rfl)⟩
                  try simp only [Act.put, List.setIfInBounds_toArray, List.set_cons_zero, List.set_cons_succ]
                  refine wpAnyH_take (i := 1) (oi := ?oiZ1x) (v := ?vZ1x) ?hiZ1x (by kernel_rfl) (by kernel_rfl) (by kernel_rfl) ?hqZ1x ?hyZ1x (by assumption) ?restZ1x
                  case hiZ1x => (simp only [List.getElem?_toArray, List.getElem?_cons_succ, List.getElem?_cons_zero] <;> rfl)
                  case hqZ1x => exact fun _ _ _ h => h
                  case hyZ1x => exact Or.inl ⟨by rfl, by (intro wS hSw; have s0 : wS.cell? ⟨w.heap.size, m * 8 + 1, none⟩ = some (.int .i64 pm) := hSw; go_simp; try with_reducible rfl)⟩
                  try simp only [Act.put, List.setIfInBounds_toArray, List.set_cons_zero, List.set_cons_succ]
                  refine wpAnyH_take (i := 2) (oi := ?oiZ2x) (v := ?vZ2x) ?hiZ2x (by kernel_rfl) (by kernel_rfl) (by kernel_rfl) ?hqZ2x ?hyZ2x (by assumption) ?restZ2x
                  case hiZ2x => (simp only [List.getElem?_toArray, List.getElem?_cons_succ, List.getElem?_cons_zero] <;> rfl)
                  case hqZ2x => exact fun _ _ _ h => h
                  case hyZ2x => exact Or.inl ⟨by rfl, by (intro wS hSw; have s0 : wS.cell? ⟨w.heap.size, m * 8 + 1, none⟩ = some (.int .i64 pm) := hSw; go_simp; try with_reducible rfl)⟩
                  try simp only [Act.put, List.setIfInBounds_toArray, List.set_cons_zero, List.set_cons_succ]
                  refine wpAnyH_take (i := 3) (oi := ?oiZ3x) (v := ?vZ3x) ?hiZ3x (by kernel_rfl) (by kernel_rfl) (by kernel_rfl) ?hqZ3x ?hyZ3x (by assumption) ?restZ3x
                  case hiZ3x => (simp only [List.getElem?_toArray, List.getElem?_cons_succ, List.getElem?_cons_zero] <;> rfl)
                  case hqZ3x => exact fun _ _ _ h => h
                  case hyZ3x => exact Or.inl ⟨by rfl, by (intro wS hSw; have s0 : wS.cell? ⟨w.heap.size, m * 8 + 1, none⟩ = some (.int .i64 pm) := hSw; go_simp; try with_reducible rfl)⟩
                  try simp only [Act.put, List.setIfInBounds_toArray, List.set_cons_zero, List.set_cons_succ]
                  refine wpAnyH_take (i := 5) (oi := ?oiZ5x) (v := ?vZ5x) ?hiZ5x (by kernel_rfl) (by kernel_rfl) (by kernel_rfl) ?hqZ5x ?hyZ5x (by assumption) ?restZ5x
                  case hiZ5x => (simp only [List.getElem?_toArray, List.getElem?_cons_succ, List.getElem?_cons_zero] <;> rfl)
                  case hqZ5x => exact fun _ _ _ h => h
                  case hyZ5x => exact Or.inl ⟨by rfl, by (intro wS hSw; have s0 : wS.cell? ⟨w.heap.size, m * 8 + 1, none⟩ = some (.int .i64 pm) := hSw; go_simp; try with_reducible rfl)⟩
                  try simp only [Act.put, List.setIfInBounds_toArray, List.set_cons_zero, List.set_cons_succ]
                  refine wpAnyH_take (i := 6) (oi := ?oiZ6x) (v := ?vZ6x) ?hiZ6x (by kernel_rfl) (by kernel_rfl) (by kernel_rfl) ?hqZ6x ?hyZ6x (by assumption) ?restZ6x
                  case hiZ6x => (simp only [List.getElem?_toArray, List.getElem?_cons_succ, List.getElem?_cons_zero] <;> rfl)
                  case hqZ6x => exact fun _ _ _ h => h
                  case hyZ6x => exact Or.inl ⟨by rfl, by (intro wS hSw; have s0 : wS.cell? ⟨w.heap.size, m * 8 + 1, none⟩ = some (.int .i64 pm) := hSw; go_simp; try with_reducible rfl)⟩
                  try simp only [Act.put, List.setIfInBounds_toArray, List.set_cons_zero, List.set_cons_succ]
                  refine wpAnyH_take (i := 7) (oi := ?oiZ7x) (v := ?vZ7x) ?hiZ7x (by kernel_rfl) (by kernel_rfl) (by kernel_rfl) ?hqZ7x ?hyZ7x (by assumption) ?restZ7x
                  case hiZ7x => (simp only [List.getElem?_toArray, List.getElem?_cons_succ, List.getElem?_cons_zero] <;> rfl)
                  case hqZ7x => exact fun _ _ _ h => h
                  case hyZ7x => exact Or.inl ⟨by rfl, by (intro wS hSw; have s0 : wS.cell? ⟨w.heap.size, m * 8 + 1, none⟩ = some (.int .i64 pm) := hSw; go_simp; try with_reducible rfl)⟩
                  try simp only [Act.put, List.setIfInBounds_toArray, List.set_cons_zero, List.set_cons_succ]
                  refine wpAnyH_take (i := 8) (oi := ?oiZ8x) (v := ?vZ8x) ?hiZ8x (by kernel_rfl) (by kernel_rfl) (by kernel_rfl) ?hqZ8x ?hyZ8x (by assumption) ?restZ8x
                  case hiZ8x => (simp only [List.getElem?_toArray, List.getElem?_cons_succ, List.getElem?_cons_zero] <;> rfl)
                  case hqZ8x => exact fun _ _ _ h => h
                  case hyZ8x => exact Or.inl ⟨by rfl, by (intro wS hSw; have s0 : wS.cell? ⟨w.heap.size, m * 8 + 1, none⟩ = some (.int .i64 pm) := hSw; go_simp; try with_reducible rfl)⟩
                  try simp only [Act.put, List.setIfInBounds_toArray, List.set_cons_zero, List.set_cons_succ]
                  refine wpAnyH_take (i := 9) (oi := ?oiZ9x) (v := ?vZ9x) ?hiZ9x (by kernel_rfl) (by kernel_rfl) (by kernel_rfl) ?hqZ9x ?hyZ9x (by assumption) ?restZ9x
                  case hiZ9x => (simp only [List.getElem?_toArray, List.getElem?_cons_succ, List.getElem?_cons_zero] <;> rfl)
                  case hqZ9x => exact fun _ _ _ h => h
                  case hyZ9x => exact Or.inl ⟨by rfl, by (intro wS hSw; have s0 : wS.cell? ⟨w.heap.size, m * 8 + 1, none⟩ = some (.int .i64 pm) := hSw; go_simp; try with_reducible rfl)⟩
                  try simp only [Act.put, List.setIfInBounds_toArray, List.set_cons_zero, List.set_cons_succ]
                  refine wpAnyH_ready (rs := [4]) (by kernel_rfl) (by simp) ?_
                  refine AllReadyH.cons (o := ?oiZ4x) ?hiZ4x (fun K hK => ?hsZ4x) AllReadyH.nil
                  case hiZ4x => (simp only [List.getElem?_toArray, List.getElem?_cons_succ, List.getElem?_cons_zero] <;> rfl)
                  go_simp
                  refine hK.out _ _ C1.out (fun hHeld => ?_)
                  clear hHeld
                  clear hK K
                  try simp only [Act.put, List.setIfInBounds_toArray, List.set_cons_zero, List.set_cons_succ]
                  refine wpAnyH_take (i := 10) (oi := ?oiZ10x) (v := ?vZ10x) ?hiZ10x (by kernel_rfl) (by kernel_rfl) (by kernel_rfl) ?hqZ10x ?hyZ10x (by assumption) ?restZ10x
                  case hiZ10x => (simp only [List.getElem?_toArray, List.getElem?_cons_succ, List.getElem?_cons_zero] <;> rfl)
                  case hqZ10x => exact fun _ _ _ h => h
                  case hyZ10x => exact Or.inl ⟨by rfl, by (intro wS hSw; have s0 : wS.cell? ⟨w.heap.size, m * 8 + 1, none⟩ = some (.int .i64 pm) := hSw; go_simp; try with_reducible rfl)⟩
                  try simp only [Act.put, List.setIfInBounds_toArray, List.set_cons_zero, List.set_cons_succ]
                  refine wpAnyH_take (i := 11) (oi := ?oiZ11x) (v := ?vZ11x) ?hiZ11x (by kernel_rfl) (by kernel_rfl) (by kernel_rfl) ?hqZ11x ?hyZ11x (by assumption) ?restZ11x
                  case hiZ11x => (simp only [List.getElem?_toArray, List.getElem?_cons_succ, List.getElem?_cons_zero] <;> rfl)
                  case hqZ11x => exact fun _ _ _ h => h
                  case hyZ11x => exact Or.inl ⟨by rfl, by (intro wS hSw; have s0 : wS.cell? ⟨w.heap.size, m * 8 + 1, none⟩ = some (.int .i64 pm) := hSw; go_simp; try with_reducible rfl)⟩
                  try simp only [Act.put, List.setIfInBounds_toArray, List.set_cons_zero, List.set_cons_succ]
                  refine wpAnyH_take (i := 12) (oi := ?oiZ12x) (v := ?vZ12x) ?hiZ12x (by kernel_rfl) (by kernel_rfl) (by kernel_rfl) ?hqZ12x ?hyZ12x (by assumption) ?restZ12x
                  case hiZ12x => (simp only [List.getElem?_toArray, List.getElem?_cons_succ, List.getElem?_cons_zero] <;> rfl)
                  case hqZ12x => exact fun _ _ _ h => h
                  case hyZ12x => exact Or.inl ⟨by rfl, by (intro wS hSw; have s0 : wS.cell? ⟨w.heap.size, m * 8 + 1, none⟩ = some (.int .i64 pm) := hSw; go_simp; try with_reducible rfl)⟩
                  try simp only [Act.put, List.setIfInBounds_toArray, List.set_cons_zero, List.set_cons_succ]
                  refine wpAnyH_ready (rs := [13]) (by kernel_rfl) (by simp) ?_
                  refine AllReadyH.cons (o := ?oiZ13x) ?hiZ13x (fun K hK => ?hsZ13x) AllReadyH.nil
                  case hiZ13x => (simp only [List.getElem?_toArray, List.getElem?_cons_succ, List.getElem?_cons_zero] <;> rfl)
                  go_simp
                  have hne : ¬ (m * 8 + 1 = p * 8 + 7) := by omega
                  refine hK.out _ _ ((World.cell?_setCell_other _ _ _ _ (by intro e; have := congrArg Addr.off e; simp only at this; omega)).trans C1.out) (fun hHeld => ?_)
                  clear hHeld
                  clear hK K
                  try simp only [Act.put, List.setIfInBounds_toArray, List.set_cons_zero, List.set_cons_succ]
                  refine wpAnyH_done (by kernel_rfl) ?_ _
                  refine NoPanic.normal ?_
                  go_wp2_with fail
                  go_round
                  case rel =>
                    refine ⟨j + 1, by omega, by go_num, ?_⟩
                    have P := T3.out.poke p _ (List.getElem?_set_self hpl) 7 (by omega) (.int .i64 (tj + pm)) ⟨pl, pt, wi, lo, dw, by_, opp, tieUp (fun q => (recs k l q).pt) (opp.take (j + 1))⟩ (fun i => by rw [HTN.out]; rcases i with _ | _ | _ | _ | _ | _ | _ | _ | i <;> rfl) rfl
                    rw [List.set_set] at P
                    exact P.step (Below.refl _ _).drew
                  case measure => simp [intOf]; omega
                · obtain rfl : j = opp.length := by omega
                  go_wp2_with fail
                  go_round
                  case rel =>
                    refine ⟨p + 1, by omega, by go_num, _, T3.out, ?_⟩
                    refine TR.out.set p _ ?_ (fun q _ hq => ?_)
                    · rw [if_pos (Nat.lt_succ_self p), HRT.out, List.take_length]
                    · by_cases hqp : q < p
                      · rw [if_pos hqp, if_pos (by omega)]
                      · rw [if_neg hqp, if_neg (by omega)]
                  case measure => simp [intOf]; omega
            · obtain rfl : p = k := by omega
              have TR2 := Lib.hid (TR.out.same (f' := fun q => recT p l q) (fun q hq => by rw [if_pos hq]))
              have SP := sort_prog w.heap.size p rows3 wr TT.out.blk (by rw [TR.out.len]; omega)
              rw [TR.out.len] at SP
              have SPH := Lib.hid SP
              clear SP TR
              go_wp2_with (go_at_call 23; refine SPH.out.mono ?_; rintro e w' ⟨rfl, rows', hp, hs, hb, hg⟩; have ST := Lib.hid (stood_of TT.out TR2.out hp hs hb hg); have HLN := Lib.hid (show rows'.length = p by rw [hp.length_eq]; exact TR2.out.len); clear hp hs hb hg)
              go_ret
              exact ⟨_, rows', rfl, HLN.out, ST.out⟩
end Go.Proofs.Ytfjnnbhijajhoaa
