/- Chapter 56: record of the reference. -/
import Derived.Test.YtfjnnbhijajhoaaPrG
namespace Go.Proofs.Ytfjnnbhijajhoaa
open Go Go.RowKit Go.Sort Go.Shelf Cg
/-- The slice of one record written, its opponents' row grown. -/
theorem Tab.put6 {B : Nat} {w wr w' : World} {x : St × Sl} (h : Tab B w wr [x]) (y : St × Sl) (hy : ∀ i, (encT y)[i]? = if i = 6 then some (slv y.2) else (encT x)[i]?) (hown : w'.ownsRow (B + 1) 3 1 (slv y.2) y.1.opp.length (y.1.opp.map (Value.int .i64))) (hg : wr.grownBy w' (slv x.2).ownBlock) : Tab B w (w'.setCell ⟨B, 6, none⟩ (slv y.2)) [y] := by
  have hx := h.own 0 x rfl
  have hblk : BlkK 8 encT 35 w' B [x] := h.blk.same (hg.block B h.blk.lt (fun e => own_ne hx (Nat.lt_succ_self B) e.symm))
  have hbel : Below B w w' := ⟨hg.os.trans h.bel.os, hg.tape.trans h.bel.tape, hg.output.trans h.bel.output, Nat.le_trans h.bel.size hg.size, fun k hk => (hg.block k (Nat.lt_trans hk h.blk.lt) (fun e => own_ne hx (Nat.lt_succ_of_lt hk) e.symm)).trans (h.bel.block k hk)⟩
  have h1 : ∀ p z, [y][p]? = some z → p = 0 ∧ z = y := fun p z hp => by
    rcases p with _ | p
    · exact ⟨rfl, by simpa using hp.symm⟩
    · simp at hp
  refine ⟨hblk.setCell encT_len 0 x rfl 6 (by omega) _ y hy, fun p z hp => ?_, fun p q a b g hp hq hpq _ => ?_, below_setCell hbel _ (Nat.le_refl _) _⟩
  · obtain ⟨rfl, rfl⟩ := h1 p z hp
    exact own_setNe hown (own_ne hown (Nat.lt_succ_self B)) _
  · exact absurd ((h1 p a hp).1.trans (h1 q b hq).1.symm) hpq
theorem tab_one (B : Nat) (w wr : World) (x : St) (hx : x.opp = []) (hb : Below B w wr) (h : wr.heap[B]? = some (.cells #[.int .i64 x.pl, .int .i64 x.pt, .int .i64 x.wi, .int .i64 x.lo, .int .i64 x.dw, .int .i64 x.by_, .slice none 0 0, .int .i64 x.tie] 35 (0, 0))) : Tab B w wr [(x, (none, 0, 0))] := by
  have h1 : ∀ p (z : St × Sl), [(x, ((none, 0, 0) : Sl))][p]? = some z → p = 0 ∧ z = (x, (none, 0, 0)) := fun p z hp => by
    rcases p with _ | p
    · exact ⟨rfl, by simpa using hp.symm⟩
    · simp at hp
  refine ⟨⟨_, h, by simp, fun p z hp i u hu => ?_⟩, fun p z hp => ?_, fun p q a b g hp hq hpq _ => ?_, hb⟩
  · obtain ⟨rfl, rfl⟩ := h1 p z hp
    rw [Nat.zero_mul, Nat.zero_add, ← hu]
    show (encT (x, (none, 0, 0))).toArray[i]? = _
    rw [List.getElem?_toArray]
  · obtain ⟨rfl, rfl⟩ := h1 p z hp
    rw [hx]
    exact World.ownsRow_nil _ _ _ _
  · exact absurd ((h1 p a hp).1.trans (h1 q b hq).1.symm) hpq
set_option maxRecDepth 100000 in
set_option maxHeartbeats 8000000 in
theorem record_ref (n p : Int) (v : Value) (l : List Rs) (w : World) (h : Cg.RowK 5 encR w v l) (hl : l.length ≤ 1000) :
    Calls Try.prog 25 #[.int .i64 n, v, .int .i64 p] w fun e w' => ∃ s : Sl, e = .returned (stV (recs n l p) (slv s)) ∧ w'.ownsRow (w.heap.size + 1 + 1) 3 1 (slv s) (recs n l p).opp.length ((recs n l p).opp.map (Value.int .i64)) ∧ Below w.heap.size w w' := by
  obtain ⟨w0, hw0⟩ : ∃ w0, w0 = w.alloc (.cells #[.int .i64 0, .int .i64 0, .int .i64 0, .int .i64 0, .int .i64 0, .int .i64 0, .slice none 0 0, .int .i64 0] 35) := ⟨_, rfl⟩
  have hb0 : Below w.heap.size w w0 := by rw [hw0]; exact (Below.refl _ _).alloc (Nat.le_refl _) _
  have hs0 : w0.heap.size = w.heap.size + 1 := by rw [hw0]; show (w.heap.push _).size = _; simp
  have hz0 : w0.heap[w.heap.size]? = some (.cells #[.int .i64 0, .int .i64 0, .int .i64 0, .int .i64 0, .int .i64 0, .int .i64 0, .slice none 0 0, .int .i64 0] 35 (0, 0)) := by rw [hw0]; exact heap_alloc_new w _
  obtain ⟨w1, hw1⟩ : ∃ w1, w1 = w0.alloc (.cells #[.int .i64 p, .int .i64 0, .int .i64 0, .int .i64 0, .int .i64 0, .int .i64 0, .slice none 0 0, .int .i64 0] 35) := ⟨_, rfl⟩
  have ht1 : Tab (w.heap.size + 1) w0 w1 [(st0 p, (none, 0, 0))] := by
    have hb1 : Below (w.heap.size + 1) w0 w1 := by rw [hw1, ← hs0]; exact (Below.refl _ _).alloc (Nat.le_refl _) _
    refine tab_one _ _ _ _ rfl hb1 ?_
    rw [hw1, ← hs0]
    exact heap_alloc_new w0 _
  obtain ⟨ao, cap, rfl, ⟨hc1, hc2⟩, hx⟩ := h.below hb0
  have HX := Lib.hid hx
  have T1 := Lib.hid ht1
  have HW := Lib.hid (show w1 = (w.alloc (.cells #[.int .i64 0, .int .i64 0, .int .i64 0, .int .i64 0, .int .i64 0, .int .i64 0, .slice none 0 0, .int .i64 0] 35)).alloc (.cells #[.int .i64 p, .int .i64 0, .int .i64 0, .int .i64 0, .int .i64 0, .int .i64 0, .slice none 0 0, .int .i64 0] 35) by rw [hw1, hw0])
  have HZ0 := Lib.hid hz0
  have HB0 := Lib.hid hb0
  have HS0 := Lib.hid hs0
  clear hx ht1 hw0 hw1 hz0 hb0 hs0 h
  go_enter Try.func25, Try.ntmps25
  go_wp2_with fail
  rw [← HW.out]
  go_loopw [8] (fun i wr => ∃ k : Nat, k ≤ l.length ∧ i = .int .i64 k ∧ ∃ s, Tab (w.heap.size + 1) w0 wr [(recs n (l.take k) p, s)]) (fun i _ => l.length - (intOf i).toNat)
  case atStart => exact ⟨0, by omega, rfl, _, T1.out⟩
  case round =>
    obtain ⟨k, hk, rfl, s, HT⟩ := hrel
    have TT := Lib.hid HT
    clear HT
    by_cases hlt : k < l.length
    · rcases HX.out with hh | ⟨g, o, rfl, hg, hcell⟩
      · rw [hh] at hlt; simp at hlt
      have hcell2 := (fun (m : Nat) x (hm : l[m]? = some x) (i : Nat) u (hu : (encR x)[i]? = some u) => (TT.out.bel.cell (p := ⟨g, o + m * 5 + i, none⟩) (by rw [← HS0.out]; exact hg)).trans (hcell m x hm i u hu))
      obtain ⟨q0, q1, q2, q3, q4⟩ := five_at hcell2 hlt
      obtain ⟨⟨ra, rb, wa, wb, dr⟩, hr⟩ : ∃ r, r = l[k] := ⟨_, rfl⟩
      rw [← hr] at q0 q1 q2 q3 q4
      have HRT := Lib.hid (recs_take n l k hlt p)
      rw [← hr] at HRT
      clear hcell hcell2 hr
      simp only at q0 q1 q2 q3 q4
      obtain ⟨wx, hwx, bx, y0, y1, y2, y3, y4⟩ := five_new wr (.int .i64 ra) (.int .i64 rb) (.int .i64 wa) (.int .i64 wb) (.int .i64 dr) 31
      have HCT := Lib.hid (counts_ref n ra rb wa wb dr wx)
      have HWX := Lib.hid hwx
      have HSZ := Lib.hid (show wx.heap.size = wr.heap.size + 1 by rw [hwx]; show (wr.heap.push _).size = _; simp)
      have TX := Lib.hid (TT.out.step bx)
      have RX := Lib.hid (show RegS wr.heap.size ra rb wa wb wx from ⟨y0, y1, y2, y3⟩)
      have hok := (recs_ok n p (l.take k)).up (show (l.take k).length ≤ 1000 by rw [List.length_take]; omega)
      obtain ⟨x, hx⟩ : ∃ x, x = recs n (l.take k) p := ⟨_, rfl⟩
      rw [← hx] at hok HRT TX
      clear hwx y0 y1 y2 y3 y4 bx hx TT
      cases hc : cnts n ⟨ra, rb, wa, wb, dr⟩
      · rw [hc] at HCT
        have HCN := Lib.hid hc
        clear hc hok
        go_wp2_with (go_at_call 38; rw [← HWX.out]; refine HCT.out.mono ?_; rintro e w2 ⟨rfl, b2⟩; have B2 := Lib.hid b2; clear b2)
        go_round
        case rel => exact ⟨k + 1, by omega, by go_num, s, by
          rw [HRT.out, upd, if_neg (fun h => by rw [HCN.out] at h; exact Bool.noConfusion h.1)]
          exact TX.out.step B2.out⟩
        case measure => simp [intOf]; omega
      · rw [hc] at HCT
        have HCN := Lib.hid hc
        have hne : ra ≠ rb := ((cnts_iff _ _).1 hc).2.2.2.2
        have hra : 0 ≤ ra := ((cnts_iff _ _).1 hc).1
        clear hc
        obtain ⟨hpl, hpt, hwi, hlo, hdw, hby, hopl, _, htie⟩ := hok
        obtain ⟨pl, pt, wi, lo, dw, by_, opp, tie⟩ := x
        simp only at hpl hpt hwi hlo hdw hby hopl htie
        clear hpl htie
        by_cases hap : ra = p
        · have dap : (ra != p) = false := by rw [hap]; simp
          by_cases hb : rb = -1
          · have HU := Lib.hid (show upd n p ⟨pl, pt, wi, lo, dw, by_, opp, tie⟩ ⟨ra, rb, wa, wb, dr⟩ = ⟨pl, pt + 3, wi, lo, dw, by_ + 1, opp, tie⟩ by rw [upd, if_pos ⟨HCN.out, .inl hap⟩, if_pos hb])
            have db : (rb == -1) = true := beq_iff_eq.2 hb
            clear hap hb hne hra
            go_wp2_with (go_at_call 38; rw [← HWX.out]; refine HCT.out.mono ?_; rintro e w2 ⟨rfl, b2⟩; have B2 := Lib.hid b2; have R2 := RX.out.keep (b2.block _ (by rw [HSZ.out]; omega)); obtain ⟨r0, r1, r2, r3⟩ := R2; clear b2; have T2 := Lib.hid (TX.out.step B2.out); have z0 := T2.out.blk.cell 0 _ rfl 0 _ rfl; have z1 := T2.out.blk.cell 0 _ rfl 1 _ rfl; have z2 := T2.out.blk.cell 0 _ rfl 2 _ rfl; have z3 := T2.out.blk.cell 0 _ rfl 3 _ rfl; have z4 := T2.out.blk.cell 0 _ rfl 4 _ rfl; have z5 := T2.out.blk.cell 0 _ rfl 5 _ rfl; have z6 := T2.out.blk.cell 0 _ rfl 6 _ rfl; have z7 := T2.out.blk.cell 0 _ rfl 7 _ rfl; have fz0 := T2.out.blk.frozen 0; have fz1 := T2.out.blk.frozen 1; have fz2 := T2.out.blk.frozen 2; have fz3 := T2.out.blk.frozen 3; have fz4 := T2.out.blk.frozen 4; have fz5 := T2.out.blk.frozen 5; have fz6 := T2.out.blk.frozen 6; have fz7 := T2.out.blk.frozen 7; simp only [Nat.zero_mul, Nat.zero_add] at z0 z1 z2 z3 z4 z5 z6 z7)
            go_round
            case rel =>
              refine ⟨k + 1, by omega, by go_num, s, ?_⟩
              rw [HRT.out, HU.out]
              have P1 := T2.out.poke 0 _ rfl 5 (by omega) (.int .i64 (by_ + 1)) ⟨pl, pt, wi, lo, dw, by_ + 1, opp, tie⟩ (fun i => by rcases i with _ | _ | _ | _ | _ | _ | _ | _ | i <;> rfl) rfl
              have P2 := P1.poke 0 _ rfl 1 (by omega) (.int .i64 (pt + 3)) ⟨pl, pt + 3, wi, lo, dw, by_ + 1, opp, tie⟩ (fun i => by rcases i with _ | _ | _ | _ | _ | _ | _ | _ | i <;> rfl) rfl
              exact P2
            case measure => simp [intOf]; omega
          · have HU0 := Lib.hid (show upd n p ⟨pl, pt, wi, lo, dw, by_, opp, tie⟩ ⟨ra, rb, wa, wb, dr⟩ = recd ⟨pl, pt, wi, lo, dw, by_, opp, tie⟩ rb wa wb by rw [upd, if_pos ⟨HCN.out, .inl hap⟩, if_neg hb, if_neg (fun e => hne (hap.trans e.symm))])
            have db : (rb == -1) = false := beq_eq_false_iff_ne.2 hb
            have dbp : (rb == p) = false := beq_eq_false_iff_ne.2 (fun e => hne (hap.trans e.symm))
            have dbp2 : (rb != p) = true := by rw [bne, dbp]; rfl
            clear hap hb hne hra
            by_cases hw : wb < wa
            · have d1 : decide (wb < wa) = true := decide_eq_true hw
              have HU := Lib.hid (show upd n p ⟨pl, pt, wi, lo, dw, by_, opp, tie⟩ ⟨ra, rb, wa, wb, dr⟩ = ⟨pl, pt + 3, wi + 1, lo, dw, by_, opp ++ [rb], tie⟩ by rw [HU0.out]; rw [recd, if_pos hw])
              try clear he
              clear hw
              go_wp2_with (first | (go_at_call 38; rw [← HWX.out]; refine HCT.out.mono ?_; rintro e w2 ⟨rfl, b2⟩; have B2 := Lib.hid b2; have R2 := RX.out.keep (b2.block _ (by rw [HSZ.out]; omega)); obtain ⟨r0, r1, r2, r3⟩ := R2; clear b2; have T2 := Lib.hid (TX.out.step B2.out); have z0 := T2.out.blk.cell 0 _ rfl 0 _ rfl; have z1 := T2.out.blk.cell 0 _ rfl 1 _ rfl; have z2 := T2.out.blk.cell 0 _ rfl 2 _ rfl; have z3 := T2.out.blk.cell 0 _ rfl 3 _ rfl; have z4 := T2.out.blk.cell 0 _ rfl 4 _ rfl; have z5 := T2.out.blk.cell 0 _ rfl 5 _ rfl; have z6 := T2.out.blk.cell 0 _ rfl 6 _ rfl; have z7 := T2.out.blk.cell 0 _ rfl 7 _ rfl; have fz0 := T2.out.blk.frozen 0; have fz1 := T2.out.blk.frozen 1; have fz2 := T2.out.blk.frozen 2; have fz3 := T2.out.blk.frozen 3; have fz4 := T2.out.blk.frozen 4; have fz5 := T2.out.blk.frozen 5; have fz6 := T2.out.blk.frozen 6; have fz7 := T2.out.blk.frozen 7; simp only [Nat.zero_mul, Nat.zero_add] at z0 z1 z2 z3 z4 z5 z6 z7; simp only [slv] at z6) | (at_builtin; refine wpList_append_at rfl (.tmp 69) (.tmp 71) 32 rfl (w.heap.size + 1 + 1) intsElem (slv s) opp.length _ rfl (T2.out.own 0 _ rfl) (.int .i64 rb) rfl rfl (by omega) (by omega) (Nat.le_trans (Nat.succ_le_of_lt T2.out.blk.lt) (Nat.le_refl _)) ?_; intro g3 cap3 w3 own3 grow3 hat3; have O3 := Lib.hid (show w3.ownsRow (w.heap.size + 1 + 1) 3 1 (slv (some ⟨g3, 0, none⟩, opp.length + 1, cap3)) (opp ++ [rb]).length ((opp ++ [rb]).map (Value.int .i64)) from by rw [List.length_append, List.length_singleton, List.map_append]; exact own3); have KB := Lib.hid (T2.out.blk.same (grow3.block _ T2.out.blk.lt (fun e => own_ne (T2.out.own 0 _ rfl) (Nat.lt_succ_self _) e.symm))); have G3 := Lib.hid grow3; clear own3 grow3 hat3; try clear r0 r1 r2 r3; clear z0 fz0 z1 fz1 z2 fz2 z3 fz3 z4 fz4 z5 fz5 z6 fz6 z7 fz7; have y0 := KB.out.cell 0 _ rfl 0 _ rfl; have y1 := KB.out.cell 0 _ rfl 1 _ rfl; have y2 := KB.out.cell 0 _ rfl 2 _ rfl; have y3 := KB.out.cell 0 _ rfl 3 _ rfl; have y4 := KB.out.cell 0 _ rfl 4 _ rfl; have y5 := KB.out.cell 0 _ rfl 5 _ rfl; have y6 := KB.out.cell 0 _ rfl 6 _ rfl; have y7 := KB.out.cell 0 _ rfl 7 _ rfl; have fy0 := KB.out.frozen 0; have fy1 := KB.out.frozen 1; have fy2 := KB.out.frozen 2; have fy3 := KB.out.frozen 3; have fy4 := KB.out.frozen 4; have fy5 := KB.out.frozen 5; have fy6 := KB.out.frozen 6; have fy7 := KB.out.frozen 7; simp only [Nat.zero_mul, Nat.zero_add] at y0 y1 y2 y3 y4 y5 y6 y7))
              go_round
              case rel =>
                refine ⟨k + 1, by omega, by go_num, (some ⟨g3, 0, none⟩, opp.length + 1, cap3), ?_⟩
                rw [HRT.out, HU.out]
                have P0 := T2.out.put6 (⟨pl, pt, wi, lo, dw, by_, opp ++ [rb], tie⟩, (some ⟨g3, 0, none⟩, opp.length + 1, cap3)) (fun i => by rcases i with _ | _ | _ | _ | _ | _ | _ | _ | i <;> rfl) O3.out G3.out
                have P1 := P0.poke 0 _ rfl 2 (by omega) (.int .i64 (wi + 1)) ⟨pl, pt, wi + 1, lo, dw, by_, opp ++ [rb], tie⟩ (fun i => by rcases i with _ | _ | _ | _ | _ | _ | _ | _ | i <;> rfl) rfl
                have P2 := P1.poke 0 _ rfl 1 (by omega) (.int .i64 (pt + 3)) ⟨pl, pt + 3, wi + 1, lo, dw, by_, opp ++ [rb], tie⟩ (fun i => by rcases i with _ | _ | _ | _ | _ | _ | _ | _ | i <;> rfl) rfl
                exact P2
              case measure => simp [intOf]; omega
            · have d1 : decide (wb < wa) = false := decide_eq_false hw
              by_cases he : wa = wb
              · have d2 : (wa == wb) = true := beq_iff_eq.2 he
                have HU := Lib.hid (show upd n p ⟨pl, pt, wi, lo, dw, by_, opp, tie⟩ ⟨ra, rb, wa, wb, dr⟩ = ⟨pl, pt + 1, wi, lo, dw + 1, by_, opp ++ [rb], tie⟩ by rw [HU0.out]; rw [recd, if_neg hw, if_pos he])
                try clear he
                clear hw
                go_wp2_with (first | (go_at_call 38; rw [← HWX.out]; refine HCT.out.mono ?_; rintro e w2 ⟨rfl, b2⟩; have B2 := Lib.hid b2; have R2 := RX.out.keep (b2.block _ (by rw [HSZ.out]; omega)); obtain ⟨r0, r1, r2, r3⟩ := R2; clear b2; have T2 := Lib.hid (TX.out.step B2.out); have z0 := T2.out.blk.cell 0 _ rfl 0 _ rfl; have z1 := T2.out.blk.cell 0 _ rfl 1 _ rfl; have z2 := T2.out.blk.cell 0 _ rfl 2 _ rfl; have z3 := T2.out.blk.cell 0 _ rfl 3 _ rfl; have z4 := T2.out.blk.cell 0 _ rfl 4 _ rfl; have z5 := T2.out.blk.cell 0 _ rfl 5 _ rfl; have z6 := T2.out.blk.cell 0 _ rfl 6 _ rfl; have z7 := T2.out.blk.cell 0 _ rfl 7 _ rfl; have fz0 := T2.out.blk.frozen 0; have fz1 := T2.out.blk.frozen 1; have fz2 := T2.out.blk.frozen 2; have fz3 := T2.out.blk.frozen 3; have fz4 := T2.out.blk.frozen 4; have fz5 := T2.out.blk.frozen 5; have fz6 := T2.out.blk.frozen 6; have fz7 := T2.out.blk.frozen 7; simp only [Nat.zero_mul, Nat.zero_add] at z0 z1 z2 z3 z4 z5 z6 z7; simp only [slv] at z6) | (at_builtin; refine wpList_append_at rfl (.tmp 69) (.tmp 71) 32 rfl (w.heap.size + 1 + 1) intsElem (slv s) opp.length _ rfl (T2.out.own 0 _ rfl) (.int .i64 rb) rfl rfl (by omega) (by omega) (Nat.le_trans (Nat.succ_le_of_lt T2.out.blk.lt) (Nat.le_refl _)) ?_; intro g3 cap3 w3 own3 grow3 hat3; have O3 := Lib.hid (show w3.ownsRow (w.heap.size + 1 + 1) 3 1 (slv (some ⟨g3, 0, none⟩, opp.length + 1, cap3)) (opp ++ [rb]).length ((opp ++ [rb]).map (Value.int .i64)) from by rw [List.length_append, List.length_singleton, List.map_append]; exact own3); have KB := Lib.hid (T2.out.blk.same (grow3.block _ T2.out.blk.lt (fun e => own_ne (T2.out.own 0 _ rfl) (Nat.lt_succ_self _) e.symm))); have G3 := Lib.hid grow3; clear own3 grow3 hat3; try clear r0 r1 r2 r3; clear z0 fz0 z1 fz1 z2 fz2 z3 fz3 z4 fz4 z5 fz5 z6 fz6 z7 fz7; have y0 := KB.out.cell 0 _ rfl 0 _ rfl; have y1 := KB.out.cell 0 _ rfl 1 _ rfl; have y2 := KB.out.cell 0 _ rfl 2 _ rfl; have y3 := KB.out.cell 0 _ rfl 3 _ rfl; have y4 := KB.out.cell 0 _ rfl 4 _ rfl; have y5 := KB.out.cell 0 _ rfl 5 _ rfl; have y6 := KB.out.cell 0 _ rfl 6 _ rfl; have y7 := KB.out.cell 0 _ rfl 7 _ rfl; have fy0 := KB.out.frozen 0; have fy1 := KB.out.frozen 1; have fy2 := KB.out.frozen 2; have fy3 := KB.out.frozen 3; have fy4 := KB.out.frozen 4; have fy5 := KB.out.frozen 5; have fy6 := KB.out.frozen 6; have fy7 := KB.out.frozen 7; simp only [Nat.zero_mul, Nat.zero_add] at y0 y1 y2 y3 y4 y5 y6 y7))
                go_round
                case rel =>
                  refine ⟨k + 1, by omega, by go_num, (some ⟨g3, 0, none⟩, opp.length + 1, cap3), ?_⟩
                  rw [HRT.out, HU.out]
                  have P0 := T2.out.put6 (⟨pl, pt, wi, lo, dw, by_, opp ++ [rb], tie⟩, (some ⟨g3, 0, none⟩, opp.length + 1, cap3)) (fun i => by rcases i with _ | _ | _ | _ | _ | _ | _ | _ | i <;> rfl) O3.out G3.out
                  have P1 := P0.poke 0 _ rfl 4 (by omega) (.int .i64 (dw + 1)) ⟨pl, pt, wi, lo, dw + 1, by_, opp ++ [rb], tie⟩ (fun i => by rcases i with _ | _ | _ | _ | _ | _ | _ | _ | i <;> rfl) rfl
                  have P2 := P1.poke 0 _ rfl 1 (by omega) (.int .i64 (pt + 1)) ⟨pl, pt + 1, wi, lo, dw + 1, by_, opp ++ [rb], tie⟩ (fun i => by rcases i with _ | _ | _ | _ | _ | _ | _ | _ | i <;> rfl) rfl
                  exact P2
                case measure => simp [intOf]; omega
              · have d2 : (wa == wb) = false := beq_eq_false_iff_ne.2 he
                have HU := Lib.hid (show upd n p ⟨pl, pt, wi, lo, dw, by_, opp, tie⟩ ⟨ra, rb, wa, wb, dr⟩ = ⟨pl, pt, wi, lo + 1, dw, by_, opp ++ [rb], tie⟩ by rw [HU0.out]; rw [recd, if_neg hw, if_neg he])
                try clear he
                clear hw
                go_wp2_with (first | (go_at_call 38; rw [← HWX.out]; refine HCT.out.mono ?_; rintro e w2 ⟨rfl, b2⟩; have B2 := Lib.hid b2; have R2 := RX.out.keep (b2.block _ (by rw [HSZ.out]; omega)); obtain ⟨r0, r1, r2, r3⟩ := R2; clear b2; have T2 := Lib.hid (TX.out.step B2.out); have z0 := T2.out.blk.cell 0 _ rfl 0 _ rfl; have z1 := T2.out.blk.cell 0 _ rfl 1 _ rfl; have z2 := T2.out.blk.cell 0 _ rfl 2 _ rfl; have z3 := T2.out.blk.cell 0 _ rfl 3 _ rfl; have z4 := T2.out.blk.cell 0 _ rfl 4 _ rfl; have z5 := T2.out.blk.cell 0 _ rfl 5 _ rfl; have z6 := T2.out.blk.cell 0 _ rfl 6 _ rfl; have z7 := T2.out.blk.cell 0 _ rfl 7 _ rfl; have fz0 := T2.out.blk.frozen 0; have fz1 := T2.out.blk.frozen 1; have fz2 := T2.out.blk.frozen 2; have fz3 := T2.out.blk.frozen 3; have fz4 := T2.out.blk.frozen 4; have fz5 := T2.out.blk.frozen 5; have fz6 := T2.out.blk.frozen 6; have fz7 := T2.out.blk.frozen 7; simp only [Nat.zero_mul, Nat.zero_add] at z0 z1 z2 z3 z4 z5 z6 z7; simp only [slv] at z6) | (at_builtin; refine wpList_append_at rfl (.tmp 69) (.tmp 71) 32 rfl (w.heap.size + 1 + 1) intsElem (slv s) opp.length _ rfl (T2.out.own 0 _ rfl) (.int .i64 rb) rfl rfl (by omega) (by omega) (Nat.le_trans (Nat.succ_le_of_lt T2.out.blk.lt) (Nat.le_refl _)) ?_; intro g3 cap3 w3 own3 grow3 hat3; have O3 := Lib.hid (show w3.ownsRow (w.heap.size + 1 + 1) 3 1 (slv (some ⟨g3, 0, none⟩, opp.length + 1, cap3)) (opp ++ [rb]).length ((opp ++ [rb]).map (Value.int .i64)) from by rw [List.length_append, List.length_singleton, List.map_append]; exact own3); have KB := Lib.hid (T2.out.blk.same (grow3.block _ T2.out.blk.lt (fun e => own_ne (T2.out.own 0 _ rfl) (Nat.lt_succ_self _) e.symm))); have G3 := Lib.hid grow3; clear own3 grow3 hat3; try clear r0 r1 r2 r3; clear z0 fz0 z1 fz1 z2 fz2 z3 fz3 z4 fz4 z5 fz5 z6 fz6 z7 fz7; have y0 := KB.out.cell 0 _ rfl 0 _ rfl; have y1 := KB.out.cell 0 _ rfl 1 _ rfl; have y2 := KB.out.cell 0 _ rfl 2 _ rfl; have y3 := KB.out.cell 0 _ rfl 3 _ rfl; have y4 := KB.out.cell 0 _ rfl 4 _ rfl; have y5 := KB.out.cell 0 _ rfl 5 _ rfl; have y6 := KB.out.cell 0 _ rfl 6 _ rfl; have y7 := KB.out.cell 0 _ rfl 7 _ rfl; have fy0 := KB.out.frozen 0; have fy1 := KB.out.frozen 1; have fy2 := KB.out.frozen 2; have fy3 := KB.out.frozen 3; have fy4 := KB.out.frozen 4; have fy5 := KB.out.frozen 5; have fy6 := KB.out.frozen 6; have fy7 := KB.out.frozen 7; simp only [Nat.zero_mul, Nat.zero_add] at y0 y1 y2 y3 y4 y5 y6 y7))
                go_round
                case rel =>
                  refine ⟨k + 1, by omega, by go_num, (some ⟨g3, 0, none⟩, opp.length + 1, cap3), ?_⟩
                  rw [HRT.out, HU.out]
                  have P0 := T2.out.put6 (⟨pl, pt, wi, lo, dw, by_, opp ++ [rb], tie⟩, (some ⟨g3, 0, none⟩, opp.length + 1, cap3)) (fun i => by rcases i with _ | _ | _ | _ | _ | _ | _ | _ | i <;> rfl) O3.out G3.out
                  have P1 := P0.poke 0 _ rfl 3 (by omega) (.int .i64 (lo + 1)) ⟨pl, pt, wi, lo + 1, dw, by_, opp ++ [rb], tie⟩ (fun i => by rcases i with _ | _ | _ | _ | _ | _ | _ | _ | i <;> rfl) rfl
                  exact P1
                case measure => simp [intOf]; omega
        · have dap : (ra != p) = true := by rw [bne, beq_eq_false_iff_ne.2 hap]; rfl
          by_cases hbp : rb = p
          · have dbp : (rb == p) = true := beq_iff_eq.2 hbp
            have dbp2 : (rb != p) = false := by rw [bne, dbp]; rfl
            by_cases hb : rb = -1
            · have HU := Lib.hid (show upd n p ⟨pl, pt, wi, lo, dw, by_, opp, tie⟩ ⟨ra, rb, wa, wb, dr⟩ = ⟨pl, pt + 3, wi, lo, dw, by_ + 1, opp, tie⟩ by rw [upd, if_pos ⟨HCN.out, .inr hbp⟩, if_pos hb])
              have db : (rb == -1) = true := beq_iff_eq.2 hb
              clear hap hb hne hra hbp
              go_wp2_with (go_at_call 38; rw [← HWX.out]; refine HCT.out.mono ?_; rintro e w2 ⟨rfl, b2⟩; have B2 := Lib.hid b2; have R2 := RX.out.keep (b2.block _ (by rw [HSZ.out]; omega)); obtain ⟨r0, r1, r2, r3⟩ := R2; clear b2; have T2 := Lib.hid (TX.out.step B2.out); have z0 := T2.out.blk.cell 0 _ rfl 0 _ rfl; have z1 := T2.out.blk.cell 0 _ rfl 1 _ rfl; have z2 := T2.out.blk.cell 0 _ rfl 2 _ rfl; have z3 := T2.out.blk.cell 0 _ rfl 3 _ rfl; have z4 := T2.out.blk.cell 0 _ rfl 4 _ rfl; have z5 := T2.out.blk.cell 0 _ rfl 5 _ rfl; have z6 := T2.out.blk.cell 0 _ rfl 6 _ rfl; have z7 := T2.out.blk.cell 0 _ rfl 7 _ rfl; have fz0 := T2.out.blk.frozen 0; have fz1 := T2.out.blk.frozen 1; have fz2 := T2.out.blk.frozen 2; have fz3 := T2.out.blk.frozen 3; have fz4 := T2.out.blk.frozen 4; have fz5 := T2.out.blk.frozen 5; have fz6 := T2.out.blk.frozen 6; have fz7 := T2.out.blk.frozen 7; simp only [Nat.zero_mul, Nat.zero_add] at z0 z1 z2 z3 z4 z5 z6 z7)
              go_round
              case rel =>
                refine ⟨k + 1, by omega, by go_num, s, ?_⟩
                rw [HRT.out, HU.out]
                have P1 := T2.out.poke 0 _ rfl 5 (by omega) (.int .i64 (by_ + 1)) ⟨pl, pt, wi, lo, dw, by_ + 1, opp, tie⟩ (fun i => by rcases i with _ | _ | _ | _ | _ | _ | _ | _ | i <;> rfl) rfl
                have P2 := P1.poke 0 _ rfl 1 (by omega) (.int .i64 (pt + 3)) ⟨pl, pt + 3, wi, lo, dw, by_ + 1, opp, tie⟩ (fun i => by rcases i with _ | _ | _ | _ | _ | _ | _ | _ | i <;> rfl) rfl
                exact P2
              case measure => simp [intOf]; omega
            · have HU0 := Lib.hid (show upd n p ⟨pl, pt, wi, lo, dw, by_, opp, tie⟩ ⟨ra, rb, wa, wb, dr⟩ = recd ⟨pl, pt, wi, lo, dw, by_, opp, tie⟩ ra wb wa by rw [upd, if_pos ⟨HCN.out, .inr hbp⟩, if_neg hb, if_pos hbp])
              have db : (rb == -1) = false := beq_eq_false_iff_ne.2 hb
              clear hap hb hne hra hbp
              by_cases hw : wa < wb
              · have d1 : decide (wa < wb) = true := decide_eq_true hw
                have HU := Lib.hid (show upd n p ⟨pl, pt, wi, lo, dw, by_, opp, tie⟩ ⟨ra, rb, wa, wb, dr⟩ = ⟨pl, pt + 3, wi + 1, lo, dw, by_, opp ++ [ra], tie⟩ by rw [HU0.out]; rw [recd, if_pos hw])
                try clear he
                clear hw
                go_wp2_with (first | (go_at_call 38; rw [← HWX.out]; refine HCT.out.mono ?_; rintro e w2 ⟨rfl, b2⟩; have B2 := Lib.hid b2; have R2 := RX.out.keep (b2.block _ (by rw [HSZ.out]; omega)); obtain ⟨r0, r1, r2, r3⟩ := R2; clear b2; have T2 := Lib.hid (TX.out.step B2.out); have z0 := T2.out.blk.cell 0 _ rfl 0 _ rfl; have z1 := T2.out.blk.cell 0 _ rfl 1 _ rfl; have z2 := T2.out.blk.cell 0 _ rfl 2 _ rfl; have z3 := T2.out.blk.cell 0 _ rfl 3 _ rfl; have z4 := T2.out.blk.cell 0 _ rfl 4 _ rfl; have z5 := T2.out.blk.cell 0 _ rfl 5 _ rfl; have z6 := T2.out.blk.cell 0 _ rfl 6 _ rfl; have z7 := T2.out.blk.cell 0 _ rfl 7 _ rfl; have fz0 := T2.out.blk.frozen 0; have fz1 := T2.out.blk.frozen 1; have fz2 := T2.out.blk.frozen 2; have fz3 := T2.out.blk.frozen 3; have fz4 := T2.out.blk.frozen 4; have fz5 := T2.out.blk.frozen 5; have fz6 := T2.out.blk.frozen 6; have fz7 := T2.out.blk.frozen 7; simp only [Nat.zero_mul, Nat.zero_add] at z0 z1 z2 z3 z4 z5 z6 z7; simp only [slv] at z6) | (at_builtin; refine wpList_append_at rfl (.tmp 69) (.tmp 71) 32 rfl (w.heap.size + 1 + 1) intsElem (slv s) opp.length _ rfl (T2.out.own 0 _ rfl) (.int .i64 ra) rfl rfl (by omega) (by omega) (Nat.le_trans (Nat.succ_le_of_lt T2.out.blk.lt) (Nat.le_refl _)) ?_; intro g3 cap3 w3 own3 grow3 hat3; have O3 := Lib.hid (show w3.ownsRow (w.heap.size + 1 + 1) 3 1 (slv (some ⟨g3, 0, none⟩, opp.length + 1, cap3)) (opp ++ [ra]).length ((opp ++ [ra]).map (Value.int .i64)) from by rw [List.length_append, List.length_singleton, List.map_append]; exact own3); have KB := Lib.hid (T2.out.blk.same (grow3.block _ T2.out.blk.lt (fun e => own_ne (T2.out.own 0 _ rfl) (Nat.lt_succ_self _) e.symm))); have G3 := Lib.hid grow3; clear own3 grow3 hat3; try clear r0 r1 r2 r3; clear z0 fz0 z1 fz1 z2 fz2 z3 fz3 z4 fz4 z5 fz5 z6 fz6 z7 fz7; have y0 := KB.out.cell 0 _ rfl 0 _ rfl; have y1 := KB.out.cell 0 _ rfl 1 _ rfl; have y2 := KB.out.cell 0 _ rfl 2 _ rfl; have y3 := KB.out.cell 0 _ rfl 3 _ rfl; have y4 := KB.out.cell 0 _ rfl 4 _ rfl; have y5 := KB.out.cell 0 _ rfl 5 _ rfl; have y6 := KB.out.cell 0 _ rfl 6 _ rfl; have y7 := KB.out.cell 0 _ rfl 7 _ rfl; have fy0 := KB.out.frozen 0; have fy1 := KB.out.frozen 1; have fy2 := KB.out.frozen 2; have fy3 := KB.out.frozen 3; have fy4 := KB.out.frozen 4; have fy5 := KB.out.frozen 5; have fy6 := KB.out.frozen 6; have fy7 := KB.out.frozen 7; simp only [Nat.zero_mul, Nat.zero_add] at y0 y1 y2 y3 y4 y5 y6 y7))
                go_round
                case rel =>
                  refine ⟨k + 1, by omega, by go_num, (some ⟨g3, 0, none⟩, opp.length + 1, cap3), ?_⟩
                  rw [HRT.out, HU.out]
                  have P0 := T2.out.put6 (⟨pl, pt, wi, lo, dw, by_, opp ++ [ra], tie⟩, (some ⟨g3, 0, none⟩, opp.length + 1, cap3)) (fun i => by rcases i with _ | _ | _ | _ | _ | _ | _ | _ | i <;> rfl) O3.out G3.out
                  have P1 := P0.poke 0 _ rfl 2 (by omega) (.int .i64 (wi + 1)) ⟨pl, pt, wi + 1, lo, dw, by_, opp ++ [ra], tie⟩ (fun i => by rcases i with _ | _ | _ | _ | _ | _ | _ | _ | i <;> rfl) rfl
                  have P2 := P1.poke 0 _ rfl 1 (by omega) (.int .i64 (pt + 3)) ⟨pl, pt + 3, wi + 1, lo, dw, by_, opp ++ [ra], tie⟩ (fun i => by rcases i with _ | _ | _ | _ | _ | _ | _ | _ | i <;> rfl) rfl
                  exact P2
                case measure => simp [intOf]; omega
              · have d1 : decide (wa < wb) = false := decide_eq_false hw
                by_cases he : wb = wa
                · have d2 : (wb == wa) = true := beq_iff_eq.2 he
                  have HU := Lib.hid (show upd n p ⟨pl, pt, wi, lo, dw, by_, opp, tie⟩ ⟨ra, rb, wa, wb, dr⟩ = ⟨pl, pt + 1, wi, lo, dw + 1, by_, opp ++ [ra], tie⟩ by rw [HU0.out]; rw [recd, if_neg hw, if_pos he])
                  try clear he
                  clear hw
                  go_wp2_with (first | (go_at_call 38; rw [← HWX.out]; refine HCT.out.mono ?_; rintro e w2 ⟨rfl, b2⟩; have B2 := Lib.hid b2; have R2 := RX.out.keep (b2.block _ (by rw [HSZ.out]; omega)); obtain ⟨r0, r1, r2, r3⟩ := R2; clear b2; have T2 := Lib.hid (TX.out.step B2.out); have z0 := T2.out.blk.cell 0 _ rfl 0 _ rfl; have z1 := T2.out.blk.cell 0 _ rfl 1 _ rfl; have z2 := T2.out.blk.cell 0 _ rfl 2 _ rfl; have z3 := T2.out.blk.cell 0 _ rfl 3 _ rfl; have z4 := T2.out.blk.cell 0 _ rfl 4 _ rfl; have z5 := T2.out.blk.cell 0 _ rfl 5 _ rfl; have z6 := T2.out.blk.cell 0 _ rfl 6 _ rfl; have z7 := T2.out.blk.cell 0 _ rfl 7 _ rfl; have fz0 := T2.out.blk.frozen 0; have fz1 := T2.out.blk.frozen 1; have fz2 := T2.out.blk.frozen 2; have fz3 := T2.out.blk.frozen 3; have fz4 := T2.out.blk.frozen 4; have fz5 := T2.out.blk.frozen 5; have fz6 := T2.out.blk.frozen 6; have fz7 := T2.out.blk.frozen 7; simp only [Nat.zero_mul, Nat.zero_add] at z0 z1 z2 z3 z4 z5 z6 z7; simp only [slv] at z6) | (at_builtin; refine wpList_append_at rfl (.tmp 69) (.tmp 71) 32 rfl (w.heap.size + 1 + 1) intsElem (slv s) opp.length _ rfl (T2.out.own 0 _ rfl) (.int .i64 ra) rfl rfl (by omega) (by omega) (Nat.le_trans (Nat.succ_le_of_lt T2.out.blk.lt) (Nat.le_refl _)) ?_; intro g3 cap3 w3 own3 grow3 hat3; have O3 := Lib.hid (show w3.ownsRow (w.heap.size + 1 + 1) 3 1 (slv (some ⟨g3, 0, none⟩, opp.length + 1, cap3)) (opp ++ [ra]).length ((opp ++ [ra]).map (Value.int .i64)) from by rw [List.length_append, List.length_singleton, List.map_append]; exact own3); have KB := Lib.hid (T2.out.blk.same (grow3.block _ T2.out.blk.lt (fun e => own_ne (T2.out.own 0 _ rfl) (Nat.lt_succ_self _) e.symm))); have G3 := Lib.hid grow3; clear own3 grow3 hat3; try clear r0 r1 r2 r3; clear z0 fz0 z1 fz1 z2 fz2 z3 fz3 z4 fz4 z5 fz5 z6 fz6 z7 fz7; have y0 := KB.out.cell 0 _ rfl 0 _ rfl; have y1 := KB.out.cell 0 _ rfl 1 _ rfl; have y2 := KB.out.cell 0 _ rfl 2 _ rfl; have y3 := KB.out.cell 0 _ rfl 3 _ rfl; have y4 := KB.out.cell 0 _ rfl 4 _ rfl; have y5 := KB.out.cell 0 _ rfl 5 _ rfl; have y6 := KB.out.cell 0 _ rfl 6 _ rfl; have y7 := KB.out.cell 0 _ rfl 7 _ rfl; have fy0 := KB.out.frozen 0; have fy1 := KB.out.frozen 1; have fy2 := KB.out.frozen 2; have fy3 := KB.out.frozen 3; have fy4 := KB.out.frozen 4; have fy5 := KB.out.frozen 5; have fy6 := KB.out.frozen 6; have fy7 := KB.out.frozen 7; simp only [Nat.zero_mul, Nat.zero_add] at y0 y1 y2 y3 y4 y5 y6 y7))
                  go_round
                  case rel =>
                    refine ⟨k + 1, by omega, by go_num, (some ⟨g3, 0, none⟩, opp.length + 1, cap3), ?_⟩
                    rw [HRT.out, HU.out]
                    have P0 := T2.out.put6 (⟨pl, pt, wi, lo, dw, by_, opp ++ [ra], tie⟩, (some ⟨g3, 0, none⟩, opp.length + 1, cap3)) (fun i => by rcases i with _ | _ | _ | _ | _ | _ | _ | _ | i <;> rfl) O3.out G3.out
                    have P1 := P0.poke 0 _ rfl 4 (by omega) (.int .i64 (dw + 1)) ⟨pl, pt, wi, lo, dw + 1, by_, opp ++ [ra], tie⟩ (fun i => by rcases i with _ | _ | _ | _ | _ | _ | _ | _ | i <;> rfl) rfl
                    have P2 := P1.poke 0 _ rfl 1 (by omega) (.int .i64 (pt + 1)) ⟨pl, pt + 1, wi, lo, dw + 1, by_, opp ++ [ra], tie⟩ (fun i => by rcases i with _ | _ | _ | _ | _ | _ | _ | _ | i <;> rfl) rfl
                    exact P2
                  case measure => simp [intOf]; omega
                · have d2 : (wb == wa) = false := beq_eq_false_iff_ne.2 he
                  have HU := Lib.hid (show upd n p ⟨pl, pt, wi, lo, dw, by_, opp, tie⟩ ⟨ra, rb, wa, wb, dr⟩ = ⟨pl, pt, wi, lo + 1, dw, by_, opp ++ [ra], tie⟩ by rw [HU0.out]; rw [recd, if_neg hw, if_neg he])
                  try clear he
                  clear hw
                  go_wp2_with (first | (go_at_call 38; rw [← HWX.out]; refine HCT.out.mono ?_; rintro e w2 ⟨rfl, b2⟩; have B2 := Lib.hid b2; have R2 := RX.out.keep (b2.block _ (by rw [HSZ.out]; omega)); obtain ⟨r0, r1, r2, r3⟩ := R2; clear b2; have T2 := Lib.hid (TX.out.step B2.out); have z0 := T2.out.blk.cell 0 _ rfl 0 _ rfl; have z1 := T2.out.blk.cell 0 _ rfl 1 _ rfl; have z2 := T2.out.blk.cell 0 _ rfl 2 _ rfl; have z3 := T2.out.blk.cell 0 _ rfl 3 _ rfl; have z4 := T2.out.blk.cell 0 _ rfl 4 _ rfl; have z5 := T2.out.blk.cell 0 _ rfl 5 _ rfl; have z6 := T2.out.blk.cell 0 _ rfl 6 _ rfl; have z7 := T2.out.blk.cell 0 _ rfl 7 _ rfl; have fz0 := T2.out.blk.frozen 0; have fz1 := T2.out.blk.frozen 1; have fz2 := T2.out.blk.frozen 2; have fz3 := T2.out.blk.frozen 3; have fz4 := T2.out.blk.frozen 4; have fz5 := T2.out.blk.frozen 5; have fz6 := T2.out.blk.frozen 6; have fz7 := T2.out.blk.frozen 7; simp only [Nat.zero_mul, Nat.zero_add] at z0 z1 z2 z3 z4 z5 z6 z7; simp only [slv] at z6) | (at_builtin; refine wpList_append_at rfl (.tmp 69) (.tmp 71) 32 rfl (w.heap.size + 1 + 1) intsElem (slv s) opp.length _ rfl (T2.out.own 0 _ rfl) (.int .i64 ra) rfl rfl (by omega) (by omega) (Nat.le_trans (Nat.succ_le_of_lt T2.out.blk.lt) (Nat.le_refl _)) ?_; intro g3 cap3 w3 own3 grow3 hat3; have O3 := Lib.hid (show w3.ownsRow (w.heap.size + 1 + 1) 3 1 (slv (some ⟨g3, 0, none⟩, opp.length + 1, cap3)) (opp ++ [ra]).length ((opp ++ [ra]).map (Value.int .i64)) from by rw [List.length_append, List.length_singleton, List.map_append]; exact own3); have KB := Lib.hid (T2.out.blk.same (grow3.block _ T2.out.blk.lt (fun e => own_ne (T2.out.own 0 _ rfl) (Nat.lt_succ_self _) e.symm))); have G3 := Lib.hid grow3; clear own3 grow3 hat3; try clear r0 r1 r2 r3; clear z0 fz0 z1 fz1 z2 fz2 z3 fz3 z4 fz4 z5 fz5 z6 fz6 z7 fz7; have y0 := KB.out.cell 0 _ rfl 0 _ rfl; have y1 := KB.out.cell 0 _ rfl 1 _ rfl; have y2 := KB.out.cell 0 _ rfl 2 _ rfl; have y3 := KB.out.cell 0 _ rfl 3 _ rfl; have y4 := KB.out.cell 0 _ rfl 4 _ rfl; have y5 := KB.out.cell 0 _ rfl 5 _ rfl; have y6 := KB.out.cell 0 _ rfl 6 _ rfl; have y7 := KB.out.cell 0 _ rfl 7 _ rfl; have fy0 := KB.out.frozen 0; have fy1 := KB.out.frozen 1; have fy2 := KB.out.frozen 2; have fy3 := KB.out.frozen 3; have fy4 := KB.out.frozen 4; have fy5 := KB.out.frozen 5; have fy6 := KB.out.frozen 6; have fy7 := KB.out.frozen 7; simp only [Nat.zero_mul, Nat.zero_add] at y0 y1 y2 y3 y4 y5 y6 y7))
                  go_round
                  case rel =>
                    refine ⟨k + 1, by omega, by go_num, (some ⟨g3, 0, none⟩, opp.length + 1, cap3), ?_⟩
                    rw [HRT.out, HU.out]
                    have P0 := T2.out.put6 (⟨pl, pt, wi, lo, dw, by_, opp ++ [ra], tie⟩, (some ⟨g3, 0, none⟩, opp.length + 1, cap3)) (fun i => by rcases i with _ | _ | _ | _ | _ | _ | _ | _ | i <;> rfl) O3.out G3.out
                    have P1 := P0.poke 0 _ rfl 3 (by omega) (.int .i64 (lo + 1)) ⟨pl, pt, wi, lo + 1, dw, by_, opp ++ [ra], tie⟩ (fun i => by rcases i with _ | _ | _ | _ | _ | _ | _ | _ | i <;> rfl) rfl
                    exact P1
                  case measure => simp [intOf]; omega
          · have dbp2 : (rb != p) = true := by rw [bne, beq_eq_false_iff_ne.2 hbp]; rfl
            have HU := Lib.hid (show upd n p ⟨pl, pt, wi, lo, dw, by_, opp, tie⟩ ⟨ra, rb, wa, wb, dr⟩ = ⟨pl, pt, wi, lo, dw, by_, opp, tie⟩ by
              rw [upd, if_neg]
              rintro ⟨_, h | h⟩
              · exact hap h
              · exact hbp h)
            clear hap hbp hne hra
            go_wp2_with (go_at_call 38; rw [← HWX.out]; refine HCT.out.mono ?_; rintro e w2 ⟨rfl, b2⟩; have B2 := Lib.hid b2; have R2 := RX.out.keep (b2.block _ (by rw [HSZ.out]; omega)); obtain ⟨r0, r1, r2, r3⟩ := R2; clear b2)
            go_round
            case rel => exact ⟨k + 1, by omega, by go_num, s, by
              rw [HRT.out, HU.out]
              exact TX.out.step B2.out⟩
            case measure => simp [intOf]; omega
    · obtain rfl : k = l.length := by omega
      rw [List.take_length] at TT
      have zz := (TT.out.bel.block w.heap.size (by omega)).trans HZ0.out
      obtain ⟨x, hx⟩ : ∃ x, x = recs n l p := ⟨_, rfl⟩
      rw [← hx] at TT
      have HXX := Lib.hid hx
      clear hx
      obtain ⟨⟨d0, d1, d2, d3, d4, d5, d6, d7⟩, g0⟩ := int8 zz
      have g00 := g0 0
      have g01 := g0 1
      have g02 := g0 2
      have g03 := g0 3
      have g04 := g0 4
      have g05 := g0 5
      have g06 := g0 6
      have g07 := g0 7
      have KW := Lib.hid (store8 zz rfl (encT (x, s)) rfl)
      clear zz g0
      have z0 := TT.out.blk.cell 0 _ rfl 0 _ rfl
      have z1 := TT.out.blk.cell 0 _ rfl 1 _ rfl
      have z2 := TT.out.blk.cell 0 _ rfl 2 _ rfl
      have z3 := TT.out.blk.cell 0 _ rfl 3 _ rfl
      have z4 := TT.out.blk.cell 0 _ rfl 4 _ rfl
      have z5 := TT.out.blk.cell 0 _ rfl 5 _ rfl
      have z6 := TT.out.blk.cell 0 _ rfl 6 _ rfl
      have z7 := TT.out.blk.cell 0 _ rfl 7 _ rfl
      have fz0 := TT.out.blk.frozen 0
      have fz1 := TT.out.blk.frozen 1
      have fz2 := TT.out.blk.frozen 2
      have fz3 := TT.out.blk.frozen 3
      have fz4 := TT.out.blk.frozen 4
      have fz5 := TT.out.blk.frozen 5
      have fz6 := TT.out.blk.frozen 6
      have fz7 := TT.out.blk.frozen 7
      simp only [Nat.zero_mul, Nat.zero_add] at z0 z1 z2 z3 z4 z5 z6 z7
      go_wp2_with fail
      obtain ⟨W, hW⟩ : ∃ W, W = wr.setCells w.heap.size 0 (encT (x, s)) := ⟨_, rfl⟩
      rw [← hW] at KW
      have BW := Lib.hid (show Below w.heap.size w W by
        rw [hW]
        exact below_setCells _ (Nat.le_refl _) _ _ (HB0.out.trans (TT.out.bel.mono (Nat.le_succ _))))
      have OW := Lib.hid (show W.ownsRow (w.heap.size + 1 + 1) 3 1 (slv s) x.opp.length (x.opp.map (Value.int .i64)) from by
        have h0 := TT.out.own 0 _ rfl
        rw [hW]
        exact own_sets w.heap.size (own_ne h0 (by omega)) _ _ h0)
      change bodyPost _ _ _ _ _ (wr.setCells w.heap.size 0 (encT (x, s)))
      rw [← hW]
      have k0 := KW.out 0 (by omega)
      have k1 := KW.out 1 (by omega)
      have k2 := KW.out 2 (by omega)
      have k3 := KW.out 3 (by omega)
      have k4 := KW.out 4 (by omega)
      have k5 := KW.out 5 (by omega)
      have k6 := KW.out 6 (by omega)
      have k7 := KW.out 7 (by omega)
      simp only [encT, encS, List.getElem_cons_succ, List.getElem_cons_zero] at k0 k1 k2 k3 k4 k5 k6 k7
      refine bodyPost_ret (v := stV x (slv s)) (by simp [results, Try.results25, go_sem, k0, k1, k2, k3, k4, k5, k6, k7]) rfl ⟨s, by rw [HXX.out], by rw [← HXX.out]; exact OW.out, BW.out⟩
end Go.Proofs.Ytfjnnbhijajhoaa
