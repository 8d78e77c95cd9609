/- Chapter 56: the law of the totals. -/
import Derived.Test.YtfjnnbhijajhoaaPrU
import Derived.Test.YtfjnnbhijajhoaaPrVp
namespace Go.Proofs.Ytfjnnbhijajhoaa
open Go Go.RowKit Go.Sort Go.Shelf Cg
theorem fits_of {N : Nat} {l : List Rs} {rows : List (St × Sl)} (hp : (rows.map (·.1)).Perm ((List.range N).map fun (p : Nat) => recT N l p)) : ∀ x ∈ rows, Fits x.1 ∧ StOk N l.length x.1.pl { x.1 with tie := 0 } := fun x hx => by
  have := hp.subset (List.mem_map.2 ⟨x, hx, rfl⟩)
  obtain ⟨p, _, hp2⟩ := List.mem_map.1 this
  have hk := recs_ok N p l
  rw [← hp2]
  refine ⟨recs_fits N l p, ?_⟩
  have ht := hk.tie
  have e : { recT N l p with tie := 0 } = recs N l p := by
    unfold recT
    rw [← ht]
  rw [e, recT_pl]
  exact hk
theorem pts_all {N : Nat} {l : List Rs} {rows : List (St × Sl)} (hp : (rows.map (·.1)).Perm ((List.range N).map fun (p : Nat) => recT N l p)) : sumL (rows.map (·.1.pt)) = tot N l := by
  have h := sumL_perm (hp.map (·.pt))
  rw [List.map_map, List.map_map] at h
  rw [← recs_sum, ← sumTo_range]
  exact h
theorem cnts_clamp (n : Int) (N : Nat) (h1 : 0 ≤ n → (N : Int) = n) (h2 : n < 0 → N = 0) (r : Rs) : cnts n r = cnts N r := by
  by_cases h : 0 ≤ n
  · rw [h1 h]
  · have e := h2 (by omega)
    subst e
    have a1 : cnts n r = false := by
      cases hc : cnts n r with
      | false => rfl
      | true => have := (cnts_iff n r).1 hc; omega
    have a2 : cnts (0 : Nat) r = false := by
      cases hc : cnts (0 : Nat) r with
      | false => rfl
      | true => have := (cnts_iff _ r).1 hc; omega
    rw [a1, a2]
theorem gain_clamp (n : Int) (N : Nat) (h1 : 0 ≤ n → (N : Int) = n) (h2 : n < 0 → N = 0) (r : Rs) : gainAll n r = gainAll N r := by
  unfold gainAll
  rw [cnts_clamp n N h1 h2]
set_option maxRecDepth 100000 in
set_option maxHeartbeats 8000000 in
theorem law_pairingTotals (n : Int) (v : Value) (l : List Rs) (w : World) (h : Cg.RowK 5 encR w v l) : Calls Try.prog 7 #[.int .i64 n, v] w fun e w' => e = .returned (.bool true) ∧ Below w.heap.size w w' := by
  have HF := Lib.hid (few_law n v l w h)
  have HL := Lib.hid h
  obtain ⟨ao, cap, rfl⟩ := h.form
  clear h
  cases hd : (decide (n ≤ 40) && decide ((l.length : Int) ≤ 150))
  · have d2 := Lib.hid hd
    clear hd
    go_enter Try.func7, Try.ntmps7
    go_wp2_with fail
    refine HF.out.mono ?_
    rintro e w1 ⟨rfl, rfl⟩
    rw [d2.out]
    go_wp2_with fail
    refine (alive56 w1 w1 (Below.refl _ _)).mono ?_
    rintro e w6 ⟨rfl, b6⟩
    go_wp2_with fail
    go_ret
    exact ⟨rfl, b6⟩
  · have d2 := Lib.hid hd
    rw [Bool.and_eq_true, decide_eq_true_eq, decide_eq_true_eq] at hd
    have hn40 := hd.1
    have hl150 : l.length ≤ 150 := by omega
    clear hd
    obtain ⟨N, hN, hN2, hN3, hN4⟩ := clamp_nat n
    have HC := Lib.hid hN
    have hN40 : N ≤ 40 := by
      by_cases h0 : 0 ≤ n
      · have := hN3 (by omega) h0; omega
      · have := hN4 (by omega); omega
    have GC := Lib.hid (gain_clamp n N (fun h0 => hN3 (by omega) h0) hN4)
    clear hN hN3 hN4 hN2
    go_enter Try.func7, Try.ntmps7
    go_wp2_with fail
    refine HF.out.mono ?_
    rintro e w1 ⟨rfl, rfl⟩
    rw [d2.out]
    go_wp2_with fail
    refine (standings_prog n N _ l w1 HL.out (by omega) HC.out (by omega)).mono ?_
    rintro e w2 ⟨g, rows, rfl, hlen, st⟩
    have ST := Lib.hid st
    have LEN := Lib.hid hlen
    have FT := Lib.hid (fits_of st.perm)
    have PA := Lib.hid (pts_all st.perm)
    have SR := Lib.hid st.srt
    clear st hlen
    go_wp2_with fail
    go_loopw [6, 8] (fun pts i wr => ∃ k : Nat, k ≤ N ∧ i = .int .i64 k ∧ pts = .int .i64 (sumL ((rows.map (·.1.pt)).take k)) ∧ Below w2.heap.size w2 wr) (fun _ i _ => N - (intOf i).toNat)
    case atStart => exact ⟨0, by omega, rfl, rfl, Below.refl _ _⟩
    case round =>
      obtain ⟨k, hk, rfl, rfl, bw⟩ := hrel
      have BW := Lib.hid bw
      clear bw
      have hpl : (rows.map (·.1.pt)).length = N := by rw [List.length_map, LEN.out]
      have hsb : 0 ≤ sumL ((rows.map (·.1.pt)).take k) ∧ sumL ((rows.map (·.1.pt)).take k) ≤ 450 * k := by
        have := sumL_bound 450 ((rows.map (·.1.pt)).take k) (fun x hx => by
          obtain ⟨y, hy, rfl⟩ := List.mem_map.1 (List.mem_of_mem_take hx)
          have := (FT.out y hy).2.pt
          have : y.1.pt ≤ 3 * (l.length : Int) := this.2
          have h0 := (FT.out y hy).2.pt.1
          exact ⟨h0, by omega⟩)
        rwa [List.length_take, hpl, Nat.min_eq_left hk] at this
      have HPL := Lib.hid hpl
      by_cases hlt : k < N
      · have hkr : k < rows.length := by rw [LEN.out]; exact hlt
        have HNX := Lib.hid (sumL_take (rows.map (·.1.pt)) k (by rw [hpl]; exact hlt))
        rw [List.getElem_map] at HNX
        obtain ⟨ps, hps⟩ : ∃ ps, ps = sumL ((rows.map (·.1.pt)).take k) := ⟨_, rfl⟩
        rw [← hps] at hsb HNX
        rw [← hps]
        have FK := Lib.hid (FT.out _ (List.getElem_mem hkr))
        have KB := Lib.hid (ST.out.blk.same (BW.out.block g ST.out.blk.lt))
        have hc := (fun (i : Nat) u (hu : (encT rows[k])[i]? = some u) => KB.out.cell k _ (List.getElem?_eq_getElem hkr) i u hu)
        obtain ⟨q0, q1, q2, q3, q4, q5, q6, q7⟩ : _ ∧ _ ∧ _ ∧ _ ∧ _ ∧ _ ∧ _ ∧ _ := ⟨hc 0 _ rfl, hc 1 _ rfl, hc 2 _ rfl, hc 3 _ rfl, hc 4 _ rfl, hc 5 _ rfl, hc 6 _ rfl, hc 7 _ rfl⟩
        have O1 := Lib.hid ((ST.out.opp _ (List.getElem_mem hkr)).below BW.out)
        obtain ⟨u, hu⟩ : ∃ u, u = slv rows[k].2 := ⟨_, rfl⟩
        obtain ⟨r, hr⟩ : ∃ r, r = rows[k].1 := ⟨_, rfl⟩
        rw [← hr] at q0 q1 q2 q3 q4 q5 q7 O1 HNX FK
        rw [← hu] at q6 O1
        have HR := Lib.hid hr
        obtain ⟨ua, uc, rfl⟩ := O1.out.form
        obtain ⟨pl, pt, wi, lo, dw, by_, opp, tie⟩ := r
        simp only at q0 q1 q2 q3 q4 q5 q6 q7 HNX FK
        rw [Nat.add_zero] at q0
        have n1 : (pt != 3 * wi + dw + 3 * by_) = false := by
          have := FK.out.1.1
          simp only at this
          rw [this]; simp
        have n2 : ((opp.length : Int) != wi + lo + dw) = false := by
          have := FK.out.1.2
          simp only at this
          rw [this]; simp
        have z1 : 0 ≤ wi ∧ wi ≤ 150 := by have := FK.out.2.wi; simp only at this; omega
        have z2 : 0 ≤ lo ∧ lo ≤ 150 := by have := FK.out.2.lo; simp only at this; omega
        have z3 : 0 ≤ dw ∧ dw ≤ 150 := by have := FK.out.2.dw; simp only at this; omega
        have z4 : 0 ≤ by_ ∧ by_ ≤ 150 := by have := FK.out.2.by_; simp only at this; omega
        have z5 : 0 ≤ pt ∧ pt ≤ 450 := by have := FK.out.2.pt; simp only at this; omega
        obtain ⟨wx, hwx⟩ : ∃ wx, wx = wr.alloc (.cells #[.int .i64 pl, .int .i64 pt, .int .i64 wi, .int .i64 lo, .int .i64 dw, .int .i64 by_, .slice ua opp.length uc, .int .i64 tie] 35) := ⟨_, rfl⟩
        have bx : Below wr.heap.size wr wx := by rw [hwx]; exact (Below.refl wr.heap.size wr).alloc (Nat.le_refl _) _
        obtain ⟨a0, a1, a2, a3, a4, a5, a6, a7⟩ := (int8 (show wx.heap[wr.heap.size]? = _ by rw [hwx]; exact heap_alloc_new wr _)).1
        have BX := Lib.hid bx
        have hgw : g < wr.heap.size := KB.out.lt
        have BQ := Lib.hid (fun q => (BW.out.trans (bx.mono BW.out.size)).trans ((drewN_grow wx q).mono (Nat.le_trans BW.out.size bx.size)))
        rw [hwx] at BQ
        cases k with
        | zero =>
          rw [hwx] at a0 a1 a2 a3 a4 a5 a6 a7
          have HX := Lib.hid hwx
          clear hc hu hr hpl hps bx hwx
          go_wp2_with fail
          go_quiet (fail)
          go_wp2_with fail
          go_round
          case rel => exact ⟨1, by omega, by go_num, by rw [HNX.out], BQ.out _⟩
          case measure => simp [intOf]; omega
        | succ j =>
          have hjr : j < rows.length := by omega
          have hd1 := (BX.out.cell (p := ⟨g, j * 8 + 1, none⟩) hgw).trans (KB.out.cell j _ (List.getElem?_eq_getElem hjr) 1 _ rfl)
          have hd7 := (BX.out.cell (p := ⟨g, j * 8 + 7, none⟩) hgw).trans (KB.out.cell j _ (List.getElem?_eq_getElem hjr) 7 _ rfl)
          have hbt := SR.out j (j + 1) hjr hkr (by omega)
          rw [← hr, better_not] at hbt
          obtain ⟨p1, hp1⟩ : ∃ z, z = rows[j].1.pt := ⟨_, rfl⟩
          obtain ⟨p7, hp7⟩ : ∃ z, z = rows[j].1.tie := ⟨_, rfl⟩
          rw [← hp1, ← hp7] at hbt
          simp only at hbt
          rw [← hp1] at hd1
          rw [← hp7] at hd7
          have m1 : decide (p1 < pt) = false := decide_eq_false (by omega)
          have HBT := Lib.hid hbt
          rw [hwx] at a0 a1 a2 a3 a4 a5 a6 a7 hd1 hd7
          have HX := Lib.hid hwx
          clear hc hu hr hpl hps bx hwx hbt hp1 hp7
          cases m2 : (p1 == pt)
          · go_wp2_with fail
            go_quiet (fail)
            go_wp2_with fail
            go_round
            case rel => exact ⟨j + 2, by omega, by go_num, by rw [HNX.out], BQ.out _⟩
            case measure => simp [intOf]; omega
          · have m3 : decide (p7 < tie) = false := decide_eq_false (by have := beq_iff_eq.1 m2; have := HBT.out; omega)
            go_wp2_with fail
            go_quiet (fail)
            go_wp2_with fail
            go_round
            case rel => exact ⟨j + 2, by omega, by go_num, by rw [HNX.out], BQ.out _⟩
            case measure => simp [intOf]; omega
      · obtain rfl : k = N := by omega
        have HP := Lib.hid (show sumL ((rows.map (·.1.pt)).take k) = tot n l by
          rw [List.take_of_length_le (Nat.le_of_eq HPL.out), PA.out]
          unfold tot
          congr 1
          exact List.map_congr_left fun r _ => (GC.out r).symm)
        rw [HP.out]
        have BW1 := Lib.hid (ST.out.bel.trans (BW.out.mono ST.out.bel.size))
        obtain ⟨tt, htt⟩ : ∃ tt, tt = tot n l := ⟨_, rfl⟩
        rw [← htt]
        have HTT := Lib.hid htt
        obtain ⟨wo, rfl⟩ : ∃ wo, wo = wr := ⟨_, rfl⟩
        clear htt hsb hpl
        go_wp2_with fail
        go_loopw [7, 10] (fun tv i w3 => ∃ m : Nat, m ≤ l.length ∧ i = .int .i64 m ∧ tv = .int .i64 (tot n (l.take m)) ∧ Below w1.heap.size w1 w3) (fun _ i _ => l.length - (intOf i).toNat)
        case atStart => exact ⟨0, by omega, rfl, rfl, BW1.out⟩
        case round =>
          obtain ⟨m, hm, rfl, rfl, bw⟩ := hrel
          have B3 := Lib.hid bw
          have hsb : 0 ≤ tot n (l.take m) ∧ tot n (l.take m) ≤ 3 * m := by
            have := sumL_bound 3 ((l.take m).map (gainAll n)) (fun x hx => by
              obtain ⟨y, _, rfl⟩ := List.mem_map.1 hx
              exact gainAll_bound n y)
            rwa [List.length_map, List.length_take, Nat.min_eq_left hm] at this
          clear bw
          by_cases hlt : m < l.length
          · rcases (HL.out.below B3.out) with ⟨ao2, cap2, hv, _, hx⟩
            cases hv
            rcases hx with hh | ⟨g2, o2, rfl, hg2, hcell⟩
            · rw [hh] at hlt; simp at hlt
            have HNX := Lib.hid (show tot n (l.take (m + 1)) = tot n (l.take m) + gainAll n l[m] by
              unfold tot
              rw [List.map_take, List.map_take, sumL_take _ m (by rw [List.length_map]; exact hlt), List.getElem_map])
            obtain ⟨q0, q1, q2, q3, q4⟩ := five_at hcell hlt
            obtain ⟨tv, htv⟩ : ∃ tv, tv = tot n (l.take m) := ⟨_, rfl⟩
            rw [← htv] at hsb HNX
            rw [← htv]
            obtain ⟨r, hr⟩ : ∃ r, r = l[m] := ⟨_, rfl⟩
            rw [← hr] at q0 q1 q2 q3 q4 HNX
            obtain ⟨ra, rb, wa, wb, dr⟩ := r
            simp only at q0 q1 q2 q3 q4
            obtain ⟨wx, hwx, bx, a0, a1, a2, a3, a4⟩ := five_new wr (.int .i64 ra) (.int .i64 rb) (.int .i64 wa) (.int .i64 wb) (.int .i64 dr) 31
            have BX := Lib.hid (B3.out.trans (bx.mono B3.out.size))
            subst hwx
            have HG := Lib.hid (show gainAll n ⟨ra, rb, wa, wb, dr⟩ = if cnts n ⟨ra, rb, wa, wb, dr⟩ = true then (if rb = -1 then 3 else if wa = wb then 2 else 3) else 0 from rfl)
            have HI := Lib.hid (cnts_iff n ⟨ra, rb, wa, wb, dr⟩)
            clear hcell hr htv bx
            cases hc : cnts n ⟨ra, rb, wa, wb, dr⟩
            · have HG0 := Lib.hid (show gainAll n ⟨ra, rb, wa, wb, dr⟩ = 0 by rw [HG.out, hc]; rfl)
              have HNC := Lib.hid (show ¬ (0 ≤ ra ∧ ra < n ∧ -1 ≤ rb ∧ rb < n ∧ ra ≠ rb) from fun h => by have := HI.out.2 h; rw [hc] at this; cases this)
              clear hc
              by_cases t1 : ra < 0
              · have f1 : decide (ra < 0) = true := decide_eq_true t1
                go_wp2_with fail
                go_round
                case rel => exact ⟨m + 1, by omega, by go_num, by rw [HNX.out, HG0.out] <;> (first | rfl | (congr 1; omega)), BX.out⟩
                case measure => simp [intOf]; omega
              · have f1 : decide (ra < 0) = false := decide_eq_false t1
                by_cases t2 : n ≤ ra
                · have f2 : decide (n ≤ ra) = true := decide_eq_true t2
                  go_wp2_with fail
                  go_round
                  case rel => exact ⟨m + 1, by omega, by go_num, by rw [HNX.out, HG0.out] <;> (first | rfl | (congr 1; omega)), BX.out⟩
                  case measure => simp [intOf]; omega
                · have f2 : decide (n ≤ ra) = false := decide_eq_false t2
                  by_cases t3 : rb < -1
                  · have f3 : decide (rb < -1) = true := decide_eq_true t3
                    go_wp2_with fail
                    go_round
                    case rel => exact ⟨m + 1, by omega, by go_num, by rw [HNX.out, HG0.out] <;> (first | rfl | (congr 1; omega)), BX.out⟩
                    case measure => simp [intOf]; omega
                  · have f3 : decide (rb < -1) = false := decide_eq_false t3
                    by_cases t4 : n ≤ rb
                    · have f4 : decide (n ≤ rb) = true := decide_eq_true t4
                      go_wp2_with fail
                      go_round
                      case rel => exact ⟨m + 1, by omega, by go_num, by rw [HNX.out, HG0.out] <;> (first | rfl | (congr 1; omega)), BX.out⟩
                      case measure => simp [intOf]; omega
                    · have f4 : decide (n ≤ rb) = false := decide_eq_false t4
                      by_cases t5 : ra = rb
                      · have f5 : (ra == rb) = true := beq_iff_eq.2 t5
                        clear t5
                        go_wp2_with fail
                        go_round
                        case rel => exact ⟨m + 1, by omega, by go_num, by rw [HNX.out, HG0.out] <;> (first | rfl | (congr 1; omega)), BX.out⟩
                        case measure => simp [intOf]; omega
                      · exact absurd ⟨by omega, by omega, by omega, by omega, t5⟩ HNC.out
            · obtain ⟨t1, t2, t3, t4, t5⟩ := HI.out.1 hc
              simp only at t1 t2 t3 t4 t5
              have f1 : decide (ra < 0) = false := decide_eq_false (by omega)
              have f2 : decide (n ≤ ra) = false := decide_eq_false (by omega)
              have f3 : decide (rb < -1) = false := decide_eq_false (by omega)
              have f4 : decide (n ≤ rb) = false := decide_eq_false (by omega)
              have f5 : (ra == rb) = false := beq_eq_false_iff_ne.2 t5
              by_cases t6 : rb = -1
              · have HG0 := Lib.hid (show gainAll n ⟨ra, rb, wa, wb, dr⟩ = 3 by rw [HG.out, if_pos hc, if_pos t6])
                have f6 : (rb != -1) = false := by rw [t6]; rfl
                clear t6
                go_wp2_with fail
                go_round
                case rel => exact ⟨m + 1, by omega, by go_num, by rw [HNX.out, HG0.out] <;> (first | rfl | (congr 1; omega)), BX.out⟩
                case measure => simp [intOf]; omega
              · have f6 : (rb != -1) = true := bne_iff_ne.2 t6
                by_cases t7 : wa = wb
                · have HG0 := Lib.hid (show gainAll n ⟨ra, rb, wa, wb, dr⟩ = 2 by rw [HG.out, if_pos hc, if_neg t6, if_pos t7])
                  have f7 : (wa == wb) = true := beq_iff_eq.2 t7
                  clear t7
                  go_wp2_with fail
                  go_round
                  case rel => exact ⟨m + 1, by omega, by go_num, by rw [HNX.out, HG0.out] <;> (first | rfl | (congr 1; omega)), BX.out⟩
                  case measure => simp [intOf]; omega
                · have HG0 := Lib.hid (show gainAll n ⟨ra, rb, wa, wb, dr⟩ = 3 by rw [HG.out, if_pos hc, if_neg t6, if_neg t7])
                  have f7 : (wa == wb) = false := beq_eq_false_iff_ne.2 t7
                  go_wp2_with fail
                  go_round
                  case rel => exact ⟨m + 1, by omega, by go_num, by rw [HNX.out, HG0.out] <;> (first | rfl | (congr 1; omega)), BX.out⟩
                  case measure => simp [intOf]; omega
          · obtain rfl : m = l.length := by omega
            rw [List.take_length]
            rw [List.take_length] at hsb
            rw [← HTT.out]
            have ee : (tt == tt) = true := beq_self_eq_true tt
            go_wp2_with fail
            refine (alive56 w1 wr B3.out).mono ?_
            rintro e w6 ⟨rfl, b6⟩
            go_wp2_with fail
            go_ret
            exact ⟨rfl, b6⟩
end Go.Proofs.Ytfjnnbhijajhoaa
