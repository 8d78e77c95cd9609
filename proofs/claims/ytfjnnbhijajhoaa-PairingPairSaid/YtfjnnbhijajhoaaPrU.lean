/- Chapter 56: the comparison of two standings. -/
import Derived.Test.YtfjnnbhijajhoaaPrT
namespace Go.Proofs.Ytfjnnbhijajhoaa
open Go Go.RowKit Go.Sort Go.Shelf Cg
theorem two_boxes (w : World) (x y : St) (u v : Value) (t : TypeId) : ∃ wx, wx = (w.alloc (.cells (encS (x, u)).toArray t)).alloc (.cells (encS (y, v)).toArray t) ∧ Below w.heap.size w wx ∧ wx.heap[w.heap.size]? = some (.cells (encS (x, u)).toArray t (0, 0)) ∧ wx.heap[w.heap.size + 1]? = some (.cells (encS (y, v)).toArray t (0, 0)) :=
  have p := push2 w.heap (.cells (encS (x, u)).toArray t) (.cells (encS (y, v)).toArray t)
  ⟨_, rfl, ((Below.refl w.heap.size w).alloc (Nat.le_refl _) _).alloc (by show w.heap.size ≤ (w.heap.push _).size; simp) _, p.1, p.2⟩
set_option maxRecDepth 100000 in
set_option maxHeartbeats 1600000 in
theorem standings_law (va vb : Value) (xs ys : List (St × Sl)) (w : World) (hx : Cg.RowK 8 encT w va xs) (hy : Cg.RowK 8 encT w vb ys) (ox : ∀ x ∈ xs, RowAt (Value.int .i64) w (slv x.2) x.1.opp) (oy : ∀ x ∈ ys, RowAt (Value.int .i64) w (slv x.2) x.1.opp) (he : xs.map (·.1) = ys.map (·.1)) (hn : xs.length ≤ 1000000) (ho : ∀ x ∈ xs, x.1.opp.length ≤ 1000000) :
    Calls Try.prog 11 #[va, vb] w fun e w' => e = .returned (.bool true) ∧ Below w.heap.size w w' := by
  have hl : ys.length = xs.length := by have := congrArg List.length he; rw [List.length_map, List.length_map] at this; exact this.symm
  obtain ⟨ao, cap, rfl, _, hx⟩ := hx
  obtain ⟨bo, cap2, rfl, _, hy⟩ := hy
  rw [hl]
  have HX := Lib.hid hx
  have HY := Lib.hid hy
  have OX := Lib.hid ox
  have OY := Lib.hid oy
  have HE := Lib.hid he
  have HO := Lib.hid ho
  have HLN := Lib.hid hl
  clear hx hy ox oy he ho hl
  have e0 : ((xs.length : Int) != (xs.length : Int)) = false := by simp
  go_enter Try.func11, Try.ntmps11
  go_wp2_with fail
  go_loopw [5] (fun i wr => ∃ k : Nat, k ≤ xs.length ∧ i = .int .i64 k ∧ Below w.heap.size w wr) (fun i _ => xs.length - (intOf i).toNat)
  case atStart => exact ⟨0, by omega, rfl, Below.refl _ _⟩
  case round =>
    obtain ⟨k, hk, rfl, bw⟩ := hrel
    have BW := Lib.hid bw
    clear bw
    by_cases hlt : k < xs.length
    · have hlt2 : k < ys.length := by rw [HLN.out]; exact hlt
      rcases HX.out with hh | ⟨g, o, rfl, hg, hcell⟩
      · rw [hh] at hlt; simp at hlt
      rcases HY.out with hh | ⟨g2, o2, rfl, hg2, hcell2⟩
      · rw [hh] at hlt2; simp at hlt2
      have hxy : ys[k].1 = xs[k].1 := by
        have := congrArg (·[k]?) HE.out
        simp only [List.getElem?_map, List.getElem?_eq_getElem hlt, List.getElem?_eq_getElem hlt2, Option.map_some] at this
        exact (Option.some.inj this).symm
      have hc := (fun (i : Nat) u (hu : (encT xs[k])[i]? = some u) => (BW.out.cell (p := ⟨g, o + k * 8 + i, none⟩) hg).trans (hcell k _ (List.getElem?_eq_getElem hlt) i u hu))
      have hd := (fun (i : Nat) u (hu : (encT ys[k])[i]? = some u) => (BW.out.cell (p := ⟨g2, o2 + k * 8 + i, none⟩) hg2).trans (hcell2 k _ (List.getElem?_eq_getElem hlt2) i u hu))
      obtain ⟨q0, q1, q2, q3, q4, q5, q6, q7⟩ : _ ∧ _ ∧ _ ∧ _ ∧ _ ∧ _ ∧ _ ∧ _ := ⟨hc 0 _ rfl, hc 1 _ rfl, hc 2 _ rfl, hc 3 _ rfl, hc 4 _ rfl, hc 5 _ rfl, hc 6 _ rfl, hc 7 _ rfl⟩
      obtain ⟨p0, p1, p2, p3, p4, p5, p6, p7⟩ : _ ∧ _ ∧ _ ∧ _ ∧ _ ∧ _ ∧ _ ∧ _ := ⟨hd 0 _ rfl, hd 1 _ rfl, hd 2 _ rfl, hd 3 _ rfl, hd 4 _ rfl, hd 5 _ rfl, hd 6 _ rfl, hd 7 _ rfl⟩
      have O1 := Lib.hid ((OX.out _ (List.getElem_mem hlt)).below BW.out)
      have O2 := Lib.hid ((OY.out _ (List.getElem_mem hlt2)).below BW.out)
      have OL := Lib.hid (HO.out _ (List.getElem_mem hlt))
      rw [hxy] at p0 p1 p2 p3 p4 p5 p7 O2
      obtain ⟨u, hu⟩ : ∃ u, u = slv xs[k].2 := ⟨_, rfl⟩
      obtain ⟨v, hv⟩ : ∃ v, v = slv ys[k].2 := ⟨_, rfl⟩
      obtain ⟨r, hr⟩ : ∃ r, r = xs[k].1 := ⟨_, rfl⟩
      rw [← hr] at q0 q1 q2 q3 q4 q5 q7 p0 p1 p2 p3 p4 p5 p7 O1 O2 OL
      rw [← hu] at q6 O1
      rw [← hv] at p6 O2
      obtain ⟨ua, uc, rfl⟩ := O1.out.form
      obtain ⟨va, vc, rfl⟩ := O2.out.form
      obtain ⟨pl, pt, wi, lo, dw, by_, opp, tie⟩ := r
      simp only at q0 q1 q2 q3 q4 q5 q6 q7 p0 p1 p2 p3 p4 p5 p6 p7 O1 O2 OL
      rw [Nat.add_zero] at q0 p0
      have n0 : (pl != pl) = false := by simp
      have n1 : (pt != pt) = false := by simp
      have n2 : (wi != wi) = false := by simp
      have n3 : (lo != lo) = false := by simp
      have n4 : (dw != dw) = false := by simp
      have n5 : (by_ != by_) = false := by simp
      have n7 : (tie != tie) = false := by simp
      obtain ⟨WA, hWA, bA, a1, a2⟩ := two_boxes wr ⟨pl, pt, wi, lo, dw, by_, opp, tie⟩ ⟨pl, pt, wi, lo, dw, by_, opp, tie⟩ (.slice ua opp.length uc) (.slice va opp.length vc) 35
      obtain ⟨WB, hWB, bB, b1, b2⟩ := two_boxes wr ⟨pl, pt, wi, lo, dw, by_, opp, tie⟩ ⟨pl, pt, wi, lo, dw, by_, opp, tie⟩ (.slice va opp.length vc) (.slice ua opp.length uc) 35
      have BA := Lib.hid (show Below wr.heap.size wr WA.drew from bA.drew)
      have BB := Lib.hid (show Below wr.heap.size wr WB.drew from bB.drew)
      have CA := Lib.hid (And.intro (int8 a1).1 (int8 a2).1)
      have CB := Lib.hid (And.intro (int8 b1).1 (int8 b2).1)
      subst hWA hWB
      clear hcell hcell2 hc hd hu hv hr hxy bA bB a1 a2 b1 b2
      have hg' : g < wr.heap.size := Nat.lt_of_lt_of_le hg BW.out.size
      have hg2' : g2 < wr.heap.size := Nat.lt_of_lt_of_le hg2 BW.out.size
      go_wp2_with fail
      go_region
      · obtain ⟨⟨a0, a1, a2, a3, a4, a5, a6, a7⟩, ⟨b0, b1, b2, b3, b4, b5, b6, b7⟩⟩ := CA.out
        clear q0 q1 q2 q3 q4 q5 q6 q7 p0 p1 p2 p3 p4 p5 p6 p7
        go_wp2_with (go_at_call 19; refine (same_b _ _ opp opp _ (O1.out.below BA.out) (O2.out.below BA.out) OL.out).mono ?_; rintro e w3 ⟨rfl, b9⟩; rw [show decide (opp = opp) = true from decide_eq_true rfl]; have B9 := Lib.hid (BW.out.trans ((BA.out.trans (b9.mono BA.out.size)).mono BW.out.size)); clear b9)
        go_round
        case rel => exact ⟨k + 1, by omega, by go_num, B9.out⟩
        case measure => simp [intOf]; omega
      · obtain ⟨⟨a0, a1, a2, a3, a4, a5, a6, a7⟩, ⟨b0, b1, b2, b3, b4, b5, b6, b7⟩⟩ := CB.out
        clear q0 q1 q2 q3 q4 q5 q6 q7 p0 p1 p2 p3 p4 p5 p6 p7
        go_wp2_with (go_at_call 19; refine (same_b _ _ opp opp _ (O1.out.below BB.out) (O2.out.below BB.out) OL.out).mono ?_; rintro e w3 ⟨rfl, b9⟩; rw [show decide (opp = opp) = true from decide_eq_true rfl]; have B9 := Lib.hid (BW.out.trans ((BB.out.trans (b9.mono BB.out.size)).mono BW.out.size)); clear b9)
        go_round
        case rel => exact ⟨k + 1, by omega, by go_num, B9.out⟩
        case measure => simp [intOf]; omega
    · obtain rfl : k = xs.length := by omega
      go_wp2_with fail
      go_ret
      exact ⟨rfl, BW.out⟩
theorem clamp_nat (n : Int) : ∃ N : Nat, clampI n = N ∧ N ≤ 256 ∧ (n ≤ 256 → 0 ≤ n → (N : Int) = n) ∧ (n < 0 → N = 0) := by
  unfold clampI
  split
  · exact ⟨0, rfl, by omega, fun _ h => by omega, fun _ => rfl⟩
  · split
    · exact ⟨256, rfl, by omega, fun h _ => by omega, fun h => by omega⟩
    · exact ⟨n.toNat, by omega, by omega, fun _ _ => by omega, fun h => by omega⟩
theorem opp_few {N : Nat} {l : List Rs} {rows : List (St × Sl)} (hp : (rows.map (·.1)).Perm ((List.range N).map fun (p : Nat) => recT N l p)) : ∀ x ∈ rows, x.1.opp.length ≤ l.length := fun x hx => by
  have := hp.subset (List.mem_map.2 ⟨x, hx, rfl⟩)
  obtain ⟨p, _, hp2⟩ := List.mem_map.1 this
  rw [← hp2]
  exact (recs_ok N p l).opl
set_option maxHeartbeats 4000000 in
theorem law_pairingStandings (n : Int) (v : Value) (l : List Rs) (w : World) (h : Cg.RowK 5 encR w v l) : Calls Try.prog 3 #[.int .i64 n, v] w fun e w' => e = .returned (.bool true) ∧ Below w.heap.size w w' := by
  have HF := Lib.hid (few_law n v l w h)
  have HL := Lib.hid h
  obtain ⟨ao, cap, rfl⟩ := h.form
  clear h
  cases hd : (decide (n ≤ 40) && decide ((l.length : Int) ≤ 150))
  · have d2 := Lib.hid hd
    clear hd
    go_enter Try.func3, Try.ntmps3
    go_wp2_with fail
    refine HF.out.mono ?_
    rintro e w1 ⟨rfl, rfl⟩
    rw [d2.out]
    go_wp2_with fail
    refine (alive56 w1 w1 (Below.refl _ _)).mono ?_
    rintro e w6 ⟨rfl, b6⟩
    go_wp2_with fail
    go_ret
    exact ⟨rfl, b6⟩
  · have d2 := Lib.hid hd
    rw [Bool.and_eq_true, decide_eq_true_eq, decide_eq_true_eq] at hd
    have HN := Lib.hid (show n ≤ 256 ∧ l.length ≤ 1000 by omega)
    clear hd
    obtain ⟨N, hN, hN2, _, _⟩ := clamp_nat n
    have HC := Lib.hid hN
    go_enter Try.func3, Try.ntmps3
    go_wp2_with fail
    refine HF.out.mono ?_
    rintro e w1 ⟨rfl, rfl⟩
    rw [d2.out]
    go_wp2_with fail
    refine (standings_prog n N _ l w1 HL.out HN.out.2 HC.out HN.out.1).mono ?_
    rintro e w2 ⟨g, rows, rfl, hlen, st⟩
    have ST := Lib.hid st
    have LEN := Lib.hid hlen
    clear st hlen
    go_wp2_with fail
    refine (standings_ref n N _ l w2 (HL.out.below ST.out.bel) HN.out.2 HC.out hN2).mono ?_
    rintro e w3 ⟨v3, rows3, rfl, r3, o3, b3, p3, s3⟩
    have R3 := Lib.hid r3
    have O3 := Lib.hid o3
    have B3 := Lib.hid b3
    have HE := Lib.hid (st_uniq ST.out.perm (srt_of ST.out.srt) p3 s3)
    have K2 := Lib.hid (show Cg.RowK 8 encT w3 (.slice (some ⟨g, 0, none⟩) N N) rows by
      have := (ST.out.blk.same (B3.out.block g ST.out.blk.lt)).row N (Nat.le_of_eq LEN.out)
      rwa [LEN.out] at this)
    have BW := Lib.hid (ST.out.bel.trans (B3.out.mono ST.out.bel.size))
    clear r3 o3 b3 p3 s3
    obtain ⟨a3, c3, rfl⟩ := R3.out.form
    go_wp2_with fail
    refine (standings_law _ _ rows rows3 w3 K2.out R3.out (fun x hx => (ST.out.opp x hx).below B3.out) O3.out HE.out (by rw [LEN.out]; omega) (fun x hx => by have := opp_few ST.out.perm x hx; have := HN.out.2; omega)).mono ?_
    rintro e w4 ⟨rfl, b4⟩
    have BW := Lib.hid (BW.out.trans (b4.mono BW.out.size))
    clear b4
    go_wp2_with fail
    refine (alive56 w1 w4 BW.out).mono ?_
    rintro e w6 ⟨rfl, b6⟩
    go_wp2_with fail
    go_ret
    exact ⟨rfl, b6⟩
end Go.Proofs.Ytfjnnbhijajhoaa
