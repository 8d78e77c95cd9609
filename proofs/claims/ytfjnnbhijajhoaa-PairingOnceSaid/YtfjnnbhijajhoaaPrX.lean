/- Chapter 56: the law that everybody stands in one pair. -/
import Derived.Test.YtfjnnbhijajhoaaPrU
import Derived.Test.YtfjnnbhijajhoaaPrXp
namespace Go.Proofs.Ytfjnnbhijajhoaa
open Go Go.RowKit Go.Sort Go.Shelf Cg
set_option maxRecDepth 100000 in
set_option maxHeartbeats 8000000 in
theorem law_pairingOnce (n : Int) (v : Value) (l : List Rs) (w : World) (h : Cg.RowK 5 encR w v l) : Calls Try.prog 6 #[.int .i64 n, v] w fun e w' => e = .returned (.bool true) ∧ Below w.heap.size w w' := by
  have HF := Lib.hid (few_law n v l w h)
  have HL := Lib.hid h
  obtain ⟨ao, cap, rfl⟩ := h.form
  clear h
  cases hd : (decide (n ≤ 40) && decide ((l.length : Int) ≤ 150))
  · have d2 := Lib.hid hd
    clear hd
    go_enter Try.func6, Try.ntmps6
    go_wp2_with fail
    refine HF.out.mono ?_
    rintro e w1 ⟨rfl, rfl⟩
    rw [d2.out]
    go_wp2_with fail
    refine (alive56 w1 w1 (Below.refl _ _)).mono ?_
    rintro e w6 ⟨rfl, b6⟩
    go_wp2_with fail
    go_ret
    exact ⟨rfl, b6⟩
  · have d2 := Lib.hid hd
    rw [Bool.and_eq_true, decide_eq_true_eq, decide_eq_true_eq] at hd
    have hn40 := hd.1
    have hl150 : l.length ≤ 150 := by omega
    clear hd
    obtain ⟨N, hN, hN2, hN3, hN4⟩ := clamp_nat n
    have HC := Lib.hid hN
    have hNm : max 0 n = (N : Int) := by
      by_cases h0 : 0 ≤ n
      · have := hN3 (by omega) h0; omega
      · have := hN4 (by omega); omega
    have HNN := Lib.hid (show ∀ k : Nat, k < N → (N : Int) = n from fun k hk => by
      by_cases h0 : 0 ≤ n
      · exact hN3 (by omega) h0
      · have := hN4 (by omega); omega)
    have hN40 : N ≤ 40 := by omega
    clear hN hN3 hN4 hN2
    go_enter Try.func6, Try.ntmps6
    go_wp2_with fail
    refine HF.out.mono ?_
    rintro e w1 ⟨rfl, rfl⟩
    rw [d2.out]
    go_wp2_with fail
    refine (pair_prog n N _ l w1 HL.out (by omega) HC.out (by omega)).mono ?_
    rintro e w2 ⟨v2, s, rfl, r2, b2, p2, t2⟩
    have OK := Lib.hid (once_ok p2)
    have hps : (pairOut l s).length ≤ 41 := by
      have := pairOut_len l s
      have h2 : s.length = N := by have := p2.length_eq; simpa using this
      omega
    obtain ⟨ps, hpe⟩ : ∃ ps, ps = pairOut l s := ⟨_, rfl⟩
    rw [← hpe] at r2 OK hps
    have B2 := Lib.hid b2
    have hsl := seen_len ps
    have HSL := Lib.hid (show (seenOf ps).length = N by have := OK.out.perm.length_eq; simpa using this)
    obtain ⟨vo, vc, rfl, _, hx⟩ := r2
    have HX := Lib.hid hx
    clear b2 p2 t2 hpe hx
    go_wp2_with fail
    go_loopw [6, 7] (fun sv i wr => ∃ k : Nat, k ≤ ps.length ∧ i = .int .i64 k ∧ wr.ownsRow w2.heap.size 3 1 sv (seenOf (ps.take k)).length ((seenOf (ps.take k)).map (Value.int .i64)) ∧ Below w2.heap.size w2 wr) (fun _ i _ => ps.length - (intOf i).toNat)
    case atStart => exact ⟨0, by omega, rfl, World.ownsRow_nil _ _ _ _, Below.refl _ _⟩
    case round =>
      obtain ⟨k, hk, rfl, hown, bw⟩ := hrel
      have OW := Lib.hid hown
      have BW := Lib.hid bw
      clear hown bw
      by_cases hlt : k < ps.length
      · have hsk := seen_len (ps.take k)
        rw [List.length_take] at hsk
        have HST := Lib.hid (seenOf_take ps k hlt)
        rcases HX.out with hh | ⟨g, o, rfl, hg, hcell⟩
        · rw [hh] at hlt; simp at hlt
        have ca := (BW.out.cell (p := ⟨g, o + k * 5, none⟩) hg).trans (hcell k _ (List.getElem?_eq_getElem hlt) 0 _ rfl)
        have cb := (BW.out.cell (p := ⟨g, o + k * 5 + 1, none⟩) hg).trans (hcell k _ (List.getElem?_eq_getElem hlt) 1 _ rfl)
        have LK := Lib.hid (OK.out.last k hlt)
        obtain ⟨r, hr⟩ : ∃ r, r = ps[k] := ⟨_, rfl⟩
        rw [← hr] at ca cb LK HST
        obtain ⟨a, b, wa, wb, dr⟩ := r
        simp only at ca cb LK
        obtain ⟨sl, hslk⟩ : ∃ sl, sl = seenOf (ps.take k) := ⟨_, rfl⟩
        rw [← hslk] at hsk HST OW
        have CB := Lib.hid cb
        have HG := Lib.hid hg
        clear hr hcell hslk hg cb
        cases hb : (b != -1)
        · have hb1 : b = -1 := by
            have := hb
            simpa using this
          have LL := Lib.hid (LK.out hb1)
          have h1 : ((k : Int) != (ps.length : Int) - 1) = false := by
            have := LL.out.1
            have e : (k : Int) = (ps.length : Int) - 1 := by omega
            rw [e]; simp
          have hnn : n % 2 = 1 := by
            have h1 := LL.out.2
            have h2 := HNN.out 0 (by omega)
            omega
          have h2 : (n % 2 == 0) = false := by rw [hnn]; rfl
          have hge : 0 ≤ n := by have h1 := LL.out.2; have h2 := HNN.out 0 (by omega); omega
          have h3 : (n.tmod 2 == 0) = false := by rw [Int.tmod_eq_emod_of_nonneg hge, hnn]; rfl
          have HST := Lib.hid (show seenOf (ps.take (k + 1)) = sl ++ [a] by rw [HST.out, seen1, if_pos hb1])
          clear hb1 hnn
          go_wp2_with (at_builtin; refine wpList_append_new rfl (.tmp 23) (.tmp 29) 32 rfl w2.heap.size intsElem _ _ _ rfl OW.out [.int .i64 a] rfl rfl rfl (by show (sl.length + 1) * 8 ≤ _; omega) (by omega) BW.out.size ?_; intro v3 w3 own3 bel3 _; have cb := (bel3.cell (p := ⟨g, o + k * 5 + 1, none⟩) HG.out).trans CB.out; have O3 := Lib.hid own3; have B3 := Lib.hid (BW.out.trans bel3); clear own3 bel3)
          go_round
          case rel => exact ⟨k + 1, by omega, by go_num, by rw [HST.out, List.length_append, List.map_append]; exact O3.out, B3.out⟩
          case measure => simp [intOf]; omega
        · have HST := Lib.hid (show seenOf (ps.take (k + 1)) = (sl ++ [a]) ++ [b] by rw [HST.out, seen1, if_neg (bne_iff_ne.1 hb), List.append_assoc]; rfl)
          go_wp2_with (first
            | (at_builtin; refine wpList_append_new rfl (.tmp 23) (.tmp 29) 32 rfl w2.heap.size intsElem _ _ _ rfl OW.out [.int .i64 a] rfl rfl rfl (by show (sl.length + 1) * 8 ≤ _; omega) (by omega) BW.out.size ?_; intro v3 w3 own3 bel3 _; have cb := (bel3.cell (p := ⟨g, o + k * 5 + 1, none⟩) HG.out).trans CB.out; have O3 := Lib.hid own3; have B3 := Lib.hid (BW.out.trans bel3); clear own3 bel3)
            | (at_builtin; refine wpList_append_new rfl (.tmp 37) (.tmp 43) 32 rfl w2.heap.size intsElem _ _ _ rfl O3.out [.int .i64 b] rfl rfl rfl (by show (sl.length + 1 + 1) * 8 ≤ _; omega) (by omega) B3.out.size ?_; intro v4 w4 own4 bel4 _; have O4 := Lib.hid own4; have B4 := Lib.hid (B3.out.trans bel4); clear own4 bel4))
          go_round
          case rel => exact ⟨k + 1, by omega, by go_num, by rw [HST.out, List.length_append, List.length_append, List.map_append, List.map_append]; exact O4.out, B4.out⟩
          case measure => simp [intOf]; omega
      · obtain rfl : k = ps.length := by omega
        rw [List.take_length] at OW
        have R4 := Lib.hid (rowAt_own OW.out)
        obtain ⟨so, sc, rfl⟩ := R4.out.form
        rw [HSL.out]
        have e1 : ((N : Int) != (N : Int)) = false := by simp
        obtain ⟨wo, rfl⟩ : ∃ wo, wo = wr := ⟨_, rfl⟩
        have hsN : (seenOf ps).length ≤ 1000000 := by rw [HSL.out]; omega
        have HSN := Lib.hid hsN
        clear hsl hsN
        go_wp2_with fail
        go_loopw [8] (fun i wr => ∃ j : Nat, j ≤ N ∧ i = .int .i64 j ∧ Below wo.heap.size wo wr) (fun i _ => N - (intOf i).toNat)
        case atStart => exact ⟨0, by omega, rfl, Below.refl _ _⟩
        case round =>
          obtain ⟨j, hj, rfl, bj⟩ := hrel
          have BJ := Lib.hid bj
          clear bj
          by_cases hlt : j < N
          · have hjn : (j : Int) < n := by have := HNN.out j hlt; omega
            have HM := Lib.hid (show decide ((j : Int) ∈ seenOf ps) = true from decide_eq_true (OK.out.perm.symm.subset (List.mem_map.2 ⟨j, List.mem_range.2 hlt, rfl⟩)))
            have RJ := Lib.hid (R4.out.below BJ.out)
            rw [HSL.out] at RJ
            go_wp2_with (go_at_call 18; refine (has_b _ (seenOf ps) j _ RJ.out HSN.out).mono ?_; rintro e w5 ⟨rfl, b5⟩; rw [HM.out]; have B5 := Lib.hid (BJ.out.trans (b5.mono BJ.out.size)); clear b5)
            go_round
            case rel => exact ⟨j + 1, by omega, by go_num, B5.out⟩
            case measure => simp [intOf]; omega
          · have hjn : ¬ (j : Int) < n := by
              intro h
              by_cases h0 : N = 0
              · omega
              · have := HNN.out 0 (by omega); omega
            have BF := Lib.hid ((B2.out.trans (BW.out.mono B2.out.size)).trans (BJ.out.mono (Nat.le_trans B2.out.size BW.out.size)))
            go_wp2_with fail
            refine (alive56 w1 wr BF.out).mono ?_
            rintro e w6 ⟨rfl, b6⟩
            go_wp2_with fail
            go_ret
            exact ⟨rfl, b6⟩
end Go.Proofs.Ytfjnnbhijajhoaa
