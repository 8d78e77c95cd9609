/- Chapter 25: Where of the reference. -/
import Derived.Test.YtiebjkbofoppaaaZoG
namespace Go.Proofs.Ytiebjkbofoppaaa
open Go Go.RowKit Go.Sort Cg
theorem listT_bytes {F : Nat → Prop} {L : Nat} {w : World} {cs : List Value} {ds : List D} (h : RdL F L w kState cs ds) (z p : Int) : (listT ds z p).length * 8 ≤ L := by
  obtain ⟨_, _, _, r0⟩ := h.sl 0 _ _ rfl
  obtain ⟨_, _, _, r2⟩ := h.sl 2 _ _ rfl
  obtain ⟨_, _, _, r3⟩ := h.sl 3 _ _ rfl
  unfold listT
  split
  · exact rd_bytes r2
  split
  · exact rd_bytes r3
  split
  · exact Nat.zero_le _
  rename_i hp
  split
  · rename_i k hk
    have hq : p.toNat < (dxs ds 0).length := by omega
    obtain ⟨ao, cap, rfl, _, _, _, hx⟩ := r0.form
    rcases hx with hx | ⟨g, o, rfl, hF, hgl, hE⟩
    · rw [hx] at hq; simp at hq
    obtain ⟨vs, _, hrd⟩ := hE.get p.toNat _ (List.getElem?_eq_getElem hq)
    have hgd : (dxs ds 0).getD p.toNat [] = (dxs ds 0)[p.toNat] := by rw [List.getD_eq_getElem?_getD, List.getElem?_eq_getElem hq]; rfl
    rw [hgd]
    have hk3 : k = 12 ∨ k = 11 ∨ k = 13 := by
      unfold kof at hk
      split at hk
      · exact .inl (Option.some.inj hk).symm
      split at hk
      · exact .inr (.inl (Option.some.inj hk).symm)
      split at hk
      · exact .inr (.inr (Option.some.inj hk).symm)
      · cases hk
    rcases hk3 with rfl | rfl | rfl
    · obtain ⟨_, _, _, r⟩ := hrd.sl 12 _ _ rfl; exact rd_bytes r
    · obtain ⟨_, _, _, r⟩ := hrd.sl 11 _ _ rfl; exact rd_bytes r
    · obtain ⟨_, _, _, r⟩ := hrd.sl 13 _ _ rfl; exact rd_bytes r
  · exact Nat.zero_le _
set_option maxRecDepth 100000 in
set_option maxHeartbeats 8000000 in
theorem where_ref (F : Nat → Prop) (L : Nat) (cs : List Value) (ds : List D) (id : Int) (w : World) (h : RdL F L w kState cs ds) (hL : L ≤ 140737488355328) :
    Calls Try.prog 13 #[.agg cs.toArray, .int .i64 id] w fun e w' => e = .returned (.tuple #[.int .i64 (whereT ds id).1, .int .i64 (whereT ds id).2.1, .bool (whereT ds id).2.2]) ∧ Below w.heap.size w w' := by
  have hl := h.len.1
  rw [kState_len] at hl
  obtain ⟨W0, hW0⟩ : ∃ W, W = w.alloc (.cells cs.toArray 30) := ⟨_, rfl⟩
  have bx : Bx W0 w.heap.size 30 cs := by rw [hW0]; exact Bx.new _ _ _
  have b0 : Below w.heap.size w W0 := by rw [hW0]; exact (Below.refl w.heap.size w).alloc (Nat.le_refl _) _
  have RG := Lib.hid (show (w.alloc (.cells cs.toArray 30)).rangeAt w.heap.size 0 cs from (by rw [hW0] at bx; exact bx.range))
  have HI := Lib.hid (show (Try.prog.info? 30).map (·.size) = some cs.length by rw [infoState, hl])
  have HF := Lib.hid (find_ref F L cs ds id W0 (h.old b0) hL)
  have HR := Lib.hid (h.old b0)
  have B0 := Lib.hid b0
  have BX := Lib.hid bx
  have HW0 := Lib.hid hW0
  obtain ⟨o, ho⟩ : ∃ o, o = findO id (dxs ds 1) := ⟨_, rfl⟩
  obtain ⟨zz, hzz⟩ : ∃ zz, zz = dint o 4 := ⟨_, rfl⟩
  obtain ⟨pp, hpp⟩ : ∃ pp, pp = dint o 2 := ⟨_, rfl⟩
  obtain ⟨kx, hkx⟩ : ∃ kx, kx = whereI ds o id := ⟨_, rfl⟩
  have hk : kx = (if zz == 5 then fidx (fun x => dint x 0 == id && dint x 1 == 1) (dxs ds 4) else fidx (fun x => dint x 0 == id) (listT ds zz pp)) := by rw [hkx, hzz, hpp]; rfl
  have HZZ := Lib.hid hzz
  have HPP := Lib.hid hpp
  have hwt : hasO id (dxs ds 1) = true → whereT ds id = (if kx < 0 then (0, 0, false) else (zz, kx, true)) := fun e => by unfold whereT; rw [e, ← ho, ← hkx, ← hzz]; rfl
  have HWT := Lib.hid hwt
  have HK := Lib.hid hk
  rw [← ho] at HF
  clear h hl bx b0 hW0 hkx hzz hpp hk hwt
  cases hh : hasO id (dxs ds 1)
  · rw [hh] at HF
    go_enter Try.func13, Try.ntmps13
    go_wp2_with ((with_reducible refine wpList_load_mid rfl 30 (.tmp 2) rfl w.heap.size 0 ?_ cs _ RG.out Try.underlying30 rfl HI.out ?_); rfl)
    rw [← HW0.out]
    refine HF.out.mono ?_
    rintro e w1 ⟨oc, rfl, ro, b1⟩
    obtain ⟨W2, hW2⟩ : ∃ W, W = w1.alloc (.cells #[.int .i64 0, .int .i64 0, .int .i64 0, .int .i64 0, .int .i64 0, .bool false, .bool false, .bool false, .bool false, .int .i64 0, .int .i64 0, .int .i64 0, .int .i64 0, .int .i64 0, .int .i64 0, .int .i64 0, .bool false, .int .i64 0, .int .i64 0] 47) := ⟨_, rfl⟩
    have hol := ro.len.1
    rw [kObject_len] at hol
    have z2 : Bx W2 w1.heap.size 47 zObjC.1 := by rw [hW2]; exact Bx.new w1 zObjC.1 _
    have ht := z2.there
    rw [show zObjC.1.length = oc.length by rw [hol]; rfl, hW2] at ht
    have HT := Lib.hid ht
    have HZ := Lib.hid (show (Try.prog.info? 47).map (·.size) = some oc.length by rw [infoObject, hol])
    have HO := Lib.hid ro.one
    obtain ⟨W3, hW3⟩ : ∃ W, W = W2.setCells w1.heap.size 0 oc := ⟨_, rfl⟩
    have bo : Bx W3 w1.heap.size 47 oc := by rw [hW3]; exact z2.setAll oc (by rw [hol]; rfl)
    have bb : Below W0.heap.size W0 W3 := by
      rw [hW3]
      exact below_sets _ _ _ (b1.trans (show Below W0.heap.size w1 W2 by rw [hW2]; exact (Below.refl _ _).alloc b1.size _)) _ b1.size
    have st3 := BX.out.old bb
    have HW3 := Lib.hid (show W3 = _ by rw [hW3, hW2])
    have co4 := bo.cell 4 _ (ro.int 4 rfl).1
    have co2 := bo.cell 2 _ (ro.int 2 rfl).1
    rw [← HZZ.out] at co4
    rw [← HPP.out] at co2
    have BO4 := Lib.hid co4
    have BO2 := Lib.hid co2
    rw [hW3, hW2] at co4 co2
    have BEL := Lib.hid (B0.out.trans (bb.mono B0.out.size))
    have R3 := Lib.hid (HR.out.old bb)
    have ST3 := Lib.hid st3
    clear b1 ht z2 hol hW3 hW2 bo bb st3 ro
    clear co4 co2
    go_wp2_with ((with_reducible refine wpList_store_cs rfl 47 (.tmp 7) (.tmp 16) rfl w1.heap.size 0 oc ?_ ?_ HT.out HZ.out HO.out ?_); rfl; rfl)
    go_ret3
    have hw : whereT ds id = (0, 0, false) := by unfold whereT; rw [hh]; rfl
    refine ⟨by rw [hw]; rfl, ?_⟩
    have := BEL.out
    rw [HW3.out] at this
    exact this
  · cases h5 : zz == 5
    · rw [hh] at HF
      go_enter Try.func13, Try.ntmps13
      go_wp2_with ((with_reducible refine wpList_load_mid rfl 30 (.tmp 2) rfl w.heap.size 0 ?_ cs _ RG.out Try.underlying30 rfl HI.out ?_); rfl)
      rw [← HW0.out]
      refine HF.out.mono ?_
      rintro e w1 ⟨oc, rfl, ro, b1⟩
      obtain ⟨W2, hW2⟩ : ∃ W, W = w1.alloc (.cells #[.int .i64 0, .int .i64 0, .int .i64 0, .int .i64 0, .int .i64 0, .bool false, .bool false, .bool false, .bool false, .int .i64 0, .int .i64 0, .int .i64 0, .int .i64 0, .int .i64 0, .int .i64 0, .int .i64 0, .bool false, .int .i64 0, .int .i64 0] 47) := ⟨_, rfl⟩
      have hol := ro.len.1
      rw [kObject_len] at hol
      have z2 : Bx W2 w1.heap.size 47 zObjC.1 := by rw [hW2]; exact Bx.new w1 zObjC.1 _
      have ht := z2.there
      rw [show zObjC.1.length = oc.length by rw [hol]; rfl, hW2] at ht
      have HT := Lib.hid ht
      have HZ := Lib.hid (show (Try.prog.info? 47).map (·.size) = some oc.length by rw [infoObject, hol])
      have HO := Lib.hid ro.one
      obtain ⟨W3, hW3⟩ : ∃ W, W = W2.setCells w1.heap.size 0 oc := ⟨_, rfl⟩
      have bo : Bx W3 w1.heap.size 47 oc := by rw [hW3]; exact z2.setAll oc (by rw [hol]; rfl)
      have bb : Below W0.heap.size W0 W3 := by
        rw [hW3]
        exact below_sets _ _ _ (b1.trans (show Below W0.heap.size w1 W2 by rw [hW2]; exact (Below.refl _ _).alloc b1.size _)) _ b1.size
      have st3 := BX.out.old bb
      have HW3 := Lib.hid (show W3 = _ by rw [hW3, hW2])
      have co4 := bo.cell 4 _ (ro.int 4 rfl).1
      have co2 := bo.cell 2 _ (ro.int 2 rfl).1
      rw [← HZZ.out] at co4
      rw [← HPP.out] at co2
      have BO4 := Lib.hid co4
      have BO2 := Lib.hid co2
      rw [hW3, hW2] at co4 co2
      have BEL := Lib.hid (B0.out.trans (bb.mono B0.out.size))
      have R3 := Lib.hid (HR.out.old bb)
      have ST3 := Lib.hid st3
      clear b1 ht z2 hol hW3 hW2 bo bb st3 ro
      have rg3 := ST3.out.range
      rw [HW3.out] at rg3
      have RG3 := Lib.hid rg3
      have HLS := Lib.hid (list_ref F L cs ds zz pp W3 R3.out hL)
      clear rg3
      go_wp2_with (first | ((with_reducible refine wpList_store_cs rfl 47 (.tmp 7) (.tmp 16) rfl w1.heap.size 0 oc ?_ ?_ HT.out HZ.out HO.out ?_); rfl; rfl) | ((with_reducible refine wpList_load_mid rfl 30 (.tmp 2) rfl w.heap.size 0 ?_ cs _ RG3.out Try.underlying30 rfl HI.out ?_); rfl))
      rw [← HW3.out]
      refine HLS.out.mono ?_
      rintro e w4 ⟨v4, rfl, own, b4⟩
      have hlen : (listT ds zz pp).length * 8 ≤ L := listT_bytes HR.out zz pp
      have HV := Lib.hid (own.rdc hlen)
      have BELL := Lib.hid (BEL.out.trans (b4.mono BEL.out.size))
      have BO4x := Lib.hid (cell_old BO4.out b4)
      clear own b4 hlen co4 co2
      obtain ⟨p, hp⟩ : ∃ p : List D → Bool, p = (fun x => dint x 0 == id) := ⟨_, rfl⟩
      obtain ⟨xs, hxs⟩ : ∃ xs, xs = listT ds zz pp := ⟨_, rfl⟩
      rw [← hxs] at HV
      have HKX := Lib.hid (show kx = fidx p xs by rw [HK.out, h5, hp, hxs]; rfl)
      obtain ⟨av, cv, rfl, _, hby, _, hx⟩ := HV.out.form
      have hn63 : xs.length ≤ 1000000000000000000 := by omega
      have HX := Lib.hid hx
      have HP := Lib.hid hp
      clear hx hby hp hxs
      have co4 := BO4x.out
      go_wp2_with fail
      go_loopw [11] (fun i wr => ∃ k : Nat, k ≤ xs.length ∧ i = .int .i64 k ∧ Hid (∀ j (h : j < xs.length), j < k → p xs[j] = false) ∧ wr = w4) (fun i _ => xs.length - (intOf i).toNat)
      case atStart => exact ⟨0, by omega, rfl, Lib.hid fun j hj _ => by omega, rfl⟩
      case round =>
        obtain ⟨k, hk, rfl, HKN, rfl⟩ := hrel
        by_cases hlt : k < xs.length
        · rcases HX.out with hh' | ⟨b, o', rfl, hF, hb, hE⟩
          · rw [hh'] at hlt; simp at hlt
          obtain ⟨vs, hvs, hrd⟩ := hE.get k _ (List.getElem?_eq_getElem hlt)
          have c0 := hvs 0 _ (hrd.int 0 rfl).1
          rw [show (kI 1).length = 1 from rfl, Nat.mul_one, Nat.add_zero] at c0
          clear hE hvs hrd
          cases hb0 : dint xs[k] 0 == id
          · have HPB := Lib.hid (show p xs[k] = false by rw [HP.out]; exact hb0)
            go_wp2_with fail
            go_round
            case rel => exact ⟨k + 1, by omega, by go_num, Lib.hid fun j hj hjk => (by
              by_cases e : j = k
              · subst e; exact HPB.out
              · exact HKN.out j hj (by omega)), trivial⟩
            case measure => simp [intOf]; omega
          · have HPB := Lib.hid (show p xs[k] = true by rw [HP.out]; exact hb0)
            have HE := Lib.hid (show kx = k by rw [HKX.out]; exact fidx_hit _ xs k hlt HPB.out HKN.out)
            go_wp2_with fail
            go_ret3
            have hw := HWT.out hh
            rw [HE.out, if_neg (by omega)] at hw
            exact ⟨by rw [hw]; rfl, BELL.out⟩
        · obtain rfl : k = xs.length := by omega
          have HE := Lib.hid (show kx = -1 by rw [HKX.out]; exact fidx_miss _ xs (fun j hj => HKN.out j hj hj))
          go_wp2_with fail
          go_ret3
          have hw := HWT.out hh
          rw [HE.out, if_pos (by omega)] at hw
          exact ⟨by rw [hw]; rfl, BELL.out⟩
    · obtain ⟨v4, hv4, _, r4⟩ := HR.out.sl 4 _ _ rfl
      have HV4 := Lib.hid hv4
      have HV := Lib.hid r4
      clear hv4 r4
      obtain ⟨p, hp⟩ : ∃ p : List D → Bool, p = (fun x => dint x 0 == id && dint x 1 == 1) := ⟨_, rfl⟩
      obtain ⟨xs, hxs⟩ : ∃ xs, xs = dxs ds 4 := ⟨_, rfl⟩
      rw [← hxs] at HV
      have HKX := Lib.hid (show kx = fidx p xs by rw [HK.out, h5, hp, hxs]; rfl)
      obtain ⟨av, cv, rfl, _, hby, _, hx⟩ := HV.out.form
      have hn63 : xs.length ≤ 1000000000000000000 := by omega
      have HX := Lib.hid hx
      have HP := Lib.hid hp
      clear hx hby hp hxs
      rw [hh] at HF
      go_enter Try.func13, Try.ntmps13
      go_wp2_with ((with_reducible refine wpList_load_mid rfl 30 (.tmp 2) rfl w.heap.size 0 ?_ cs _ RG.out Try.underlying30 rfl HI.out ?_); rfl)
      rw [← HW0.out]
      refine HF.out.mono ?_
      rintro e w1 ⟨oc, rfl, ro, b1⟩
      obtain ⟨W2, hW2⟩ : ∃ W, W = w1.alloc (.cells #[.int .i64 0, .int .i64 0, .int .i64 0, .int .i64 0, .int .i64 0, .bool false, .bool false, .bool false, .bool false, .int .i64 0, .int .i64 0, .int .i64 0, .int .i64 0, .int .i64 0, .int .i64 0, .int .i64 0, .bool false, .int .i64 0, .int .i64 0] 47) := ⟨_, rfl⟩
      have hol := ro.len.1
      rw [kObject_len] at hol
      have z2 : Bx W2 w1.heap.size 47 zObjC.1 := by rw [hW2]; exact Bx.new w1 zObjC.1 _
      have ht := z2.there
      rw [show zObjC.1.length = oc.length by rw [hol]; rfl, hW2] at ht
      have HT := Lib.hid ht
      have HZ := Lib.hid (show (Try.prog.info? 47).map (·.size) = some oc.length by rw [infoObject, hol])
      have HO := Lib.hid ro.one
      obtain ⟨W3, hW3⟩ : ∃ W, W = W2.setCells w1.heap.size 0 oc := ⟨_, rfl⟩
      have bo : Bx W3 w1.heap.size 47 oc := by rw [hW3]; exact z2.setAll oc (by rw [hol]; rfl)
      have bb : Below W0.heap.size W0 W3 := by
        rw [hW3]
        exact below_sets _ _ _ (b1.trans (show Below W0.heap.size w1 W2 by rw [hW2]; exact (Below.refl _ _).alloc b1.size _)) _ b1.size
      have st3 := BX.out.old bb
      have HW3 := Lib.hid (show W3 = _ by rw [hW3, hW2])
      have co4 := bo.cell 4 _ (ro.int 4 rfl).1
      have co2 := bo.cell 2 _ (ro.int 2 rfl).1
      rw [← HZZ.out] at co4
      rw [← HPP.out] at co2
      have BO4 := Lib.hid co4
      have BO2 := Lib.hid co2
      rw [hW3, hW2] at co4 co2
      have BEL := Lib.hid (B0.out.trans (bb.mono B0.out.size))
      have R3 := Lib.hid (HR.out.old bb)
      have BB := Lib.hid bb
      have ST3 := Lib.hid st3
      clear b1 ht z2 hol hW3 hW2 bo bb st3 ro
      have c4 := ST3.out.cell 4 _ HV4.out
      rw [HW3.out] at c4
      have BELL := BEL
      go_wp2_with ((with_reducible refine wpList_store_cs rfl 47 (.tmp 7) (.tmp 16) rfl w1.heap.size 0 oc ?_ ?_ HT.out HZ.out HO.out ?_); rfl; rfl)
      rw [← HW3.out] at c4 co4 ⊢
      go_loopw [9] (fun i wr => ∃ k : Nat, k ≤ xs.length ∧ i = .int .i64 k ∧ Hid (∀ j (h : j < xs.length), j < k → p xs[j] = false) ∧ wr = W3) (fun i _ => xs.length - (intOf i).toNat)
      case atStart => exact ⟨0, by omega, rfl, Lib.hid fun j hj _ => by omega, rfl⟩
      case round =>
        obtain ⟨k, hk, rfl, HKN, rfl⟩ := hrel
        by_cases hlt : k < xs.length
        · rcases HX.out with hh' | ⟨b, o', rfl, hF, hb, hE⟩
          · rw [hh'] at hlt; simp at hlt
          obtain ⟨vs, hvs, hrd⟩ := hE.get k _ (List.getElem?_eq_getElem hlt)
          have c0 := hvs 0 _ (hrd.int 0 kItem0.1).1
          have c1 := hvs 1 _ (hrd.int 1 kItem0.2).1
          rw [kItem_len, Nat.add_zero] at c0
          rw [kItem_len] at c1
          have c0 := cell_old c0 BB.out
          have c1 := cell_old c1 BB.out
          clear hE hvs hrd
          cases hb1 : dint xs[k] 1 == 1
          · have HPB := Lib.hid (show p xs[k] = false by rw [HP.out]; simp only [hb1, Bool.and_false])
            go_wp2_with fail
            go_round
            case rel => exact ⟨k + 1, by omega, by go_num, Lib.hid fun j hj hjk => (by
              by_cases e : j = k
              · subst e; exact HPB.out
              · exact HKN.out j hj (by omega)), trivial⟩
            case measure => simp [intOf]; omega
          · cases hb0 : dint xs[k] 0 == id
            · have HPB := Lib.hid (show p xs[k] = false by rw [HP.out]; simp only [hb0, Bool.false_and])
              go_wp2_with fail
              go_round
              case rel => exact ⟨k + 1, by omega, by go_num, Lib.hid fun j hj hjk => (by
                by_cases e : j = k
                · subst e; exact HPB.out
                · exact HKN.out j hj (by omega)), trivial⟩
              case measure => simp [intOf]; omega
            · have HPB := Lib.hid (show p xs[k] = true by rw [HP.out]; simp only [hb0, hb1, Bool.and_self])
              have HE := Lib.hid (show kx = k by rw [HKX.out]; exact fidx_hit _ xs k hlt HPB.out HKN.out)
              go_wp2_with fail
              go_ret3
              have hw := HWT.out hh
              rw [HE.out, if_neg (by omega)] at hw
              exact ⟨by rw [hw]; rfl, BELL.out⟩
        · obtain rfl : k = xs.length := by omega
          have HE := Lib.hid (show kx = -1 by rw [HKX.out]; exact fidx_miss _ xs (fun j hj => HKN.out j hj hj))
          go_wp2_with fail
          go_ret3
          have hw := HWT.out hh
          rw [HE.out, if_pos (by omega)] at hw
          exact ⟨by rw [hw]; rfl, BELL.out⟩
end Go.Proofs.Ytiebjkbofoppaaa
