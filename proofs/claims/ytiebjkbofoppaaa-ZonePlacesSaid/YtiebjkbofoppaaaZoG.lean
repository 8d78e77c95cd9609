/- Chapter 25: place, Find, List, Where of the reference. -/
import Derived.Test.YtiebjkbofoppaaaZoF
namespace Go.Proofs.Ytiebjkbofoppaaa
open Go Go.RowKit Go.Sort Cg
set_option maxHeartbeats 4000000 in
theorem place_ref (F : Nat → Prop) (L : Nat) (cs : List Value) (ds : List D) (id : Int) (w : World) (h : RdL F L w kState cs ds) (hL : L ≤ 140737488355328) :
    Calls Try.prog 50 #[.agg cs.toArray, .int .i64 id] w fun e w' => e = .returned (.int .i64 (fidx (fun o => dint o 0 == id) (dxs ds 1))) ∧ Below w.heap.size w w' := by
  obtain ⟨v1, hv1, _, r1⟩ := h.sl 1 _ _ rfl
  obtain ⟨W0, hW0⟩ : ∃ W, W = w.alloc (.cells cs.toArray 30) := ⟨_, rfl⟩
  have bx : Bx W0 w.heap.size 30 cs := by rw [hW0]; exact Bx.new _ _ _
  have b0 : Below w.heap.size w W0 := by rw [hW0]; exact (Below.refl w.heap.size w).alloc (Nat.le_refl _) _
  obtain ⟨p, hp⟩ : ∃ p : List D → Bool, p = fun x => dint x 0 == id := ⟨_, rfl⟩
  obtain ⟨xs, hxs⟩ : ∃ xs, xs = dxs ds 1 := ⟨_, rfl⟩
  have r0 := r1.old b0
  rw [← hxs] at r0
  rw [← hp, ← hxs]
  obtain ⟨ao, cap, rfl, _, hby, _, hx⟩ := r0.form
  have hn : xs.length ≤ 1000000000000000000 := by omega
  have c1 := bx.cell 1 _ hv1
  have HX := Lib.hid hx
  have HPP := Lib.hid hp
  have B0 := Lib.hid b0
  have HW0 := Lib.hid hW0
  clear hx h hby hL hp hxs r0 r1 hv1 bx b0 hW0
  go_enter Try.func50, Try.ntmps50
  go_wp2_with fail
  rw [← HW0.out]
  go_loopw [5] (fun i wr => ∃ k : Nat, k ≤ xs.length ∧ i = .int .i64 k ∧ Hid (∀ j (h : j < xs.length), j < k → p xs[j] = false) ∧ wr = W0) (fun i _ => xs.length - (intOf i).toNat)
  case atStart => exact ⟨0, by omega, rfl, Lib.hid fun j hj _ => by omega, rfl⟩
  case round =>
    obtain ⟨k, hk, rfl, HK, rfl⟩ := hrel
    by_cases hlt : k < xs.length
    · rcases HX.out with hh | ⟨b, o, rfl, hF, hb, hE⟩
      · rw [hh] at hlt; simp at hlt
      obtain ⟨vs, hvs, hrd⟩ := hE.get k _ (List.getElem?_eq_getElem hlt)
      have c0 := hvs 0 _ (hrd.int 0 rfl).1
      rw [kObject_len, Nat.add_zero] at c0
      obtain ⟨pb, hpb⟩ : ∃ pb, pb = p xs[k] := ⟨_, rfl⟩
      have hq : (dint xs[k] 0 == id) = pb := by rw [hpb, HPP.out]
      have HPB := Lib.hid hpb
      clear hE hvs hrd hpb
      cases pb
      · go_wp2_with fail
        go_round
        case rel => exact ⟨k + 1, by omega, by go_num, Lib.hid fun j hj hjk => (by
          by_cases e : j = k
          · subst e; exact HPB.out.symm
          · exact HK.out j hj (by omega)), trivial⟩
        case measure => simp [intOf]; omega
      · have HE := Lib.hid (show fidx p xs = k from fidx_hit _ xs k hlt HPB.out.symm HK.out)
        go_wp2_with fail
        go_ret
        exact ⟨by rw [HE.out] <;> rfl, B0.out⟩
    · obtain rfl : k = xs.length := by omega
      have HE := Lib.hid (show fidx p xs = -1 from fidx_miss _ xs (fun j hj => HK.out j hj hj))
      go_wp2_with fail
      go_ret
      exact ⟨by rw [HE.out] <;> rfl, B0.out⟩
set_option maxRecDepth 100000 in
set_option maxHeartbeats 4000000 in
theorem find_ref (F : Nat → Prop) (L : Nat) (cs : List Value) (ds : List D) (id : Int) (w : World) (h : RdL F L w kState cs ds) (hL : L ≤ 140737488355328) :
    Calls Try.prog 21 #[.agg cs.toArray, .int .i64 id] w fun e w' => ∃ oc, e = .returned (.tuple #[.agg oc.toArray, .bool (hasO id (dxs ds 1))]) ∧ RdL (fun _ => False) 0 w' kObject oc (findO id (dxs ds 1)) ∧ Below w.heap.size w w' := by
  have hl := h.len.1
  rw [kState_len] at hl
  obtain ⟨v1, hv1, _, r1⟩ := h.sl 1 _ _ rfl
  obtain ⟨W0, hW0⟩ : ∃ W, W = (w.alloc (.cells cs.toArray 30)).alloc (.cells zObjC.1.toArray 47) := ⟨_, rfl⟩
  have hsz : (w.alloc (.cells cs.toArray 30)).heap.size = w.heap.size + 1 := by simp
  have bx : Bx W0 w.heap.size 30 cs := by rw [hW0]; exact (Bx.new _ _ _).old ((Below.refl _ _).alloc (Nat.le_refl _) _)
  have br : Bx W0 (w.heap.size + 1) 47 zObjC.1 := by rw [hW0, ← hsz]; exact Bx.new _ _ _
  have B0 := Lib.hid (show Below w.heap.size w W0 by rw [hW0]; exact ((Below.refl w.heap.size w).alloc (Nat.le_refl _) _).alloc (by rw [hsz]; omega) _)
  have RG := Lib.hid (show ((w.alloc (.cells cs.toArray 30)).alloc (.cells #[.int .i64 0, .int .i64 0, .int .i64 0, .int .i64 0, .int .i64 0, .bool false, .bool false, .bool false, .bool false, .int .i64 0, .int .i64 0, .int .i64 0, .int .i64 0, .int .i64 0, .int .i64 0, .int .i64 0, .bool false, .int .i64 0, .int .i64 0] 47)).rangeAt w.heap.size 0 cs from (by rw [hW0] at bx; exact bx.range))
  have HI := Lib.hid (show (Try.prog.info? 30).map (·.size) = some cs.length by rw [infoState, hl])
  have HP := Lib.hid (place_ref F L cs ds id W0 (h.old B0.out) hL)
  have BX := Lib.hid bx
  have BR := Lib.hid br
  have R1 := Lib.hid r1
  have HV1 := Lib.hid hv1
  have HW0 := Lib.hid (show W0 = (w.alloc (.cells cs.toArray 30)).alloc (.cells #[.int .i64 0, .int .i64 0, .int .i64 0, .int .i64 0, .int .i64 0, .bool false, .bool false, .bool false, .bool false, .int .i64 0, .int .i64 0, .int .i64 0, .int .i64 0, .int .i64 0, .int .i64 0, .int .i64 0, .bool false, .int .i64 0, .int .i64 0] 47) from hW0)
  clear hW0 bx br r1 hsz h hv1 hl
  rcases fidx_find (fun o => dint o 0 == id) (dxs ds 1) with ⟨hm, hf⟩ | ⟨i, hm, hi, hf⟩
  · rw [hm] at HP
    have hv : hasO id (dxs ds 1) = false ∧ findO id (dxs ds 1) = zD := by unfold hasO findO; rw [hf]; exact ⟨rfl, rfl⟩
    rw [hv.1, hv.2]
    clear hm hf hv
    go_enter Try.func21, Try.ntmps21
    go_wp2_with (with_reducible refine wpList_load_mid rfl 30 (.tmp 2) rfl w.heap.size 0 ?_ cs _ RG.out Try.underlying30 rfl HI.out ?_; simp [Act.eval])
    rw [← HW0.out]
    refine HP.out.mono ?_
    rintro e w1 ⟨rfl, b1⟩
    have B1 := Lib.hid b1
    have br1 := BR.out.old b1
    have HT := Lib.hid (show w1.there (w.heap.size + 1) 0 zObjC.1.toArray.size from br1.there)
    have HZ := Lib.hid (show (Try.prog.info? 47).map (·.size) = some zObjC.1.toArray.size from infoObject)
    have HO := Lib.hid (show zObjC.1.toArray.all (·.oneCell') = true from all_oneCell_toArray zObjC.one)
    have BR2 := Lib.hid (br1.setAll zObjC.1 rfl)
    clear b1 br1
    go_wp2_with (refine wpList_store_mid rfl 47 (.tmp 4) (.tmp 12) rfl (w.heap.size + 1) 0 zObjC.1.toArray ?_ ?_ HT.out HZ.out HO.out ?_; rfl; rfl)
    refine bodyPost_ret (results_cs2 Try.results21 (w.heap.size + 1) ?_ (.bool false) ?_ zObjC.1 _ (Bx.range BR2.out) Try.underlying47 rfl infoObject) rfl ?_
    · rfl
    · rfl
    · exact ⟨zObjC.1, rfl, zObj_rd _, below_sets zObjC.1 0 w1 (B0.out.trans (B1.out.mono B0.out.size)) (w.heap.size + 1) (by omega)⟩
  · rw [hm] at HP
    have hv : hasO id (dxs ds 1) = true ∧ findO id (dxs ds 1) = (dxs ds 1)[i] := by unfold hasO findO; rw [hf]; exact ⟨rfl, rfl⟩
    rw [hv.1, hv.2]
    obtain ⟨ao, cap, rfl, hcap, hby, hnn, hx⟩ := R1.out.form
    rcases hx with hx | ⟨b, o, rfl, hF, hbl, hE⟩
    · rw [hx] at hi; simp at hi
    have hi63 : (dxs ds 1).length ≤ 1000000000000000000 := by omega
    clear hm hf hv hcap hnn
    go_enter Try.func21, Try.ntmps21
    go_wp2_with (with_reducible refine wpList_load_mid rfl 30 (.tmp 2) rfl w.heap.size 0 ?_ cs _ RG.out Try.underlying30 rfl HI.out ?_; simp [Act.eval])
    rw [← HW0.out]
    refine HP.out.mono ?_
    rintro e w1 ⟨rfl, b1⟩
    have B1 := Lib.hid b1
    have br1 := BR.out.old b1
    have c1 := (BX.out.old b1).cell 1 _ HV1.out
    have bel1 := B0.out.trans (b1.mono B0.out.size)
    obtain ⟨vs, hvs, hrd⟩ := (hE.frame (Nat.le_refl _) bel1.size (fun b _ hlt => bel1.block b hlt) (fun _ h _ => h) hF hbl).get i _ (List.getElem?_eq_getElem hi)
    rw [kObject_len] at hvs
    have hvl := hrd.len.1
    rw [kObject_len] at hvl
    have RV := Lib.hid (show w1.rangeAt b (o + i * 19) vs from hvs)
    have HIV := Lib.hid (show (Try.prog.info? 47).map (·.size) = some vs.length by rw [infoObject, hvl])
    have hst := store_cs w1 (w.heap.size + 1) vs (by rw [hvl]; exact br1.there) hrd.one
    have BR2 := Lib.hid (br1.setAll vs (by rw [hvl]; rfl))
    have HRD := Lib.hid hrd
    have HVL := Lib.hid hvl
    have HBL := Lib.hid bel1
    clear b1 br1 hrd hvs hvl hE bel1
    go_wp2_with (with_reducible refine wpList_load_mid rfl 47 (.tmp 16) rfl b (o + i * 19) ?_ vs _ RV.out Try.underlying47 rfl HIV.out ?_; simp [Act.eval]; have hvl := HVL.out)
    refine bodyPost_ret (results_cs2 Try.results21 (w.heap.size + 1) ?_ (.bool true) ?_ vs _ (Bx.range BR2.out) Try.underlying47 rfl HIV.out) rfl ?_
    · rfl
    · rfl
    · have hb := below_sets vs 0 w1 HBL.out (w.heap.size + 1) (by omega)
      exact ⟨vs, rfl, HRD.out.any flatObject, hb⟩
set_option maxRecDepth 100000 in
set_option maxHeartbeats 400000 in
theorem ints_raw (v : Value) (es : List (Cl 1)) (w : World) (h : RowC 1 w v es) (hb : es.length * 8 ≤ 140737488355328) : Calls Try.prog 35 #[v] w fun e w' => ∃ v', e = .returned v' ∧ w'.ownsRow w.heap.size 3 1 v' es.length (es.flatMap Subtype.val) ∧ Below w.heap.size w w' := by
  obtain ⟨z, hE⟩ := elemint
  have HR := Lib.hid (h.below ((Below.refl w.heap.size w).alloc (Nat.le_refl _) (.cells #[] 3)))
  obtain ⟨ao, cap, rfl, ⟨hc, hn⟩, _⟩ := h
  have HE := Lib.hid hE
  have HO := Lib.hid (empty_own w w.heap.size (Nat.le_refl _) 3 1)
  have HA := Lib.hid ((Below.refl w.heap.size w).alloc (Nat.le_refl _) (.cells #[] 3))
  clear hE hn
  go_enter Try.func35, Try.ntmps35
  go_wp2_with (at_builtin; refine wpList_append_rowK rfl (.tmp 3) (.tmp 4) 24 rfl w.heap.size HE.out _ 0 [] rfl HO.out Subtype.val Cl.len Cl.one es _ rfl HR.out (by omega) (by omega) HA.out.size ?_; intro v1 w1 own1 _ bel1; have O1 := Lib.hid own1; have B1 := Lib.hid bel1; clear own1 bel1)
  go_ret
  have := O1.out
  rw [Nat.zero_add, List.nil_append] at this
  exact ⟨_, rfl, this, HA.out.trans B1.out⟩
theorem ints_own (F : Nat → Prop) (L : Nat) (v : Value) (xs : List (List D)) (w : World) (h : RdC F L w (.sl (kI 1) 8) v (.sl xs)) (hL : L ≤ 140737488355328) : Calls Try.prog 35 #[v] w fun e w' => ∃ v', e = .returned v' ∧ OwnI w.heap.size w' v' xs ∧ Below w.heap.size w w' := by
  obtain ⟨es, h1, h2, h3⟩ := h.row (k := 1) rfl
  refine (ints_raw v es w h1 (by rw [h2.len]; omega)).mono ?_
  rintro e w' ⟨v', rfl, own, b⟩
  exact ⟨v', rfl, ⟨es, own, es_any (flat_ints 1) h2⟩, b⟩
set_option maxRecDepth 100000 in
set_option maxHeartbeats 4000000 in
theorem list_ref (F : Nat → Prop) (L : Nat) (cs : List Value) (ds : List D) (z p : Int) (w : World) (h : RdL F L w kState cs ds) (hL : L ≤ 140737488355328) :
    Calls Try.prog 28 #[.agg cs.toArray, .int .i64 z, .int .i64 p] w fun e w' => ∃ v', e = .returned v' ∧ OwnI w.heap.size w' v' (listT ds z p) ∧ Below w.heap.size w w' := by
  obtain ⟨W0, hW0⟩ : ∃ W, W = w.alloc (.cells cs.toArray 30) := ⟨_, rfl⟩
  have bx : Bx W0 w.heap.size 30 cs := by rw [hW0]; exact Bx.new _ _ _
  have b0 : Below w.heap.size w W0 := by rw [hW0]; exact (Below.refl w.heap.size w).alloc (Nat.le_refl _) _
  have hr := h.old b0
  obtain ⟨v0, hv0, _, r0⟩ := hr.sl 0 _ _ rfl
  obtain ⟨v2, hv2, _, r2⟩ := hr.sl 2 _ _ rfl
  obtain ⟨v3, hv3, _, r3⟩ := hr.sl 3 _ _ rfl
  have c0 := bx.cell 0 _ hv0
  have c2 := bx.cell 2 _ hv2
  have c3 := bx.cell 3 _ hv3
  rw [hW0] at c0 c2 c3
  obtain ⟨ao, cap, rfl, _, hby, _, hx⟩ := r0.form
  have hn63 : (dxs ds 0).length ≤ 1000000000000000000 := by omega
  have B0 := Lib.hid b0
  have HX := Lib.hid hx
  have R2 := Lib.hid r2
  have R3 := Lib.hid r3
  have HW0 := Lib.hid hW0
  have HL2 := Lib.hid hL
  clear h hr bx b0 hv0 hv2 hv3 r0 r2 r3 hx hby hW0
  cases h0 : z == 0
  · cases h4 : z == 4
    · by_cases hp0 : p < 0
      · have hpd : decide (p < 0) = true := decide_eq_true hp0
        have hv : listT ds z p = [] := by unfold listT; simp [h0, h4, hp0]
        rw [hv]
        clear hv
        go_enter Try.func28, Try.ntmps28
        go_wp2_with fail
        go_ret
        refine ⟨_, rfl, ownI_nil _ _, ?_⟩
        have := B0.out
        rw [HW0.out] at this
        exact this
      · obtain ⟨q, rfl⟩ : ∃ q : Nat, p = q := ⟨p.toNat, by omega⟩
        have hpd : decide ((q : Int) < 0) = false := decide_eq_false hp0
        by_cases hpn : (dxs ds 0).length ≤ q
        · have hge : ((dxs ds 0).length : Int) ≤ (q : Int) := by omega
          have hv : listT ds z q = [] := by unfold listT; simp [h0, h4, hpn]
          rw [hv]
          clear hv
          go_enter Try.func28, Try.ntmps28
          go_wp2_with fail
          go_ret
          refine ⟨_, rfl, ownI_nil _ _, ?_⟩
          have := B0.out
          rw [HW0.out] at this
          exact this
        · have hge : ¬ ((dxs ds 0).length : Int) ≤ (q : Int) := by omega
          have hql : q < (dxs ds 0).length := by omega
          rcases HX.out with hx | ⟨g, o, rfl, hF, hgl, hE⟩
          · rw [hx] at hql; simp at hql
          obtain ⟨vs, hvs, hrd⟩ := hE.get q _ (List.getElem?_eq_getElem hql)
          rw [show kPlayer.length = 14 by decide] at hvs
          have hgd : (dxs ds 0)[q]?.getD [] = (dxs ds 0)[q] := by rw [List.getElem?_eq_getElem hql]; rfl
          clear hE
          cases h1 : z == 1
          · cases h2 : z == 2
            · cases h3 : z == 3
              · clear hvs hrd hgd
                have hv : listT ds z q = [] := by unfold listT kof; simp [h0, h4, h1, h2, h3]
                rw [hv]
                clear hv
                go_enter Try.func28, Try.ntmps28
                go_wp2_with fail
                go_ret
                refine ⟨_, rfl, ownI_nil _ _, ?_⟩
                have := B0.out
                rw [HW0.out] at this
                exact this
              · obtain ⟨u, hu, _, hru⟩ := hrd.sl 13 _ _ rfl
                have cu := hvs 13 _ hu
                have HRU := Lib.hid hru
                rw [HW0.out] at cu
                have hgd2 := hgd
                have hv : listT ds z q = dxs (dxs ds 0)[q] 13 := by unfold listT kof; simp [h0, h4, hpn, hp0, h1, h2, h3, hgd]
                rw [hv]
                clear hv hgd hgd2 hru hrd hvs hu
                go_enter Try.func28, Try.ntmps28
                go_wp2_with fail
                rw [← HW0.out]
                refine (ints_own F L u (dxs (dxs ds 0)[q] 13) W0 HRU.out HL2.out).mono ?_
                rintro e w2 ⟨v', rfl, own, b2⟩
                have OW := Lib.hid own
                have B2 := Lib.hid b2
                clear own b2
                go_wp2_with fail
                go_ret
                exact ⟨v', rfl, OW.out.low B0.out.size, B0.out.trans (B2.out.mono B0.out.size)⟩
            · obtain ⟨u, hu, _, hru⟩ := hrd.sl 11 _ _ rfl
              have cu := hvs 11 _ hu
              have HRU := Lib.hid hru
              rw [HW0.out] at cu
              have hgd2 := hgd
              have hv : listT ds z q = dxs (dxs ds 0)[q] 11 := by unfold listT kof; simp [h0, h4, hpn, hp0, h1, h2, hgd]
              rw [hv]
              clear hv hgd hgd2 hru hrd hvs hu
              go_enter Try.func28, Try.ntmps28
              go_wp2_with fail
              rw [← HW0.out]
              refine (ints_own F L u (dxs (dxs ds 0)[q] 11) W0 HRU.out HL2.out).mono ?_
              rintro e w2 ⟨v', rfl, own, b2⟩
              have OW := Lib.hid own
              have B2 := Lib.hid b2
              clear own b2
              go_wp2_with fail
              go_ret
              exact ⟨v', rfl, OW.out.low B0.out.size, B0.out.trans (B2.out.mono B0.out.size)⟩
          · obtain ⟨u, hu, _, hru⟩ := hrd.sl 12 _ _ rfl
            have cu := hvs 12 _ hu
            have HRU := Lib.hid hru
            rw [HW0.out] at cu
            have hgd2 := hgd
            have hv : listT ds z q = dxs (dxs ds 0)[q] 12 := by unfold listT kof; simp [h0, h4, hpn, hp0, h1, hgd]
            rw [hv]
            clear hv hgd hgd2 hru hrd hvs hu
            go_enter Try.func28, Try.ntmps28
            go_wp2_with fail
            rw [← HW0.out]
            refine (ints_own F L u (dxs (dxs ds 0)[q] 12) W0 HRU.out HL2.out).mono ?_
            rintro e w2 ⟨v', rfl, own, b2⟩
            have OW := Lib.hid own
            have B2 := Lib.hid b2
            clear own b2
            go_wp2_with fail
            go_ret
            exact ⟨v', rfl, OW.out.low B0.out.size, B0.out.trans (B2.out.mono B0.out.size)⟩
    · have hv : listT ds z p = dxs ds 3 := by unfold listT; simp [h0, h4]
      rw [hv]
      clear hv
      go_enter Try.func28, Try.ntmps28
      go_wp2_with fail
      rw [← HW0.out]
      refine (ints_own F L v3 (dxs ds 3) W0 R3.out HL2.out).mono ?_
      rintro e w2 ⟨v', rfl, own, b2⟩
      have OW := Lib.hid own
      have B2 := Lib.hid b2
      clear own b2
      go_wp2_with fail
      go_ret
      exact ⟨v', rfl, OW.out.low B0.out.size, B0.out.trans (B2.out.mono B0.out.size)⟩
  · have hv : listT ds z p = dxs ds 2 := by unfold listT; simp [h0]
    rw [hv]
    clear hv
    go_enter Try.func28, Try.ntmps28
    go_wp2_with fail
    rw [← HW0.out]
    refine (ints_own F L v2 (dxs ds 2) W0 R2.out HL2.out).mono ?_
    rintro e w2 ⟨v', rfl, own, b2⟩
    have OW := Lib.hid own
    have B2 := Lib.hid b2
    clear own b2
    go_wp2_with fail
    go_ret
    exact ⟨v', rfl, OW.out.low B0.out.size, B0.out.trans (B2.out.mono B0.out.size)⟩
end Go.Proofs.Ytiebjkbofoppaaa
