/- Chapter 25: List, Where of the program. -/
import Derived.Test.YtiebjkbofoppaaaZnY
namespace Go.Proofs.Ytiebjkbofoppaaa
open Go Go.RowKit Go.Sort Cg
/-- The pointer to the list of a zone of a state that is read. -/
theorem rd_list {F : Nat → Prop} {L : Nat} {w : World} {cs : List Value} {ds : List D} (h : RdL F L w kState cs ds) (hL : L ≤ 140737488355328) (b : Nat) (X : Bx w b 30 cs) (z p : Int) : ∃ ao n c, cs[0]? = some (.slice ao n c) ∧ (0 < n → ∃ g o, ao = some ⟨g, o, none⟩) ∧ n ≤ 1000000000000000000 ∧
    ((listPtr b ao n z p = none ∧ listT ds z p = []) ∨ ∃ ab oo v, listPtr b ao n z p = some ⟨ab, oo, none⟩ ∧ w.cell? ⟨ab, oo, none⟩ = some v ∧ RdC F L w kInts v (.sl (listT ds z p))) := by
  obtain ⟨v0, hv0, hd0, r0⟩ := h.sl 0 _ _ rfl
  obtain ⟨v2, hv2, hd2, r2⟩ := h.sl 2 _ _ rfl
  obtain ⟨v3, hv3, hd3, r3⟩ := h.sl 3 _ _ rfl
  obtain ⟨ao, cap, rfl, hcap, hby, hnn, hx⟩ := r0.form
  refine ⟨ao, _, cap, hv0, fun hn => ?_, by omega, ?_⟩
  · rcases hx with hx | ⟨b, o, rfl, _⟩
    · rw [hx] at hn; simp at hn
    · exact ⟨_, _, rfl⟩
  cases h0 : z == 0
  · cases h4 : z == 4
    · by_cases hp : p < 0 ∨ ((dxs ds 0).length : Int) ≤ p
      · exact .inl ⟨by unfold listPtr; simp [h0, h4, hp], by unfold listT; simp [h0, h4, hp]⟩
      · have hp2 : p.toNat < (dxs ds 0).length := by omega
        have hgd : (dxs ds 0).getD p.toNat [] = (dxs ds 0)[p.toNat] := by rw [List.getD_eq_getElem?_getD, List.getElem?_eq_getElem hp2]; rfl
        rcases hx with hx | ⟨g, o, rfl, hF, hgl, hE⟩
        · rw [hx] at hp2; simp at hp2
        obtain ⟨vs, hvs, hrd⟩ := hE.get p.toNat _ (List.getElem?_eq_getElem hp2)
        have hk14 : kPlayer.length = 14 := by decide
        rw [hk14] at hvs
        have key : ∀ i, kPlayer[i]? = some kInts → kof z = some i → listPtr b (some ⟨g, o, none⟩) (dxs ds 0).length z p = some ⟨g, o + p.toNat * 14 + i, none⟩ → ∃ ab oo v, listPtr b (some ⟨g, o, none⟩) (dxs ds 0).length z p = some ⟨ab, oo, none⟩ ∧ w.cell? ⟨ab, oo, none⟩ = some v ∧ RdC F L w kInts v (.sl (listT ds z p)) := fun i hk hkz hptr => by
          obtain ⟨v, hv, _, hr⟩ := hrd.sl i _ _ hk
          exact ⟨g, _, v, hptr, hvs i v hv, by
            have e : listT ds z p = dxs (dxs ds 0)[p.toNat] i := by unfold listT; simp only [h0, h4, hp, hkz, hgd]; simp
            rw [e]; exact hr⟩
        cases h1 : z == 1
        · cases h2 : z == 2
          · cases h3 : z == 3
            · exact .inl ⟨by unfold listPtr; simp [h0, h4, hp, h1, h2, h3], by unfold listT kof; simp [h0, h4, h1, h2, h3]⟩
            · exact .inr (key 13 rfl (by unfold kof; simp [h1, h2, h3]) (by unfold listPtr; simp [h0, h4, hp, h1, h2, h3]))
          · exact .inr (key 11 rfl (by unfold kof; simp [h1, h2]) (by unfold listPtr; simp [h0, h4, hp, h1, h2]))
        · exact .inr (key 12 rfl (by unfold kof; simp [h1]) (by unfold listPtr; simp [h0, h4, hp, h1]))
    · exact .inr ⟨b, 3, v3, by unfold listPtr; simp [h0, h4], X.cell 3 _ hv3, by
        have e : listT ds z p = dxs ds 3 := by unfold listT; simp [h0, h4]
        rw [e]; exact r3⟩
  · exact .inr ⟨b, 2, v2, by unfold listPtr; simp [h0], X.cell 2 _ hv2, by
      have e : listT ds z p = dxs ds 2 := by unfold listT; simp [h0]
      rw [e]; exact r2⟩
theorem ownI_nil (B : Nat) (w : World) : OwnI B w (.slice none 0 0) [] := ⟨[], World.ownsRow_nil _ _ _ _, es_nil _ _ _ _ _⟩
set_option maxRecDepth 100000 in
set_option maxHeartbeats 4000000 in
theorem list_all (F : Nat → Prop) (L : Nat) (cs : List Value) (ds : List D) (z p : Int) (w : World) (h : RdL F L w kState cs ds) (hL : L ≤ 140737488355328) :
    Calls Try.prog 26 #[.agg cs.toArray, .int .i64 z, .int .i64 p] w fun e w' => ∃ v', e = .returned v' ∧ OwnI w.heap.size w' v' (listT ds z p) ∧ Below w.heap.size w w' := by
  obtain ⟨W0, hW0⟩ : ∃ W, W = w.alloc (.cells cs.toArray 30) := ⟨_, rfl⟩
  have bx : Bx W0 w.heap.size 30 cs := by rw [hW0]; exact Bx.new _ _ _
  have b0 : Below w.heap.size w W0 := by rw [hW0]; exact (Below.refl w.heap.size w).alloc (Nat.le_refl _) _
  obtain ⟨ao, n, c, hc0, hn, hn63, hx⟩ := rd_list (h.old b0) hL w.heap.size bx z p
  have HL := Lib.hid (list_prog w.heap.size ao n c z p W0 (bx.cell 0 _ hc0) hn hn63)
  have B0 := Lib.hid b0
  have HW0 := Lib.hid hW0
  clear hc0 hn hn63 bx b0 hW0 h
  rcases hx with ⟨hp, hl⟩ | ⟨ab, oo, v, hp, hcell, hr⟩
  · rw [hp] at HL
    rw [hl]
    clear hp hl
    go_enter Try.func26, Try.ntmps26
    go_wp2_with fail
    rw [← HW0.out]
    refine HL.out.mono ?_
    rintro e w1 ⟨rfl, rfl⟩
    go_wp2_with fail
    go_ret
    exact ⟨_, rfl, ownI_nil _ _, B0.out⟩
  · rw [hp] at HL
    have HC := Lib.hid (clone_own F L v (listT ds z p) W0 hr hL)
    clear hp hr
    go_enter Try.func26, Try.ntmps26
    go_wp2_with fail
    rw [← HW0.out]
    refine HL.out.mono ?_
    rintro e w1 ⟨rfl, rfl⟩
    go_wp2_with fail
    refine HC.out.mono ?_
    rintro e w2 ⟨v', rfl, own, b2⟩
    have OW := Lib.hid own
    have B2 := Lib.hid b2
    clear own b2
    go_wp2_with fail
    go_ret
    exact ⟨v', rfl, OW.out.low B0.out.size, B0.out.trans (B2.out.mono B0.out.size)⟩
/-- Where an object lies. -/
def whereI (ds : List D) (o : List D) (id : Int) : Int := if dint o 4 == 5 then fidx (fun x => dint x 0 == id && dint x 1 == 1) (dxs ds 4) else fidx (fun x => dint x 0 == id) (listT ds (dint o 4) (dint o 2))
def whereT (ds : List D) (id : Int) : Int × Int × Bool :=
  if hasO id (dxs ds 1) then
    if whereI ds (findO id (dxs ds 1)) id < 0 then (0, 0, false) else (dint (findO id (dxs ds 1)) 4, whereI ds (findO id (dxs ds 1)) id, true)
  else (0, 0, false)
theorem cell_old {w w' : World} {a : Addr} {v : Value} (h : w.cell? a = some v) (hb : Below w.heap.size w w') : w'.cell? a = some v := by
  by_cases ha : a.block < w.heap.size
  · exact (World.cell?_of_block (hb.block _ ha)).trans h
  · unfold World.cell? at h
    rw [Array.getElem?_eq_none (Nat.not_lt.1 ha)] at h
    cases h
set_option maxRecDepth 100000 in
set_option maxHeartbeats 8000000 in
theorem where_prog (F : Nat → Prop) (L : Nat) (cs : List Value) (ds : List D) (id : Int) (w : World) (h : RdL F L w kState cs ds) (hL : L ≤ 140737488355328) :
    Calls Try.prog 12 #[.agg cs.toArray, .int .i64 id] w fun e w' => e = .returned (.tuple #[.int .i64 (whereT ds id).1, .int .i64 (whereT ds id).2.1, .bool (whereT ds id).2.2]) ∧ Below w.heap.size w w' := by
  have hl := h.len.1
  rw [kState_len] at hl
  obtain ⟨W0, hW0⟩ : ∃ W, W = (w.alloc (.cells cs.toArray 30)).alloc (.cells #[.int .i64 id] 3) := ⟨_, rfl⟩
  have hsz : (w.alloc (.cells cs.toArray 30)).heap.size = w.heap.size + 1 := by simp
  have bx : Bx W0 w.heap.size 30 cs := by rw [hW0]; exact (Bx.new _ _ _).old ((Below.refl _ _).alloc (Nat.le_refl _) _)
  have bi : Bx W0 (w.heap.size + 1) 3 [.int .i64 id] := by rw [hW0, ← hsz]; exact Bx.new _ _ _
  have b0 : Below w.heap.size w W0 := by rw [hW0]; exact ((Below.refl w.heap.size w).alloc (Nat.le_refl _) _).alloc (by rw [hsz]; omega) _
  have RG := Lib.hid (show ((w.alloc (.cells cs.toArray 30)).alloc (.cells #[.int .i64 id] 3)).rangeAt w.heap.size 0 cs from (by rw [hW0] at bx; exact bx.range))
  have HI := Lib.hid (show (Try.prog.info? 30).map (·.size) = some cs.length by rw [infoState, hl])
  have HF := Lib.hid (find_prog F L cs ds id W0 (h.old b0) hL)
  have hr0 := h.old b0
  have B0 := Lib.hid b0
  have hci := bi.cell 0 _ rfl
  obtain ⟨o, ho⟩ : ∃ o, o = findO id (dxs ds 1) := ⟨_, rfl⟩
  obtain ⟨zz, hzz⟩ : ∃ zz, zz = dint o 4 := ⟨_, rfl⟩
  obtain ⟨pp, hpp⟩ : ∃ pp, pp = dint o 2 := ⟨_, rfl⟩
  obtain ⟨kx, hkx⟩ : ∃ kx, kx = whereI ds o id := ⟨_, rfl⟩
  have hk : kx = (if zz == 5 then fidx (fun x => dint x 0 == id && dint x 1 == 1) (dxs ds 4) else fidx (fun x => dint x 0 == id) (listT ds zz pp)) := by rw [hkx, hzz, hpp]; rfl
  obtain ⟨ao, n, c, hc0, hn, hn63, hx⟩ := rd_list hr0 hL w.heap.size bx zz pp
  have HL := Lib.hid (list_prog w.heap.size ao n c zz pp)
  have HR := Lib.hid hr0
  have BX := Lib.hid bx
  have BI := Lib.hid bi
  have HN := Lib.hid hn
  have HN63 := Lib.hid hn63
  have HC0 := Lib.hid hc0
  have HZZ := Lib.hid hzz
  have HPP := Lib.hid hpp
  have HW0 := Lib.hid hW0
  have hci' := hci
  rw [hW0] at hci'
  rw [← ho] at HF
  clear h hl hsz bx bi b0 hW0 hr0 hn hn63 hci hc0
  cases hh : hasO id (dxs ds 1)
  · have hw : whereT ds id = (0, 0, false) := by unfold whereT; rw [hh, ← ho]; rfl
    rw [hw]
    dsimp only
    clear hw hci' ho hzz hpp hkx hk hx
    rw [hh] at HF
    clear hh
    go_enter Try.func12, Try.ntmps12
    go_wp2_with (with_reducible refine wpList_load_mid rfl 30 (.tmp 2) rfl w.heap.size 0 ?_ cs _ RG.out Try.underlying30 rfl HI.out ?_; simp [Act.eval])
    rw [← HW0.out]
    refine HF.out.mono ?_
    rintro e w1 ⟨oc, rfl, ro, b1⟩
    have B1 := Lib.hid b1
    obtain ⟨W2, hW2⟩ : ∃ W, W = w1.alloc (.cells #[.int .i64 0, .int .i64 0, .int .i64 0, .int .i64 0, .int .i64 0, .bool false, .bool false, .bool false, .bool false, .int .i64 0, .int .i64 0, .int .i64 0, .int .i64 0, .int .i64 0, .int .i64 0, .int .i64 0, .bool false, .int .i64 0, .int .i64 0] 47) := ⟨_, rfl⟩
    have hol := ro.len.1
    rw [kObject_len] at hol
    have hosz : oc.toArray.size = 19 := by rw [List.size_toArray, hol]
    have z2 : Bx W2 w1.heap.size 47 zObjC.1 := by rw [hW2]; exact Bx.new w1 zObjC.1 _
    have HT := Lib.hid (show (w1.alloc (.cells #[.int .i64 0, .int .i64 0, .int .i64 0, .int .i64 0, .int .i64 0, .bool false, .bool false, .bool false, .bool false, .int .i64 0, .int .i64 0, .int .i64 0, .int .i64 0, .int .i64 0, .int .i64 0, .int .i64 0, .bool false, .int .i64 0, .int .i64 0] 47)).there w1.heap.size 0 oc.toArray.size from (by
      have := z2.there
      rw [hW2] at this
      rw [hosz]
      exact this))
    have HZ := Lib.hid (show (Try.prog.info? 47).map (·.size) = some oc.toArray.size by rw [infoObject, hosz])
    have HO := Lib.hid (show oc.toArray.all (·.oneCell') = true from all_oneCell_toArray ro.one)
    obtain ⟨W3, hW3⟩ : ∃ W, W = (w1.alloc (.cells #[.int .i64 0, .int .i64 0, .int .i64 0, .int .i64 0, .int .i64 0, .bool false, .bool false, .bool false, .bool false, .int .i64 0, .int .i64 0, .int .i64 0, .int .i64 0, .int .i64 0, .int .i64 0, .int .i64 0, .bool false, .int .i64 0, .int .i64 0] 47)).setCells w1.heap.size 0 oc := ⟨_, rfl⟩
    have bo : Bx W3 w1.heap.size 47 oc := by rw [hW3, ← hW2]; exact z2.setAll oc (by rw [hol]; rfl)
    have b3 : Below w1.heap.size w1 W3 := by rw [hW3]; exact below_sets _ _ _ ((Below.refl _ _).alloc (Nat.le_refl _) _) _ (Nat.le_refl _)
    have HW3 := Lib.hid hW3
    have bb := b1.trans (b3.mono b1.size)
    have BB := Lib.hid bb
    have BEL := Lib.hid (B0.out.trans (bb.mono B0.out.size))
    have RO := Lib.hid ro
    have BO := Lib.hid bo
    have B3 := Lib.hid b3
    clear b1 hW2 z2 hol hosz hW3 b3 bo ro bb
    go_wp2_with (refine wpList_store_mid rfl 47 (.tmp 7) (.tmp 15) rfl w1.heap.size 0 oc.toArray ?_ ?_ HT.out HZ.out HO.out ?_; rfl; rfl)
    go_ret3
    refine ⟨rfl, ?_⟩
    have := BEL.out
    rw [HW3.out] at this
    exact this
  · cases h5 : zz == 5
    · rw [h5] at hk
      simp only [Bool.false_eq_true, if_false] at hk
      rcases hx with ⟨hp, hl⟩ | ⟨ab, oo, v, hp, hcell, hr⟩
      · rw [hp] at HL
        have hk' : kx = -1 := by rw [hk, hl]; rfl
        have hw : whereT ds id = (0, 0, false) := by unfold whereT; rw [hh, ← ho]; rw [← hkx]; exact if_pos (show kx < 0 by rw [hk']; decide)
        rw [hw]
        dsimp only
        clear hw ho hzz hpp hkx hk hk' hp hl
        rw [hh] at HF
        clear hh
        go_enter Try.func12, Try.ntmps12
        go_wp2_with (with_reducible refine wpList_load_mid rfl 30 (.tmp 2) rfl w.heap.size 0 ?_ cs _ RG.out Try.underlying30 rfl HI.out ?_; simp [Act.eval])
        rw [← HW0.out]
        refine HF.out.mono ?_
        rintro e w1 ⟨oc, rfl, ro, b1⟩
        have B1 := Lib.hid b1
        obtain ⟨W2, hW2⟩ : ∃ W, W = w1.alloc (.cells #[.int .i64 0, .int .i64 0, .int .i64 0, .int .i64 0, .int .i64 0, .bool false, .bool false, .bool false, .bool false, .int .i64 0, .int .i64 0, .int .i64 0, .int .i64 0, .int .i64 0, .int .i64 0, .int .i64 0, .bool false, .int .i64 0, .int .i64 0] 47) := ⟨_, rfl⟩
        have hol := ro.len.1
        rw [kObject_len] at hol
        have hosz : oc.toArray.size = 19 := by rw [List.size_toArray, hol]
        have z2 : Bx W2 w1.heap.size 47 zObjC.1 := by rw [hW2]; exact Bx.new w1 zObjC.1 _
        have HT := Lib.hid (show (w1.alloc (.cells #[.int .i64 0, .int .i64 0, .int .i64 0, .int .i64 0, .int .i64 0, .bool false, .bool false, .bool false, .bool false, .int .i64 0, .int .i64 0, .int .i64 0, .int .i64 0, .int .i64 0, .int .i64 0, .int .i64 0, .bool false, .int .i64 0, .int .i64 0] 47)).there w1.heap.size 0 oc.toArray.size from (by
          have := z2.there
          rw [hW2] at this
          rw [hosz]
          exact this))
        have HZ := Lib.hid (show (Try.prog.info? 47).map (·.size) = some oc.toArray.size by rw [infoObject, hosz])
        have HO := Lib.hid (show oc.toArray.all (·.oneCell') = true from all_oneCell_toArray ro.one)
        obtain ⟨W3, hW3⟩ : ∃ W, W = (w1.alloc (.cells #[.int .i64 0, .int .i64 0, .int .i64 0, .int .i64 0, .int .i64 0, .bool false, .bool false, .bool false, .bool false, .int .i64 0, .int .i64 0, .int .i64 0, .int .i64 0, .int .i64 0, .int .i64 0, .int .i64 0, .bool false, .int .i64 0, .int .i64 0] 47)).setCells w1.heap.size 0 oc := ⟨_, rfl⟩
        have bo : Bx W3 w1.heap.size 47 oc := by rw [hW3, ← hW2]; exact z2.setAll oc (by rw [hol]; rfl)
        have b3 : Below w1.heap.size w1 W3 := by rw [hW3]; exact below_sets _ _ _ ((Below.refl _ _).alloc (Nat.le_refl _) _) _ (Nat.le_refl _)
        have HW3 := Lib.hid hW3
        have bb := b1.trans (b3.mono b1.size)
        have BB := Lib.hid bb
        have BEL := Lib.hid (B0.out.trans (bb.mono B0.out.size))
        have RO := Lib.hid ro
        have BO := Lib.hid bo
        have B3 := Lib.hid b3
        have co4 := bo.cell 4 _ (ro.int 4 rfl).1
        have co2 := bo.cell 2 _ (ro.int 2 rfl).1
        rw [← HZZ.out] at co4
        rw [← HPP.out] at co2
        rw [hW3] at co4 co2
        have HL3 := Lib.hid (HL.out W3 ((BX.out.old bb).cell 0 _ HC0.out) HN.out HN63.out)
        clear b1 hW2 z2 hol hosz hW3 b3 bo ro bb
        go_wp2_with (refine wpList_store_mid rfl 47 (.tmp 7) (.tmp 15) rfl w1.heap.size 0 oc.toArray ?_ ?_ HT.out HZ.out HO.out ?_; rfl; rfl)
        rw [← HW3.out]
        refine HL3.out.mono ?_
        rintro e w4 ⟨rfl, rfl⟩
        go_wp2_with fail
        go_ret3
        exact ⟨rfl, BEL.out⟩
      · by_cases hneg : kx < 0
        · rw [hp] at HL
          have HCE := Lib.hid hcell
          have hw : whereT ds id = (0, 0, false) := by unfold whereT; rw [hh, ← ho]; rw [← hkx]; exact if_pos hneg
          rw [hw]
          dsimp only
          clear hw ho hzz hpp hkx hp hcell
          rw [hh] at HF
          clear hh
          go_enter Try.func12, Try.ntmps12
          go_wp2_with (with_reducible refine wpList_load_mid rfl 30 (.tmp 2) rfl w.heap.size 0 ?_ cs _ RG.out Try.underlying30 rfl HI.out ?_; simp [Act.eval])
          rw [← HW0.out]
          refine HF.out.mono ?_
          rintro e w1 ⟨oc, rfl, ro, b1⟩
          have B1 := Lib.hid b1
          obtain ⟨W2, hW2⟩ : ∃ W, W = w1.alloc (.cells #[.int .i64 0, .int .i64 0, .int .i64 0, .int .i64 0, .int .i64 0, .bool false, .bool false, .bool false, .bool false, .int .i64 0, .int .i64 0, .int .i64 0, .int .i64 0, .int .i64 0, .int .i64 0, .int .i64 0, .bool false, .int .i64 0, .int .i64 0] 47) := ⟨_, rfl⟩
          have hol := ro.len.1
          rw [kObject_len] at hol
          have hosz : oc.toArray.size = 19 := by rw [List.size_toArray, hol]
          have z2 : Bx W2 w1.heap.size 47 zObjC.1 := by rw [hW2]; exact Bx.new w1 zObjC.1 _
          have HT := Lib.hid (show (w1.alloc (.cells #[.int .i64 0, .int .i64 0, .int .i64 0, .int .i64 0, .int .i64 0, .bool false, .bool false, .bool false, .bool false, .int .i64 0, .int .i64 0, .int .i64 0, .int .i64 0, .int .i64 0, .int .i64 0, .int .i64 0, .bool false, .int .i64 0, .int .i64 0] 47)).there w1.heap.size 0 oc.toArray.size from (by
            have := z2.there
            rw [hW2] at this
            rw [hosz]
            exact this))
          have HZ := Lib.hid (show (Try.prog.info? 47).map (·.size) = some oc.toArray.size by rw [infoObject, hosz])
          have HO := Lib.hid (show oc.toArray.all (·.oneCell') = true from all_oneCell_toArray ro.one)
          obtain ⟨W3, hW3⟩ : ∃ W, W = (w1.alloc (.cells #[.int .i64 0, .int .i64 0, .int .i64 0, .int .i64 0, .int .i64 0, .bool false, .bool false, .bool false, .bool false, .int .i64 0, .int .i64 0, .int .i64 0, .int .i64 0, .int .i64 0, .int .i64 0, .int .i64 0, .bool false, .int .i64 0, .int .i64 0] 47)).setCells w1.heap.size 0 oc := ⟨_, rfl⟩
          have bo : Bx W3 w1.heap.size 47 oc := by rw [hW3, ← hW2]; exact z2.setAll oc (by rw [hol]; rfl)
          have b3 : Below w1.heap.size w1 W3 := by rw [hW3]; exact below_sets _ _ _ ((Below.refl _ _).alloc (Nat.le_refl _) _) _ (Nat.le_refl _)
          have HW3 := Lib.hid hW3
          have bb := b1.trans (b3.mono b1.size)
          have BB := Lib.hid bb
          have BEL := Lib.hid (B0.out.trans (bb.mono B0.out.size))
          have RO := Lib.hid ro
          have BO := Lib.hid bo
          have B3 := Lib.hid b3
          have co4 := bo.cell 4 _ (ro.int 4 rfl).1
          have co2 := bo.cell 2 _ (ro.int 2 rfl).1
          rw [← HZZ.out] at co4
          rw [← HPP.out] at co2
          rw [hW3] at co4 co2
          have HL3 := Lib.hid (HL.out W3 ((BX.out.old bb).cell 0 _ HC0.out) HN.out HN63.out)
          have ce3 := cell_old HCE.out bb
          have ci3 := (BI.out.old bb).cell 0 _ rfl
          have HX := Lib.hid (fun m => index_int F L v (listT ds zz pp) id (W3.drewN m) ((hr.old bb).old (drewN_grow W3 m)) hL)
          rw [← hk] at HX
          clear hr hk
          have co4' := bo.cell 4 _ (ro.int 4 rfl).1
          rw [← HZZ.out] at co4'
          clear b1 hW2 z2 hol hosz hW3 b3 bo ro bb
          go_wp2_with (refine wpList_store_mid rfl 47 (.tmp 7) (.tmp 15) rfl w1.heap.size 0 oc.toArray ?_ ?_ HT.out HZ.out HO.out ?_; rfl; rfl)
          rw [← HW3.out]
          refine HL3.out.mono ?_
          rintro e w4 ⟨rfl, rfl⟩
          go_wp2_with fail
          go_quiet ((go_at_call 34; exact Calls.quiet_of_same (HX.out _)))
          go_wp2_with fail
          go_ret3
          exact ⟨rfl, below_drewN BEL.out _⟩
        · rw [hp] at HL
          have HCE := Lib.hid hcell
          have hw : whereT ds id = (zz, kx, true) := by unfold whereT; rw [hh, ← ho]; rw [← hkx, ← hzz]; exact if_neg hneg
          rw [hw]
          dsimp only
          clear hw ho hzz hpp hkx hp hcell
          rw [hh] at HF
          clear hh
          go_enter Try.func12, Try.ntmps12
          go_wp2_with (with_reducible refine wpList_load_mid rfl 30 (.tmp 2) rfl w.heap.size 0 ?_ cs _ RG.out Try.underlying30 rfl HI.out ?_; simp [Act.eval])
          rw [← HW0.out]
          refine HF.out.mono ?_
          rintro e w1 ⟨oc, rfl, ro, b1⟩
          have B1 := Lib.hid b1
          obtain ⟨W2, hW2⟩ : ∃ W, W = w1.alloc (.cells #[.int .i64 0, .int .i64 0, .int .i64 0, .int .i64 0, .int .i64 0, .bool false, .bool false, .bool false, .bool false, .int .i64 0, .int .i64 0, .int .i64 0, .int .i64 0, .int .i64 0, .int .i64 0, .int .i64 0, .bool false, .int .i64 0, .int .i64 0] 47) := ⟨_, rfl⟩
          have hol := ro.len.1
          rw [kObject_len] at hol
          have hosz : oc.toArray.size = 19 := by rw [List.size_toArray, hol]
          have z2 : Bx W2 w1.heap.size 47 zObjC.1 := by rw [hW2]; exact Bx.new w1 zObjC.1 _
          have HT := Lib.hid (show (w1.alloc (.cells #[.int .i64 0, .int .i64 0, .int .i64 0, .int .i64 0, .int .i64 0, .bool false, .bool false, .bool false, .bool false, .int .i64 0, .int .i64 0, .int .i64 0, .int .i64 0, .int .i64 0, .int .i64 0, .int .i64 0, .bool false, .int .i64 0, .int .i64 0] 47)).there w1.heap.size 0 oc.toArray.size from (by
            have := z2.there
            rw [hW2] at this
            rw [hosz]
            exact this))
          have HZ := Lib.hid (show (Try.prog.info? 47).map (·.size) = some oc.toArray.size by rw [infoObject, hosz])
          have HO := Lib.hid (show oc.toArray.all (·.oneCell') = true from all_oneCell_toArray ro.one)
          obtain ⟨W3, hW3⟩ : ∃ W, W = (w1.alloc (.cells #[.int .i64 0, .int .i64 0, .int .i64 0, .int .i64 0, .int .i64 0, .bool false, .bool false, .bool false, .bool false, .int .i64 0, .int .i64 0, .int .i64 0, .int .i64 0, .int .i64 0, .int .i64 0, .int .i64 0, .bool false, .int .i64 0, .int .i64 0] 47)).setCells w1.heap.size 0 oc := ⟨_, rfl⟩
          have bo : Bx W3 w1.heap.size 47 oc := by rw [hW3, ← hW2]; exact z2.setAll oc (by rw [hol]; rfl)
          have b3 : Below w1.heap.size w1 W3 := by rw [hW3]; exact below_sets _ _ _ ((Below.refl _ _).alloc (Nat.le_refl _) _) _ (Nat.le_refl _)
          have HW3 := Lib.hid hW3
          have bb := b1.trans (b3.mono b1.size)
          have BB := Lib.hid bb
          have BEL := Lib.hid (B0.out.trans (bb.mono B0.out.size))
          have RO := Lib.hid ro
          have BO := Lib.hid bo
          have B3 := Lib.hid b3
          have co4 := bo.cell 4 _ (ro.int 4 rfl).1
          have co2 := bo.cell 2 _ (ro.int 2 rfl).1
          rw [← HZZ.out] at co4
          rw [← HPP.out] at co2
          rw [hW3] at co4 co2
          have HL3 := Lib.hid (HL.out W3 ((BX.out.old bb).cell 0 _ HC0.out) HN.out HN63.out)
          have ce3 := cell_old HCE.out bb
          have ci3 := (BI.out.old bb).cell 0 _ rfl
          have HX := Lib.hid (fun m => index_int F L v (listT ds zz pp) id (W3.drewN m) ((hr.old bb).old (drewN_grow W3 m)) hL)
          rw [← hk] at HX
          clear hr hk
          have co4' := bo.cell 4 _ (ro.int 4 rfl).1
          rw [← HZZ.out] at co4'
          clear b1 hW2 z2 hol hosz hW3 b3 bo ro bb
          go_wp2_with (refine wpList_store_mid rfl 47 (.tmp 7) (.tmp 15) rfl w1.heap.size 0 oc.toArray ?_ ?_ HT.out HZ.out HO.out ?_; rfl; rfl)
          rw [← HW3.out]
          refine HL3.out.mono ?_
          rintro e w4 ⟨rfl, rfl⟩
          go_wp2_with fail
          go_quiet ((go_at_call 34; exact Calls.quiet_of_same (HX.out _)))
          go_wp2_with fail
          go_ret3
          exact ⟨rfl, below_drewN BEL.out _⟩
    · rw [h5] at hk
      simp only [if_true] at hk
      by_cases hneg : kx < 0
      · obtain ⟨v4, hv4, _, r4⟩ := HR.out.sl 4 _ _ rfl
        have HV4 := Lib.hid hv4
        have hw : whereT ds id = (0, 0, false) := by unfold whereT; rw [hh, ← ho]; rw [← hkx]; exact if_pos hneg
        rw [hw]
        dsimp only
        clear hw ho hzz hpp hkx hv4 hx
        rw [hh] at HF
        clear hh
        go_enter Try.func12, Try.ntmps12
        go_wp2_with (with_reducible refine wpList_load_mid rfl 30 (.tmp 2) rfl w.heap.size 0 ?_ cs _ RG.out Try.underlying30 rfl HI.out ?_; simp [Act.eval])
        rw [← HW0.out]
        refine HF.out.mono ?_
        rintro e w1 ⟨oc, rfl, ro, b1⟩
        have B1 := Lib.hid b1
        obtain ⟨W2, hW2⟩ : ∃ W, W = w1.alloc (.cells #[.int .i64 0, .int .i64 0, .int .i64 0, .int .i64 0, .int .i64 0, .bool false, .bool false, .bool false, .bool false, .int .i64 0, .int .i64 0, .int .i64 0, .int .i64 0, .int .i64 0, .int .i64 0, .int .i64 0, .bool false, .int .i64 0, .int .i64 0] 47) := ⟨_, rfl⟩
        have hol := ro.len.1
        rw [kObject_len] at hol
        have hosz : oc.toArray.size = 19 := by rw [List.size_toArray, hol]
        have z2 : Bx W2 w1.heap.size 47 zObjC.1 := by rw [hW2]; exact Bx.new w1 zObjC.1 _
        have HT := Lib.hid (show (w1.alloc (.cells #[.int .i64 0, .int .i64 0, .int .i64 0, .int .i64 0, .int .i64 0, .bool false, .bool false, .bool false, .bool false, .int .i64 0, .int .i64 0, .int .i64 0, .int .i64 0, .int .i64 0, .int .i64 0, .int .i64 0, .bool false, .int .i64 0, .int .i64 0] 47)).there w1.heap.size 0 oc.toArray.size from (by
          have := z2.there
          rw [hW2] at this
          rw [hosz]
          exact this))
        have HZ := Lib.hid (show (Try.prog.info? 47).map (·.size) = some oc.toArray.size by rw [infoObject, hosz])
        have HO := Lib.hid (show oc.toArray.all (·.oneCell') = true from all_oneCell_toArray ro.one)
        obtain ⟨W3, hW3⟩ : ∃ W, W = (w1.alloc (.cells #[.int .i64 0, .int .i64 0, .int .i64 0, .int .i64 0, .int .i64 0, .bool false, .bool false, .bool false, .bool false, .int .i64 0, .int .i64 0, .int .i64 0, .int .i64 0, .int .i64 0, .int .i64 0, .int .i64 0, .bool false, .int .i64 0, .int .i64 0] 47)).setCells w1.heap.size 0 oc := ⟨_, rfl⟩
        have bo : Bx W3 w1.heap.size 47 oc := by rw [hW3, ← hW2]; exact z2.setAll oc (by rw [hol]; rfl)
        have b3 : Below w1.heap.size w1 W3 := by rw [hW3]; exact below_sets _ _ _ ((Below.refl _ _).alloc (Nat.le_refl _) _) _ (Nat.le_refl _)
        have HW3 := Lib.hid hW3
        have bb := b1.trans (b3.mono b1.size)
        have BB := Lib.hid bb
        have BEL := Lib.hid (B0.out.trans (bb.mono B0.out.size))
        have RO := Lib.hid ro
        have BO := Lib.hid bo
        have B3 := Lib.hid b3
        have co4 := bo.cell 4 _ (ro.int 4 rfl).1
        have co2 := bo.cell 2 _ (ro.int 2 rfl).1
        rw [← HZZ.out] at co4
        rw [← HPP.out] at co2
        rw [hW3] at co4 co2
        have c4 := (BX.out.old bb).cell 4 _ HV4.out
        rw [hW3] at c4
        have ci3 := (BI.out.old bb).cell 0 _ rfl
        have HX := Lib.hid (idx_where F L v4 (dxs ds 4) id (w.heap.size + 1) W3 (r4.old bb) hL ci3)
        rw [← hk] at HX
        rw [hW3] at ci3
        clear r4 hk
        clear b1 hW2 z2 hol hosz hW3 b3 bo ro bb
        go_wp2_with (refine wpList_store_mid rfl 47 (.tmp 7) (.tmp 15) rfl w1.heap.size 0 oc.toArray ?_ ?_ HT.out HZ.out HO.out ?_; rfl; rfl)
        rw [← HW3.out]
        refine HX.out.mono ?_
        rintro e w4 ⟨rfl, b4⟩
        have B4 := Lib.hid b4
        have co4' := (BO.out.old b4).cell 4 _ (RO.out.int 4 rfl).1
        rw [← HZZ.out] at co4'
        clear b4
        go_wp2_with fail
        go_ret3
        exact ⟨rfl, BEL.out.trans (B4.out.mono BEL.out.size)⟩
      · obtain ⟨v4, hv4, _, r4⟩ := HR.out.sl 4 _ _ rfl
        have HV4 := Lib.hid hv4
        have hw : whereT ds id = (zz, kx, true) := by unfold whereT; rw [hh, ← ho]; rw [← hkx, ← hzz]; exact if_neg hneg
        rw [hw]
        dsimp only
        clear hw ho hzz hpp hkx hv4 hx
        rw [hh] at HF
        clear hh
        go_enter Try.func12, Try.ntmps12
        go_wp2_with (with_reducible refine wpList_load_mid rfl 30 (.tmp 2) rfl w.heap.size 0 ?_ cs _ RG.out Try.underlying30 rfl HI.out ?_; simp [Act.eval])
        rw [← HW0.out]
        refine HF.out.mono ?_
        rintro e w1 ⟨oc, rfl, ro, b1⟩
        have B1 := Lib.hid b1
        obtain ⟨W2, hW2⟩ : ∃ W, W = w1.alloc (.cells #[.int .i64 0, .int .i64 0, .int .i64 0, .int .i64 0, .int .i64 0, .bool false, .bool false, .bool false, .bool false, .int .i64 0, .int .i64 0, .int .i64 0, .int .i64 0, .int .i64 0, .int .i64 0, .int .i64 0, .bool false, .int .i64 0, .int .i64 0] 47) := ⟨_, rfl⟩
        have hol := ro.len.1
        rw [kObject_len] at hol
        have hosz : oc.toArray.size = 19 := by rw [List.size_toArray, hol]
        have z2 : Bx W2 w1.heap.size 47 zObjC.1 := by rw [hW2]; exact Bx.new w1 zObjC.1 _
        have HT := Lib.hid (show (w1.alloc (.cells #[.int .i64 0, .int .i64 0, .int .i64 0, .int .i64 0, .int .i64 0, .bool false, .bool false, .bool false, .bool false, .int .i64 0, .int .i64 0, .int .i64 0, .int .i64 0, .int .i64 0, .int .i64 0, .int .i64 0, .bool false, .int .i64 0, .int .i64 0] 47)).there w1.heap.size 0 oc.toArray.size from (by
          have := z2.there
          rw [hW2] at this
          rw [hosz]
          exact this))
        have HZ := Lib.hid (show (Try.prog.info? 47).map (·.size) = some oc.toArray.size by rw [infoObject, hosz])
        have HO := Lib.hid (show oc.toArray.all (·.oneCell') = true from all_oneCell_toArray ro.one)
        obtain ⟨W3, hW3⟩ : ∃ W, W = (w1.alloc (.cells #[.int .i64 0, .int .i64 0, .int .i64 0, .int .i64 0, .int .i64 0, .bool false, .bool false, .bool false, .bool false, .int .i64 0, .int .i64 0, .int .i64 0, .int .i64 0, .int .i64 0, .int .i64 0, .int .i64 0, .bool false, .int .i64 0, .int .i64 0] 47)).setCells w1.heap.size 0 oc := ⟨_, rfl⟩
        have bo : Bx W3 w1.heap.size 47 oc := by rw [hW3, ← hW2]; exact z2.setAll oc (by rw [hol]; rfl)
        have b3 : Below w1.heap.size w1 W3 := by rw [hW3]; exact below_sets _ _ _ ((Below.refl _ _).alloc (Nat.le_refl _) _) _ (Nat.le_refl _)
        have HW3 := Lib.hid hW3
        have bb := b1.trans (b3.mono b1.size)
        have BB := Lib.hid bb
        have BEL := Lib.hid (B0.out.trans (bb.mono B0.out.size))
        have RO := Lib.hid ro
        have BO := Lib.hid bo
        have B3 := Lib.hid b3
        have co4 := bo.cell 4 _ (ro.int 4 rfl).1
        have co2 := bo.cell 2 _ (ro.int 2 rfl).1
        rw [← HZZ.out] at co4
        rw [← HPP.out] at co2
        rw [hW3] at co4 co2
        have c4 := (BX.out.old bb).cell 4 _ HV4.out
        rw [hW3] at c4
        have ci3 := (BI.out.old bb).cell 0 _ rfl
        have HX := Lib.hid (idx_where F L v4 (dxs ds 4) id (w.heap.size + 1) W3 (r4.old bb) hL ci3)
        rw [← hk] at HX
        rw [hW3] at ci3
        clear r4 hk
        clear b1 hW2 z2 hol hosz hW3 b3 bo ro bb
        go_wp2_with (refine wpList_store_mid rfl 47 (.tmp 7) (.tmp 15) rfl w1.heap.size 0 oc.toArray ?_ ?_ HT.out HZ.out HO.out ?_; rfl; rfl)
        rw [← HW3.out]
        refine HX.out.mono ?_
        rintro e w4 ⟨rfl, b4⟩
        have B4 := Lib.hid b4
        have co4' := (BO.out.old b4).cell 4 _ (RO.out.int 4 rfl).1
        rw [← HZZ.out] at co4'
        clear b4
        go_wp2_with fail
        go_ret3
        exact ⟨rfl, BEL.out.trans (B4.out.mono BEL.out.size)⟩
end Go.Proofs.Ytiebjkbofoppaaa
