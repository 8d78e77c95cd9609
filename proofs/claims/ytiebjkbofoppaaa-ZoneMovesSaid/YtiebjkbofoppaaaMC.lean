/- Parts of the proof, joined: Chapter 25: List, Where of the program; Chapter 25: put, Put of the program; Chapter 25: Set, remove of the program; Chapter 25: New, Moved of the program and of the reference; Chapter 25: Make of the program. -/
import Derived.Test.YtiebjkbofoppaaaMB
import Derived.Great.BuildSlice
section
namespace Go.Proofs.Ytiebjkbofoppaaa
open Go Go.RowKit Go.Sort Cg
/-- The pointer to the list of a zone of a state that is read. -/
theorem rd_list {F : Nat → Prop} {L : Nat} {w : World} {cs : List Value} {ds : List D} (h : RdL F L w kState cs ds) (hL : L ≤ 140737488355328) (b : Nat) (X : Bx w b 30 cs) (z p : Int) : ∃ ao n c, cs[0]? = some (.slice ao n c) ∧ (0 < n → ∃ g o, ao = some ⟨g, o, none⟩) ∧ n ≤ 1000000000000000000 ∧
  ((listPtr b ao n z p = none ∧ listT ds z p = []) ∨ ∃ ab oo v, listPtr b ao n z p = some ⟨ab, oo, none⟩ ∧ w.cell? ⟨ab, oo, none⟩ = some v ∧ RdC F L w kInts v (.sl (listT ds z p))) := by
 obtain ⟨v0, hv0, hd0, r0⟩ := h.sl 0 _ _ rfl
 obtain ⟨v2, hv2, hd2, r2⟩ := h.sl 2 _ _ rfl
 obtain ⟨v3, hv3, hd3, r3⟩ := h.sl 3 _ _ rfl
 obtain ⟨ao, cap, rfl, hcap, hby, hnn, hx⟩ := r0.form
 refine ⟨ao, _, cap, hv0, fun hn => ?_, by omega, ?_⟩
 ·rcases hx with hx | ⟨b, o, rfl, _⟩
  ·rw [hx] at hn; simp at hn
  ·exact ⟨_, _, rfl⟩
 cases h0 : z == 0
 ·cases h4 : z == 4
  ·by_cases hp : p < 0 ∨ ((dxs ds 0).length : Int) ≤ p
   ·exact .inl ⟨by unfold listPtr; simp [h0, h4, hp], by unfold listT; simp [h0, h4, hp]⟩
   ·have hp2 : p.toNat < (dxs ds 0).length := by omega
    have hgd : (dxs ds 0).getD p.toNat [] = (dxs ds 0)[p.toNat] := by rw [List.getD_eq_getElem?_getD, List.getElem?_eq_getElem hp2]; rfl
    rcases hx with hx | ⟨g, o, rfl, hF, hgl, hE⟩
    ·rw [hx] at hp2; simp at hp2
    obtain ⟨vs, hvs, hrd⟩ := hE.get p.toNat _ (List.getElem?_eq_getElem hp2)
    have hk14 : kPlayer.length = 14 := by decide
    rw [hk14] at hvs
    have key : ∀ i, kPlayer[i]? = some kInts → kof z = some i → listPtr b (some ⟨g, o, none⟩) (dxs ds 0).length z p = some ⟨g, o + p.toNat * 14 + i, none⟩ → ∃ ab oo v, listPtr b (some ⟨g, o, none⟩) (dxs ds 0).length z p = some ⟨ab, oo, none⟩ ∧ w.cell? ⟨ab, oo, none⟩ = some v ∧ RdC F L w kInts v (.sl (listT ds z p)) := fun i hk hkz hptr => by
     obtain ⟨v, hv, _, hr⟩ := hrd.sl i _ _ hk
     exact ⟨g, _, v, hptr, hvs i v hv, by
      have e : listT ds z p = dxs (dxs ds 0)[p.toNat] i := by unfold listT; simp only [h0, h4, hp, hkz, hgd]; simp
      rw [e]; exact hr⟩
    cases h1 : z == 1
    ·cases h2 : z == 2
     ·cases h3 : z == 3
      ·exact .inl ⟨by unfold listPtr; simp [h0, h4, hp, h1, h2, h3], by unfold listT kof; simp [h0, h4, h1, h2, h3]⟩
      ·exact .inr (key 13 rfl (by unfold kof; simp [h1, h2, h3]) (by unfold listPtr; simp [h0, h4, hp, h1, h2, h3]))
     ·exact .inr (key 11 rfl (by unfold kof; simp [h1, h2]) (by unfold listPtr; simp [h0, h4, hp, h1, h2]))
    ·exact .inr (key 12 rfl (by unfold kof; simp [h1]) (by unfold listPtr; simp [h0, h4, hp, h1]))
  ·exact .inr ⟨b, 3, v3, by unfold listPtr; simp [h0, h4], X.cell 3 _ hv3, by
    have e : listT ds z p = dxs ds 3 := by unfold listT; simp [h0, h4]
    rw [e]; exact r3⟩
 ·exact .inr ⟨b, 2, v2, by unfold listPtr; simp [h0], X.cell 2 _ hv2, by
   have e : listT ds z p = dxs ds 2 := by unfold listT; simp [h0]
   rw [e]; exact r2⟩
theorem ownI_nil (B : Nat) (w : World) : OwnI B w (.slice none 0 0) [] := ⟨[], World.ownsRow_nil _ _ _ _, es_nil _ _ _ _ _⟩
set_option maxRecDepth 100000 in
set_option maxHeartbeats 4000000 in
theorem list_all (F : Nat → Prop) (L : Nat) (cs : List Value) (ds : List D) (z p : Int) (w : World) (h : RdL F L w kState cs ds) (hL : L ≤ 140737488355328) :
  Calls Try.prog 26 #[.agg cs.toArray, .int .i64 z, .int .i64 p] w fun e w' => ∃ v', e = .returned v' ∧ OwnI w.heap.size w' v' (listT ds z p) ∧ Below w.heap.size w w' := by
 obtain ⟨W0, hW0⟩ : ∃ W, W = w.alloc (.cells cs.toArray 30) := ⟨_, rfl⟩
 have bx : Bx W0 w.heap.size 30 cs := by rw [hW0]; exact Bx.new _ _ _
 have b0 : Below w.heap.size w W0 := by rw [hW0]; exact (Below.refl w.heap.size w).alloc (Nat.le_refl _) _
 obtain ⟨ao, n, c, hc0, hn, hn63, hx⟩ := rd_list (h.old b0) hL w.heap.size bx z p
 have HL := Lib.hid (list_prog w.heap.size ao n c z p W0 (bx.cell 0 _ hc0) hn hn63)
 have B0 := Lib.hid b0
 have HW0 := Lib.hid hW0
 clear hc0 hn hn63 bx b0 hW0 h
 rcases hx with ⟨hp, hl⟩ | ⟨ab, oo, v, hp, hcell, hr⟩
 ·rw [hp] at HL
  rw [hl]
  clear hp hl
  go_enter Try.func26, Try.ntmps26
  go_wp2_with fail
  rw [← HW0.out]
  refine HL.out.mono ?_
  rintro e w1 ⟨rfl, rfl⟩
  go_wp2_with fail
  go_ret
  exact ⟨_, rfl, ownI_nil _ _, B0.out⟩
 ·rw [hp] at HL
  have HC := Lib.hid (clone_own F L v (listT ds z p) W0 hr hL)
  clear hp hr
  go_enter Try.func26, Try.ntmps26
  go_wp2_with fail
  rw [← HW0.out]
  refine HL.out.mono ?_
  rintro e w1 ⟨rfl, rfl⟩
  go_wp2_with fail
  refine HC.out.mono ?_
  rintro e w2 ⟨v', rfl, own, b2⟩
  have OW := Lib.hid own
  have B2 := Lib.hid b2
  clear own b2
  go_wp2_with fail
  go_ret
  exact ⟨v', rfl, OW.out.low B0.out.size, B0.out.trans (B2.out.mono B0.out.size)⟩
/-- Where an object lies. -/
def whereI (ds : List D) (o : List D) (id : Int) : Int := if dint o 4 == 5 then fidx (fun x => dint x 0 == id && dint x 1 == 1) (dxs ds 4) else fidx (fun x => dint x 0 == id) (listT ds (dint o 4) (dint o 2))
def whereT (ds : List D) (id : Int) : Int × Int × Bool :=
 if hasO id (dxs ds 1) then
  if whereI ds (findO id (dxs ds 1)) id < 0 then (0, 0, false) else (dint (findO id (dxs ds 1)) 4, whereI ds (findO id (dxs ds 1)) id, true)
 else (0, 0, false)
theorem cell_old {w w' : World} {a : Addr} {v : Value} (h : w.cell? a = some v) (hb : Below w.heap.size w w') : w'.cell? a = some v := by
 by_cases ha : a.block < w.heap.size
 ·exact (World.cell?_of_block (hb.block _ ha)).trans h
 ·unfold World.cell? at h
  rw [Array.getElem?_eq_none (Nat.not_lt.1 ha)] at h
  cases h
set_option maxRecDepth 100000 in
set_option maxHeartbeats 8000000 in
theorem where_prog (F : Nat → Prop) (L : Nat) (cs : List Value) (ds : List D) (id : Int) (w : World) (h : RdL F L w kState cs ds) (hL : L ≤ 140737488355328) :
  Calls Try.prog 12 #[.agg cs.toArray, .int .i64 id] w fun e w' => e = .returned (.tuple #[.int .i64 (whereT ds id).1, .int .i64 (whereT ds id).2.1, .bool (whereT ds id).2.2]) ∧ Below w.heap.size w w' := by
 have hl := h.len.1
 rw [kState_len] at hl
 obtain ⟨W0, hW0⟩ : ∃ W, W = (w.alloc (.cells cs.toArray 30)).alloc (.cells #[.int .i64 id] 3) := ⟨_, rfl⟩
 have hsz : (w.alloc (.cells cs.toArray 30)).heap.size = w.heap.size + 1 := by simp
 have bx : Bx W0 w.heap.size 30 cs := by rw [hW0]; exact (Bx.new _ _ _).old ((Below.refl _ _).alloc (Nat.le_refl _) _)
 have bi : Bx W0 (w.heap.size + 1) 3 [.int .i64 id] := by rw [hW0, ← hsz]; exact Bx.new _ _ _
 have b0 : Below w.heap.size w W0 := by rw [hW0]; exact ((Below.refl w.heap.size w).alloc (Nat.le_refl _) _).alloc (by rw [hsz]; omega) _
 have RG := Lib.hid (show ((w.alloc (.cells cs.toArray 30)).alloc (.cells #[.int .i64 id] 3)).rangeAt w.heap.size 0 cs from (by rw [hW0] at bx; exact bx.range))
 have HI := Lib.hid (show (Try.prog.info? 30).map (·.size) = some cs.length by rw [infoState, hl])
 have HF := Lib.hid (find_prog F L cs ds id W0 (h.old b0) hL)
 have hr0 := h.old b0
 have B0 := Lib.hid b0
 have hci := bi.cell 0 _ rfl
 obtain ⟨o, ho⟩ : ∃ o, o = findO id (dxs ds 1) := ⟨_, rfl⟩
 obtain ⟨zz, hzz⟩ : ∃ zz, zz = dint o 4 := ⟨_, rfl⟩
 obtain ⟨pp, hpp⟩ : ∃ pp, pp = dint o 2 := ⟨_, rfl⟩
 obtain ⟨kx, hkx⟩ : ∃ kx, kx = whereI ds o id := ⟨_, rfl⟩
 have hk : kx = (if zz == 5 then fidx (fun x => dint x 0 == id && dint x 1 == 1) (dxs ds 4) else fidx (fun x => dint x 0 == id) (listT ds zz pp)) := by rw [hkx, hzz, hpp]; rfl
 obtain ⟨ao, n, c, hc0, hn, hn63, hx⟩ := rd_list hr0 hL w.heap.size bx zz pp
 have HL := Lib.hid (list_prog w.heap.size ao n c zz pp)
 have HR := Lib.hid hr0
 have BX := Lib.hid bx
 have BI := Lib.hid bi
 have HN := Lib.hid hn
 have HN63 := Lib.hid hn63
 have HC0 := Lib.hid hc0
 have HZZ := Lib.hid hzz
 have HPP := Lib.hid hpp
 have HW0 := Lib.hid hW0
 have hci' := hci
 rw [hW0] at hci'
 rw [← ho] at HF
 clear h hl hsz bx bi b0 hW0 hr0 hn hn63 hci hc0
 cases hh : hasO id (dxs ds 1)
 ·have hw : whereT ds id = (0, 0, false) := by unfold whereT; rw [hh, ← ho]; rfl
  rw [hw]
  dsimp only
  clear hw hci' ho hzz hpp hkx hk hx
  rw [hh] at HF
  clear hh
  go_enter Try.func12, Try.ntmps12
  go_wp2_with (with_reducible refine wpList_load_mid rfl 30 (.tmp 2) rfl w.heap.size 0 ?_ cs _ RG.out Try.underlying30 rfl HI.out ?_; simp [Act.eval])
  rw [← HW0.out]
  refine HF.out.mono ?_
  rintro e w1 ⟨oc, rfl, ro, b1⟩
  have B1 := Lib.hid b1
  obtain ⟨W2, hW2⟩ : ∃ W, W = w1.alloc (.cells #[.int .i64 0, .int .i64 0, .int .i64 0, .int .i64 0, .int .i64 0, .bool false, .bool false, .bool false, .bool false, .int .i64 0, .int .i64 0, .int .i64 0, .int .i64 0, .int .i64 0, .int .i64 0, .int .i64 0, .bool false, .int .i64 0, .int .i64 0] 47) := ⟨_, rfl⟩
  have hol := ro.len.1
  rw [kObject_len] at hol
  have hosz : oc.toArray.size = 19 := by rw [List.size_toArray, hol]
  have z2 : Bx W2 w1.heap.size 47 zObjC.1 := by rw [hW2]; exact Bx.new w1 zObjC.1 _
  have HT := Lib.hid (show (w1.alloc (.cells #[.int .i64 0, .int .i64 0, .int .i64 0, .int .i64 0, .int .i64 0, .bool false, .bool false, .bool false, .bool false, .int .i64 0, .int .i64 0, .int .i64 0, .int .i64 0, .int .i64 0, .int .i64 0, .int .i64 0, .bool false, .int .i64 0, .int .i64 0] 47)).there w1.heap.size 0 oc.toArray.size from (by
   have := z2.there
   rw [hW2] at this
   rw [hosz]
   exact this))
  have HZ := Lib.hid (show (Try.prog.info? 47).map (·.size) = some oc.toArray.size by rw [infoObject, hosz])
  have HO := Lib.hid (show oc.toArray.all (·.oneCell') = true from all_oneCell_toArray ro.one)
  obtain ⟨W3, hW3⟩ : ∃ W, W = (w1.alloc (.cells #[.int .i64 0, .int .i64 0, .int .i64 0, .int .i64 0, .int .i64 0, .bool false, .bool false, .bool false, .bool false, .int .i64 0, .int .i64 0, .int .i64 0, .int .i64 0, .int .i64 0, .int .i64 0, .int .i64 0, .bool false, .int .i64 0, .int .i64 0] 47)).setCells w1.heap.size 0 oc := ⟨_, rfl⟩
  have bo : Bx W3 w1.heap.size 47 oc := by rw [hW3, ← hW2]; exact z2.setAll oc (by rw [hol]; rfl)
  have b3 : Below w1.heap.size w1 W3 := by rw [hW3]; exact below_sets _ _ _ ((Below.refl _ _).alloc (Nat.le_refl _) _) _ (Nat.le_refl _)
  have HW3 := Lib.hid hW3
  have bb := b1.trans (b3.mono b1.size)
  have BB := Lib.hid bb
  have BEL := Lib.hid (B0.out.trans (bb.mono B0.out.size))
  have RO := Lib.hid ro
  have BO := Lib.hid bo
  have B3 := Lib.hid b3
  clear b1 hW2 z2 hol hosz hW3 b3 bo ro bb
  go_wp2_with (refine wpList_store_mid rfl 47 (.tmp 7) (.tmp 15) rfl w1.heap.size 0 oc.toArray ?_ ?_ HT.out HZ.out HO.out ?_; rfl; rfl)
  go_ret3
  refine ⟨rfl, ?_⟩
  have := BEL.out
  rw [HW3.out] at this
  exact this
 ·cases h5 : zz == 5
  ·rw [h5] at hk
   simp only [Bool.false_eq_true, if_false] at hk
   rcases hx with ⟨hp, hl⟩ | ⟨ab, oo, v, hp, hcell, hr⟩
   ·rw [hp] at HL
    have hk' : kx = -1 := by rw [hk, hl]; rfl
    have hw : whereT ds id = (0, 0, false) := by unfold whereT; rw [hh, ← ho]; rw [← hkx]; exact if_pos (show kx < 0 by rw [hk']; decide)
    rw [hw]
    dsimp only
    clear hw ho hzz hpp hkx hk hk' hp hl
    rw [hh] at HF
    clear hh
    go_enter Try.func12, Try.ntmps12
    go_wp2_with (with_reducible refine wpList_load_mid rfl 30 (.tmp 2) rfl w.heap.size 0 ?_ cs _ RG.out Try.underlying30 rfl HI.out ?_; simp [Act.eval])
    rw [← HW0.out]
    refine HF.out.mono ?_
    rintro e w1 ⟨oc, rfl, ro, b1⟩
    have B1 := Lib.hid b1
    obtain ⟨W2, hW2⟩ : ∃ W, W = w1.alloc (.cells #[.int .i64 0, .int .i64 0, .int .i64 0, .int .i64 0, .int .i64 0, .bool false, .bool false, .bool false, .bool false, .int .i64 0, .int .i64 0, .int .i64 0, .int .i64 0, .int .i64 0, .int .i64 0, .int .i64 0, .bool false, .int .i64 0, .int .i64 0] 47) := ⟨_, rfl⟩
    have hol := ro.len.1
    rw [kObject_len] at hol
    have hosz : oc.toArray.size = 19 := by rw [List.size_toArray, hol]
    have z2 : Bx W2 w1.heap.size 47 zObjC.1 := by rw [hW2]; exact Bx.new w1 zObjC.1 _
    have HT := Lib.hid (show (w1.alloc (.cells #[.int .i64 0, .int .i64 0, .int .i64 0, .int .i64 0, .int .i64 0, .bool false, .bool false, .bool false, .bool false, .int .i64 0, .int .i64 0, .int .i64 0, .int .i64 0, .int .i64 0, .int .i64 0, .int .i64 0, .bool false, .int .i64 0, .int .i64 0] 47)).there w1.heap.size 0 oc.toArray.size from (by
     have := z2.there
     rw [hW2] at this
     rw [hosz]
     exact this))
    have HZ := Lib.hid (show (Try.prog.info? 47).map (·.size) = some oc.toArray.size by rw [infoObject, hosz])
    have HO := Lib.hid (show oc.toArray.all (·.oneCell') = true from all_oneCell_toArray ro.one)
    obtain ⟨W3, hW3⟩ : ∃ W, W = (w1.alloc (.cells #[.int .i64 0, .int .i64 0, .int .i64 0, .int .i64 0, .int .i64 0, .bool false, .bool false, .bool false, .bool false, .int .i64 0, .int .i64 0, .int .i64 0, .int .i64 0, .int .i64 0, .int .i64 0, .int .i64 0, .bool false, .int .i64 0, .int .i64 0] 47)).setCells w1.heap.size 0 oc := ⟨_, rfl⟩
    have bo : Bx W3 w1.heap.size 47 oc := by rw [hW3, ← hW2]; exact z2.setAll oc (by rw [hol]; rfl)
    have b3 : Below w1.heap.size w1 W3 := by rw [hW3]; exact below_sets _ _ _ ((Below.refl _ _).alloc (Nat.le_refl _) _) _ (Nat.le_refl _)
    have HW3 := Lib.hid hW3
    have bb := b1.trans (b3.mono b1.size)
    have BB := Lib.hid bb
    have BEL := Lib.hid (B0.out.trans (bb.mono B0.out.size))
    have RO := Lib.hid ro
    have BO := Lib.hid bo
    have B3 := Lib.hid b3
    have co4 := bo.cell 4 _ (ro.int 4 rfl).1
    have co2 := bo.cell 2 _ (ro.int 2 rfl).1
    rw [← HZZ.out] at co4
    rw [← HPP.out] at co2
    rw [hW3] at co4 co2
    have HL3 := Lib.hid (HL.out W3 ((BX.out.old bb).cell 0 _ HC0.out) HN.out HN63.out)
    clear b1 hW2 z2 hol hosz hW3 b3 bo ro bb
    go_wp2_with (refine wpList_store_mid rfl 47 (.tmp 7) (.tmp 15) rfl w1.heap.size 0 oc.toArray ?_ ?_ HT.out HZ.out HO.out ?_; rfl; rfl)
    rw [← HW3.out]
    refine HL3.out.mono ?_
    rintro e w4 ⟨rfl, rfl⟩
    go_wp2_with fail
    go_ret3
    exact ⟨rfl, BEL.out⟩
   ·by_cases hneg : kx < 0
    ·rw [hp] at HL
     have HCE := Lib.hid hcell
     have hw : whereT ds id = (0, 0, false) := by unfold whereT; rw [hh, ← ho]; rw [← hkx]; exact if_pos hneg
     rw [hw]
     dsimp only
     clear hw ho hzz hpp hkx hp hcell
     rw [hh] at HF
     clear hh
     go_enter Try.func12, Try.ntmps12
     go_wp2_with (with_reducible refine wpList_load_mid rfl 30 (.tmp 2) rfl w.heap.size 0 ?_ cs _ RG.out Try.underlying30 rfl HI.out ?_; simp [Act.eval])
     rw [← HW0.out]
     refine HF.out.mono ?_
     rintro e w1 ⟨oc, rfl, ro, b1⟩
     have B1 := Lib.hid b1
     obtain ⟨W2, hW2⟩ : ∃ W, W = w1.alloc (.cells #[.int .i64 0, .int .i64 0, .int .i64 0, .int .i64 0, .int .i64 0, .bool false, .bool false, .bool false, .bool false, .int .i64 0, .int .i64 0, .int .i64 0, .int .i64 0, .int .i64 0, .int .i64 0, .int .i64 0, .bool false, .int .i64 0, .int .i64 0] 47) := ⟨_, rfl⟩
     have hol := ro.len.1
     rw [kObject_len] at hol
     have hosz : oc.toArray.size = 19 := by rw [List.size_toArray, hol]
     have z2 : Bx W2 w1.heap.size 47 zObjC.1 := by rw [hW2]; exact Bx.new w1 zObjC.1 _
     have HT := Lib.hid (show (w1.alloc (.cells #[.int .i64 0, .int .i64 0, .int .i64 0, .int .i64 0, .int .i64 0, .bool false, .bool false, .bool false, .bool false, .int .i64 0, .int .i64 0, .int .i64 0, .int .i64 0, .int .i64 0, .int .i64 0, .int .i64 0, .bool false, .int .i64 0, .int .i64 0] 47)).there w1.heap.size 0 oc.toArray.size from (by
      have := z2.there
      rw [hW2] at this
      rw [hosz]
      exact this))
     have HZ := Lib.hid (show (Try.prog.info? 47).map (·.size) = some oc.toArray.size by rw [infoObject, hosz])
     have HO := Lib.hid (show oc.toArray.all (·.oneCell') = true from all_oneCell_toArray ro.one)
     obtain ⟨W3, hW3⟩ : ∃ W, W = (w1.alloc (.cells #[.int .i64 0, .int .i64 0, .int .i64 0, .int .i64 0, .int .i64 0, .bool false, .bool false, .bool false, .bool false, .int .i64 0, .int .i64 0, .int .i64 0, .int .i64 0, .int .i64 0, .int .i64 0, .int .i64 0, .bool false, .int .i64 0, .int .i64 0] 47)).setCells w1.heap.size 0 oc := ⟨_, rfl⟩
     have bo : Bx W3 w1.heap.size 47 oc := by rw [hW3, ← hW2]; exact z2.setAll oc (by rw [hol]; rfl)
     have b3 : Below w1.heap.size w1 W3 := by rw [hW3]; exact below_sets _ _ _ ((Below.refl _ _).alloc (Nat.le_refl _) _) _ (Nat.le_refl _)
     have HW3 := Lib.hid hW3
     have bb := b1.trans (b3.mono b1.size)
     have BB := Lib.hid bb
     have BEL := Lib.hid (B0.out.trans (bb.mono B0.out.size))
     have RO := Lib.hid ro
     have BO := Lib.hid bo
     have B3 := Lib.hid b3
     have co4 := bo.cell 4 _ (ro.int 4 rfl).1
     have co2 := bo.cell 2 _ (ro.int 2 rfl).1
     rw [← HZZ.out] at co4
     rw [← HPP.out] at co2
     rw [hW3] at co4 co2
     have HL3 := Lib.hid (HL.out W3 ((BX.out.old bb).cell 0 _ HC0.out) HN.out HN63.out)
     have ce3 := cell_old HCE.out bb
     have ci3 := (BI.out.old bb).cell 0 _ rfl
     have HX := Lib.hid (fun m => index_int F L v (listT ds zz pp) id (W3.drewN m) ((hr.old bb).old (drewN_grow W3 m)) hL)
     rw [← hk] at HX
     clear hr hk
     have co4' := bo.cell 4 _ (ro.int 4 rfl).1
     rw [← HZZ.out] at co4'
     clear b1 hW2 z2 hol hosz hW3 b3 bo ro bb
     go_wp2_with (refine wpList_store_mid rfl 47 (.tmp 7) (.tmp 15) rfl w1.heap.size 0 oc.toArray ?_ ?_ HT.out HZ.out HO.out ?_; rfl; rfl)
     rw [← HW3.out]
     refine HL3.out.mono ?_
     rintro e w4 ⟨rfl, rfl⟩
     go_wp2_with fail
     go_quiet ((go_at_call 34; exact Calls.quiet_of_same (HX.out _)))
     go_wp2_with fail
     go_ret3
     exact ⟨rfl, below_drewN BEL.out _⟩
    ·rw [hp] at HL
     have HCE := Lib.hid hcell
     have hw : whereT ds id = (zz, kx, true) := by unfold whereT; rw [hh, ← ho]; rw [← hkx, ← hzz]; exact if_neg hneg
     rw [hw]
     dsimp only
     clear hw ho hzz hpp hkx hp hcell
     rw [hh] at HF
     clear hh
     go_enter Try.func12, Try.ntmps12
     go_wp2_with (with_reducible refine wpList_load_mid rfl 30 (.tmp 2) rfl w.heap.size 0 ?_ cs _ RG.out Try.underlying30 rfl HI.out ?_; simp [Act.eval])
     rw [← HW0.out]
     refine HF.out.mono ?_
     rintro e w1 ⟨oc, rfl, ro, b1⟩
     have B1 := Lib.hid b1
     obtain ⟨W2, hW2⟩ : ∃ W, W = w1.alloc (.cells #[.int .i64 0, .int .i64 0, .int .i64 0, .int .i64 0, .int .i64 0, .bool false, .bool false, .bool false, .bool false, .int .i64 0, .int .i64 0, .int .i64 0, .int .i64 0, .int .i64 0, .int .i64 0, .int .i64 0, .bool false, .int .i64 0, .int .i64 0] 47) := ⟨_, rfl⟩
     have hol := ro.len.1
     rw [kObject_len] at hol
     have hosz : oc.toArray.size = 19 := by rw [List.size_toArray, hol]
     have z2 : Bx W2 w1.heap.size 47 zObjC.1 := by rw [hW2]; exact Bx.new w1 zObjC.1 _
     have HT := Lib.hid (show (w1.alloc (.cells #[.int .i64 0, .int .i64 0, .int .i64 0, .int .i64 0, .int .i64 0, .bool false, .bool false, .bool false, .bool false, .int .i64 0, .int .i64 0, .int .i64 0, .int .i64 0, .int .i64 0, .int .i64 0, .int .i64 0, .bool false, .int .i64 0, .int .i64 0] 47)).there w1.heap.size 0 oc.toArray.size from (by
      have := z2.there
      rw [hW2] at this
      rw [hosz]
      exact this))
     have HZ := Lib.hid (show (Try.prog.info? 47).map (·.size) = some oc.toArray.size by rw [infoObject, hosz])
     have HO := Lib.hid (show oc.toArray.all (·.oneCell') = true from all_oneCell_toArray ro.one)
     obtain ⟨W3, hW3⟩ : ∃ W, W = (w1.alloc (.cells #[.int .i64 0, .int .i64 0, .int .i64 0, .int .i64 0, .int .i64 0, .bool false, .bool false, .bool false, .bool false, .int .i64 0, .int .i64 0, .int .i64 0, .int .i64 0, .int .i64 0, .int .i64 0, .int .i64 0, .bool false, .int .i64 0, .int .i64 0] 47)).setCells w1.heap.size 0 oc := ⟨_, rfl⟩
     have bo : Bx W3 w1.heap.size 47 oc := by rw [hW3, ← hW2]; exact z2.setAll oc (by rw [hol]; rfl)
     have b3 : Below w1.heap.size w1 W3 := by rw [hW3]; exact below_sets _ _ _ ((Below.refl _ _).alloc (Nat.le_refl _) _) _ (Nat.le_refl _)
     have HW3 := Lib.hid hW3
     have bb := b1.trans (b3.mono b1.size)
     have BB := Lib.hid bb
     have BEL := Lib.hid (B0.out.trans (bb.mono B0.out.size))
     have RO := Lib.hid ro
     have BO := Lib.hid bo
     have B3 := Lib.hid b3
     have co4 := bo.cell 4 _ (ro.int 4 rfl).1
     have co2 := bo.cell 2 _ (ro.int 2 rfl).1
     rw [← HZZ.out] at co4
     rw [← HPP.out] at co2
     rw [hW3] at co4 co2
     have HL3 := Lib.hid (HL.out W3 ((BX.out.old bb).cell 0 _ HC0.out) HN.out HN63.out)
     have ce3 := cell_old HCE.out bb
     have ci3 := (BI.out.old bb).cell 0 _ rfl
     have HX := Lib.hid (fun m => index_int F L v (listT ds zz pp) id (W3.drewN m) ((hr.old bb).old (drewN_grow W3 m)) hL)
     rw [← hk] at HX
     clear hr hk
     have co4' := bo.cell 4 _ (ro.int 4 rfl).1
     rw [← HZZ.out] at co4'
     clear b1 hW2 z2 hol hosz hW3 b3 bo ro bb
     go_wp2_with (refine wpList_store_mid rfl 47 (.tmp 7) (.tmp 15) rfl w1.heap.size 0 oc.toArray ?_ ?_ HT.out HZ.out HO.out ?_; rfl; rfl)
     rw [← HW3.out]
     refine HL3.out.mono ?_
     rintro e w4 ⟨rfl, rfl⟩
     go_wp2_with fail
     go_quiet ((go_at_call 34; exact Calls.quiet_of_same (HX.out _)))
     go_wp2_with fail
     go_ret3
     exact ⟨rfl, below_drewN BEL.out _⟩
  ·rw [h5] at hk
   simp only [if_true] at hk
   by_cases hneg : kx < 0
   ·obtain ⟨v4, hv4, _, r4⟩ := HR.out.sl 4 _ _ rfl
    have HV4 := Lib.hid hv4
    have hw : whereT ds id = (0, 0, false) := by unfold whereT; rw [hh, ← ho]; rw [← hkx]; exact if_pos hneg
    rw [hw]
    dsimp only
    clear hw ho hzz hpp hkx hv4 hx
    rw [hh] at HF
    clear hh
    go_enter Try.func12, Try.ntmps12
    go_wp2_with (with_reducible refine wpList_load_mid rfl 30 (.tmp 2) rfl w.heap.size 0 ?_ cs _ RG.out Try.underlying30 rfl HI.out ?_; simp [Act.eval])
    rw [← HW0.out]
    refine HF.out.mono ?_
    rintro e w1 ⟨oc, rfl, ro, b1⟩
    have B1 := Lib.hid b1
    obtain ⟨W2, hW2⟩ : ∃ W, W = w1.alloc (.cells #[.int .i64 0, .int .i64 0, .int .i64 0, .int .i64 0, .int .i64 0, .bool false, .bool false, .bool false, .bool false, .int .i64 0, .int .i64 0, .int .i64 0, .int .i64 0, .int .i64 0, .int .i64 0, .int .i64 0, .bool false, .int .i64 0, .int .i64 0] 47) := ⟨_, rfl⟩
    have hol := ro.len.1
    rw [kObject_len] at hol
    have hosz : oc.toArray.size = 19 := by rw [List.size_toArray, hol]
    have z2 : Bx W2 w1.heap.size 47 zObjC.1 := by rw [hW2]; exact Bx.new w1 zObjC.1 _
    have HT := Lib.hid (show (w1.alloc (.cells #[.int .i64 0, .int .i64 0, .int .i64 0, .int .i64 0, .int .i64 0, .bool false, .bool false, .bool false, .bool false, .int .i64 0, .int .i64 0, .int .i64 0, .int .i64 0, .int .i64 0, .int .i64 0, .int .i64 0, .bool false, .int .i64 0, .int .i64 0] 47)).there w1.heap.size 0 oc.toArray.size from (by
     have := z2.there
     rw [hW2] at this
     rw [hosz]
     exact this))
    have HZ := Lib.hid (show (Try.prog.info? 47).map (·.size) = some oc.toArray.size by rw [infoObject, hosz])
    have HO := Lib.hid (show oc.toArray.all (·.oneCell') = true from all_oneCell_toArray ro.one)
    obtain ⟨W3, hW3⟩ : ∃ W, W = (w1.alloc (.cells #[.int .i64 0, .int .i64 0, .int .i64 0, .int .i64 0, .int .i64 0, .bool false, .bool false, .bool false, .bool false, .int .i64 0, .int .i64 0, .int .i64 0, .int .i64 0, .int .i64 0, .int .i64 0, .int .i64 0, .bool false, .int .i64 0, .int .i64 0] 47)).setCells w1.heap.size 0 oc := ⟨_, rfl⟩
    have bo : Bx W3 w1.heap.size 47 oc := by rw [hW3, ← hW2]; exact z2.setAll oc (by rw [hol]; rfl)
    have b3 : Below w1.heap.size w1 W3 := by rw [hW3]; exact below_sets _ _ _ ((Below.refl _ _).alloc (Nat.le_refl _) _) _ (Nat.le_refl _)
    have HW3 := Lib.hid hW3
    have bb := b1.trans (b3.mono b1.size)
    have BB := Lib.hid bb
    have BEL := Lib.hid (B0.out.trans (bb.mono B0.out.size))
    have RO := Lib.hid ro
    have BO := Lib.hid bo
    have B3 := Lib.hid b3
    have co4 := bo.cell 4 _ (ro.int 4 rfl).1
    have co2 := bo.cell 2 _ (ro.int 2 rfl).1
    rw [← HZZ.out] at co4
    rw [← HPP.out] at co2
    rw [hW3] at co4 co2
    have c4 := (BX.out.old bb).cell 4 _ HV4.out
    rw [hW3] at c4
    have ci3 := (BI.out.old bb).cell 0 _ rfl
    have HX := Lib.hid (idx_where F L v4 (dxs ds 4) id (w.heap.size + 1) W3 (r4.old bb) hL ci3)
    rw [← hk] at HX
    rw [hW3] at ci3
    clear r4 hk
    clear b1 hW2 z2 hol hosz hW3 b3 bo ro bb
    go_wp2_with (refine wpList_store_mid rfl 47 (.tmp 7) (.tmp 15) rfl w1.heap.size 0 oc.toArray ?_ ?_ HT.out HZ.out HO.out ?_; rfl; rfl)
    rw [← HW3.out]
    refine HX.out.mono ?_
    rintro e w4 ⟨rfl, b4⟩
    have B4 := Lib.hid b4
    have co4' := (BO.out.old b4).cell 4 _ (RO.out.int 4 rfl).1
    rw [← HZZ.out] at co4'
    clear b4
    go_wp2_with fail
    go_ret3
    exact ⟨rfl, BEL.out.trans (B4.out.mono BEL.out.size)⟩
   ·obtain ⟨v4, hv4, _, r4⟩ := HR.out.sl 4 _ _ rfl
    have HV4 := Lib.hid hv4
    have hw : whereT ds id = (zz, kx, true) := by unfold whereT; rw [hh, ← ho]; rw [← hkx, ← hzz]; exact if_neg hneg
    rw [hw]
    dsimp only
    clear hw ho hzz hpp hkx hv4 hx
    rw [hh] at HF
    clear hh
    go_enter Try.func12, Try.ntmps12
    go_wp2_with (with_reducible refine wpList_load_mid rfl 30 (.tmp 2) rfl w.heap.size 0 ?_ cs _ RG.out Try.underlying30 rfl HI.out ?_; simp [Act.eval])
    rw [← HW0.out]
    refine HF.out.mono ?_
    rintro e w1 ⟨oc, rfl, ro, b1⟩
    have B1 := Lib.hid b1
    obtain ⟨W2, hW2⟩ : ∃ W, W = w1.alloc (.cells #[.int .i64 0, .int .i64 0, .int .i64 0, .int .i64 0, .int .i64 0, .bool false, .bool false, .bool false, .bool false, .int .i64 0, .int .i64 0, .int .i64 0, .int .i64 0, .int .i64 0, .int .i64 0, .int .i64 0, .bool false, .int .i64 0, .int .i64 0] 47) := ⟨_, rfl⟩
    have hol := ro.len.1
    rw [kObject_len] at hol
    have hosz : oc.toArray.size = 19 := by rw [List.size_toArray, hol]
    have z2 : Bx W2 w1.heap.size 47 zObjC.1 := by rw [hW2]; exact Bx.new w1 zObjC.1 _
    have HT := Lib.hid (show (w1.alloc (.cells #[.int .i64 0, .int .i64 0, .int .i64 0, .int .i64 0, .int .i64 0, .bool false, .bool false, .bool false, .bool false, .int .i64 0, .int .i64 0, .int .i64 0, .int .i64 0, .int .i64 0, .int .i64 0, .int .i64 0, .bool false, .int .i64 0, .int .i64 0] 47)).there w1.heap.size 0 oc.toArray.size from (by
     have := z2.there
     rw [hW2] at this
     rw [hosz]
     exact this))
    have HZ := Lib.hid (show (Try.prog.info? 47).map (·.size) = some oc.toArray.size by rw [infoObject, hosz])
    have HO := Lib.hid (show oc.toArray.all (·.oneCell') = true from all_oneCell_toArray ro.one)
    obtain ⟨W3, hW3⟩ : ∃ W, W = (w1.alloc (.cells #[.int .i64 0, .int .i64 0, .int .i64 0, .int .i64 0, .int .i64 0, .bool false, .bool false, .bool false, .bool false, .int .i64 0, .int .i64 0, .int .i64 0, .int .i64 0, .int .i64 0, .int .i64 0, .int .i64 0, .bool false, .int .i64 0, .int .i64 0] 47)).setCells w1.heap.size 0 oc := ⟨_, rfl⟩
    have bo : Bx W3 w1.heap.size 47 oc := by rw [hW3, ← hW2]; exact z2.setAll oc (by rw [hol]; rfl)
    have b3 : Below w1.heap.size w1 W3 := by rw [hW3]; exact below_sets _ _ _ ((Below.refl _ _).alloc (Nat.le_refl _) _) _ (Nat.le_refl _)
    have HW3 := Lib.hid hW3
    have bb := b1.trans (b3.mono b1.size)
    have BB := Lib.hid bb
    have BEL := Lib.hid (B0.out.trans (bb.mono B0.out.size))
    have RO := Lib.hid ro
    have BO := Lib.hid bo
    have B3 := Lib.hid b3
    have co4 := bo.cell 4 _ (ro.int 4 rfl).1
    have co2 := bo.cell 2 _ (ro.int 2 rfl).1
    rw [← HZZ.out] at co4
    rw [← HPP.out] at co2
    rw [hW3] at co4 co2
    have c4 := (BX.out.old bb).cell 4 _ HV4.out
    rw [hW3] at c4
    have ci3 := (BI.out.old bb).cell 0 _ rfl
    have HX := Lib.hid (idx_where F L v4 (dxs ds 4) id (w.heap.size + 1) W3 (r4.old bb) hL ci3)
    rw [← hk] at HX
    rw [hW3] at ci3
    clear r4 hk
    clear b1 hW2 z2 hol hosz hW3 b3 bo ro bb
    go_wp2_with (refine wpList_store_mid rfl 47 (.tmp 7) (.tmp 15) rfl w1.heap.size 0 oc.toArray ?_ ?_ HT.out HZ.out HO.out ?_; rfl; rfl)
    rw [← HW3.out]
    refine HX.out.mono ?_
    rintro e w4 ⟨rfl, b4⟩
    have B4 := Lib.hid b4
    have co4' := (BO.out.old b4).cell 4 _ (RO.out.int 4 rfl).1
    rw [← HZZ.out] at co4'
    clear b4
    go_wp2_with fail
    go_ret3
    exact ⟨rfl, BEL.out.trans (B4.out.mono BEL.out.size)⟩
end Go.Proofs.Ytiebjkbofoppaaa
end
section
namespace Go.Proofs.Ytiebjkbofoppaaa
open Go Go.RowKit Go.Sort Cg
/-- A slice literal of one struct. -/
theorem wpList_build1 {P : Program} {ops : Array Oper} {rest : List Oper} {o : Oper} {a : Act} {w : World} {Q : Exit → Act → World → Prop} (hg : o.guard = none) (t e : TypeId) (x : Operand) (ho : o.op = .buildSlice t 1 #[(0, x)])
  (cs : List Value) (hx : a.eval x = .agg cs.toArray) (hu : P.underlying t = some (.slice e)) (hi : (P.info? e).map (·.size) = some cs.length) (hz : ((P.info? e).bind (·.zero)).isSome = true) (h0 : 0 < cs.length) (hs : cs.length ≤ 2 ^ 24)
  (h : wpList P ops Q rest (a.put o.dst (.slice (some ⟨w.heap.size, 0, none⟩) 1 1)) (w.alloc (.cells cs.toArray e))) : wpList P ops Q (o :: rest) a w := by
 cases hie : P.info? e with
 | none => simp [hie] at hi
 | some ie =>
  simp only [hie, Option.map_some, Option.some.injEq, Option.bind_some] at hi hz
  obtain ⟨z, hzz⟩ := Option.isSome_iff_exists.1 hz
  refine wpList_buildSlice hg t e 1 _ ho cs.toArray ie z hu hie hzz (by omega) (by omega) ?_ h
  have := Great.fill_whole (s := ie.size) (by omega) [.agg cs.toArray] ((Array.range (1 * ie.size)).map (z.cells[· % z.cells.size]!)) (fun v hv => by
   obtain rfl := List.mem_singleton.1 hv
   show cs.toArray.size = _
   rw [List.size_toArray, hi]) (by simp)
  have e2 : (#[(0, x)].map fun (i, x) => (i, a.eval x)).toList = (([Value.agg cs.toArray] : List Value).zipIdx 0).map fun x => (x.2, x.1) := by simp [hx]
  have e3 : ((([Value.agg cs.toArray] : List Value).flatMap fun v => v.cells.toList).toArray) = cs.toArray := by simp [Value.cells]
  rw [e2, this, e3]
theorem zSome : ((Try.prog.info? 47).bind (·.zero)).isSome = true := by kernel_rfl
theorem es_ins {F : Nat → Prop} {L : Nat} {w : World} {k : Nat} {e : List K} {es : List (Cl k)} {xs : List (List D)} (h : Es F L w e es xs) (i : Nat) (y : Cl k) (d : List D) (hy : RdL F L w e y.1 d) : Es F L w e (es.take i ++ y :: es.drop i) (xs.take i ++ d :: xs.drop i) := by
 have h1 : Es F L w e [y] [d] := ⟨rfl, fun j vs ds h1 h2 => by
  rcases j with _ | j
  ·obtain rfl := Option.some.inj h1
   obtain rfl := Option.some.inj h2
   exact hy
  ·cases h1⟩
 exact (h.take i).append (h1.append (h.drop i))
/-- The objects changed. -/
theorem OwnS.setObjs {ρ : Nat → Role} {L L' B : Nat} {w w' : World} {cs : List Value} {ds : List D} (h : OwnS ρ L B w cs ds) (v v' : Value) (hv : cs[1]? = some v) (hL : L ≤ L') (gr : w.grownBy w' v.ownBlock) (n : Nat) (es : List (Cl 19)) (xs' : List (List D)) (r : w'.ownsRow B 47 19 v' n (es.flatMap Subtype.val)) (hn : es.length = n) (hE : Es (fun _ => False) 0 w kObject es xs')
  (hby : xs'.length * 128 ≤ L') (hsame : ∀ g, v'.ownBlock = some g → v.ownBlock = some g ∨ w.heap.size ≤ g) : ∃ ρ', OwnS ρ' L' B w' (cs.set 1 v') (ds.set 1 (.sl xs')) ∧ Upd ρ ρ' B w.heap.size w w' := by
 subst hn
 exact h.setRow 1 (by omega) (by omega) v v' hv hL gr xs' ⟨es, r, es_any flatObject hE⟩ hby hsame
/-- A struct stored whole. -/
theorem wpList_store_cs {P : Program} {ops : Array Oper} {rest : List Oper} {op : Oper} {a : Act} {w : World} {Q : Exit → Act → World → Prop} (hgd : op.guard = none) (ty : TypeId) (x y : Operand) (ho : op.op = .store ty x y)
  (b o : Nat) (cs : List Value) (hx : a.eval x = .pointer (some ⟨b, o, none⟩)) (hy : a.eval y = .agg cs.toArray) (ht : w.there b o cs.length) (hi : (P.info? ty).map (·.size) = some cs.length) (h1 : ∀ u ∈ cs, u.oneCell' = true)
  (h : wpList P ops Q rest (a.put op.dst undef) (w.setCells b o cs)) : wpList P ops Q (op :: rest) a w :=
 wpList_store_mid hgd ty x y ho b o cs.toArray hx hy (by rw [List.size_toArray]; exact ht) (by rw [List.size_toArray]; exact hi) (all_oneCell_toArray h1) h
def zsC : List Value := [.slice none 0 0, .slice none 0 0, .slice none 0 0, .slice none 0 0, .slice none 0 0, .slice none 0 0, .slice none 0 0, .int .i64 0, .int .i64 0, .int .i64 0, .bool false, .int .i64 0, .int .i64 0, .int .i64 0, .int .i64 0, .int .u64 0, .slice none 0 0, .int .i64 0, .int .i64 0]
theorem OwnS.old {ρ : Nat → Role} {L B : Nat} {w w' : World} {cs : List Value} {ds : List D} (h : OwnS ρ L B w cs ds) (hb : Below w.heap.size w w') : OwnS ρ L B w' cs ds := h.frame (Nat.le_refl _) hb.size (fun b hlt _ => hb.block b hlt) (fun _ _ => rfl)
/-- The objects of a state with one put in. -/
def insAt (od : List D) (xs : List (List D)) : Nat := if fidx (fun o => decide (dint od 0 < dint o 0)) xs < 0 then xs.length else (fidx (fun o => decide (dint od 0 < dint o 0)) xs).toNat
def putO (od : List D) (xs : List (List D)) : List (List D) :=
 if fidx (fun o => dint o 0 == dint od 0) xs < 0 then xs.take (insAt od xs) ++ od :: xs.drop (insAt od xs) else xs.set (fidx (fun o => dint o 0 == dint od 0) xs).toNat od
def putT (ds od : List D) : List D := ds.set 1 (.sl (putO od (dxs ds 1)))
/-- Row 1 of a state of the call's own. -/
theorem OwnS.objs {ρ : Nat → Role} {L B : Nat} {w : World} {cs : List Value} {ds : List D} (h : OwnS ρ L B w cs ds) : ∃ v, cs[1]? = some v ∧ OwnR ρ (.row 1) L B 19 47 kObject 128 w v (dxs ds 1) := by
 obtain ⟨v, a, _, b⟩ := h.row 1 (by omega) (by omega)
 exact ⟨v, a, b⟩
theorem fidx_lt {α : Type} (p : α → Bool) (xs : List α) : fidx p xs < xs.length := by
 unfold fidx
 cases h : xs.findIdx? p with
 | none => show (-1 : Int) < _; omega
 | some i =>
  obtain ⟨h1, _⟩ := List.findIdx?_eq_some_iff_getElem.1 h
  show (i : Int) < _
  omega
theorem insAt_le (od : List D) (xs : List (List D)) : insAt od xs ≤ xs.length := by
 unfold insAt
 have := fidx_lt (fun o => decide (dint od 0 < dint o 0)) xs
 split <;> omega
set_option maxRecDepth 100000 in
set_option maxHeartbeats 8000000 in
theorem put_prog (ρ : Nat → Role) (L B : Nat) (cs : List Value) (ds : List D) (oc : List Value) (od : List D) (w : World) (h : OwnS ρ L B w cs ds) (ho : RdL (fun _ => False) 0 w kObject oc od) (hB : B ≤ w.heap.size) (hL : L + 128 ≤ 140737488355328) :
  Calls Try.prog 39 #[.agg cs.toArray, .agg oc.toArray] w fun e w' => ∃ cs', e = .returned (.agg cs'.toArray) ∧ (∃ ρ', OwnS ρ' (L + 128) B w' cs' (putT ds od) ∧ Upd ρ ρ' B w.heap.size w w') := by
 have hl := h.len.1
 have hol := ho.len.1
 rw [kObject_len] at hol
 obtain ⟨n, hn⟩ : ∃ n, n = w.heap.size := ⟨_, rfl⟩
 obtain ⟨W0, hW0⟩ : ∃ W, W = ((w.alloc (.cells cs.toArray 30)).alloc (.cells oc.toArray 47)).alloc (.cells zsC.toArray 30) := ⟨_, rfl⟩
 have hs1 : (w.alloc (.cells cs.toArray 30)).heap.size = w.heap.size + 1 := by simp
 have hs2 : ((w.alloc (.cells cs.toArray 30)).alloc (.cells oc.toArray 47)).heap.size = w.heap.size + 2 := by simp
 have hs0 : W0.heap.size = w.heap.size + 3 := by rw [hW0]; simp
 have q1 := (Below.refl w.heap.size w).alloc (Nat.le_refl _) (.cells cs.toArray 30)
 have q2 := q1.alloc (by rw [hs1]; omega) (.cells oc.toArray 47)
 have b0 : Below w.heap.size w W0 := by rw [hW0]; exact q2.alloc (by rw [hs2]; omega) _
 have bs : Bx W0 w.heap.size 30 cs := by
  rw [hW0]
  exact ((Bx.new w cs 30).old ((Below.refl _ _).alloc (Nat.le_refl _) _)).old ((Below.refl _ _).alloc (Nat.le_refl _) _)
 have bo : Bx W0 (w.heap.size + 1) 47 oc := by
  rw [hW0, ← hs1]
  exact (Bx.new _ oc 47).old ((Below.refl _ _).alloc (Nat.le_refl _) _)
 have bz : Bx W0 (w.heap.size + 2) 30 zsC := by
  rw [hW0, ← hs2]
  exact Bx.new _ _ _
 obtain ⟨ρ0, s0, hnone, hsame⟩ := h.new b0
 obtain ⟨v1, hv1, ow⟩ := s0.objs
 have hoi := (ho.int 0 rfl).1
 have hrd : RdL (fun b => ρ0 b ≠ .none) L W0 kState cs ds := s0.rd
 have HP := Lib.hid (place_prog _ L cs ds (dint od 0) W0 hrd (by omega))
 have RG := Lib.hid (show (((w.alloc (.cells cs.toArray 30)).alloc (.cells oc.toArray 47)).alloc (.cells #[.slice none 0 0, .slice none 0 0, .slice none 0 0, .slice none 0 0, .slice none 0 0, .slice none 0 0, .slice none 0 0, .int .i64 0, .int .i64 0, .int .i64 0, .bool false, .int .i64 0, .int .i64 0, .int .i64 0, .int .i64 0, .int .u64 0, .slice none 0 0, .int .i64 0, .int .i64 0] 30)).rangeAt w.heap.size 0 cs from (by rw [hW0] at bs; exact bs.range))
 have HI := Lib.hid (show (Try.prog.info? 30).map (·.size) = some cs.length by rw [infoState, hl])
 have HIO := Lib.hid (show (Try.prog.info? 47).map (·.size) = some oc.length by rw [infoObject, hol])
 have HZS := Lib.hid zSome
 have HPO := Lib.hid (show 0 < oc.length by omega)
 have HSO := Lib.hid (show oc.length ≤ 2 ^ 24 by omega)
 have HOC := Lib.hid ho.one
 have HCC := Lib.hid hrd.one
 have co0 := bo.cell 0 _ hoi
 have U0 := Lib.hid (Upd.of_below (ρ := ρ) (B := B) b0 hsame)
 have HB := Lib.hid hB
 have HW0 := Lib.hid (show W0 = ((w.alloc (.cells cs.toArray 30)).alloc (.cells oc.toArray 47)).alloc (.cells #[.slice none 0 0, .slice none 0 0, .slice none 0 0, .slice none 0 0, .slice none 0 0, .slice none 0 0, .slice none 0 0, .int .i64 0, .int .i64 0, .int .i64 0, .bool false, .int .i64 0, .int .i64 0, .int .i64 0, .int .i64 0, .int .u64 0, .slice none 0 0, .int .i64 0, .int .i64 0] 30) from hW0)
 have S0 := Lib.hid s0
 have BS := Lib.hid bs
 have BO := Lib.hid bo
 have BZ := Lib.hid bz
 have HS0 := Lib.hid hs0
 have HNONE := Lib.hid hnone
 have HV1 := Lib.hid hv1
 have HO := Lib.hid ho
 have HOL := Lib.hid hol
 have HL2 := Lib.hid hl
 obtain ⟨y, hy⟩ : ∃ y : Cl 19, y.1 = oc := ⟨⟨oc, hol, ho.one⟩, rfl⟩
 have HY := Lib.hid hy
 rw [hW0] at co0
 have HCO := Lib.hid (show W0.cell? ⟨w.heap.size + 1, 0, none⟩ = some (.int .i64 (dint od 0)) by rw [hW0]; exact co0)
 clear hy h hl hol hs1 hs2 hs0 q1 q2 b0 bs bo bz hW0 s0 hsame hv1 hrd hB hnone ho
 obtain ⟨i, hi⟩ : ∃ i, i = fidx (fun o => dint o 0 == dint od 0) (dxs ds 1) := ⟨_, rfl⟩
 have hilt := fidx_lt (fun o => dint o 0 == dint od 0) (dxs ds 1)
 rw [← hi] at hilt
 by_cases hneg : i < 0
 ·obtain ⟨k, hk⟩ : ∃ k, k = insAt od (dxs ds 1) := ⟨_, rfl⟩
  obtain ⟨j, hj⟩ : ∃ j, j = fidx (fun o => decide (dint od 0 < dint o 0)) (dxs ds 1) := ⟨_, rfl⟩
  have hkj : k = if j < 0 then (dxs ds 1).length else j.toNat := by rw [hk, hj]; rfl
  have hkl : k ≤ (dxs ds 1).length := by rw [hk]; exact insAt_le _ _
  have hput : putT ds od = ds.set 1 (.sl ((dxs ds 1).take k ++ od :: (dxs ds 1).drop k)) := by unfold putT putO; rw [← hi, if_pos hneg, ← hk]
  rw [← hi] at HP
  rw [hput]
  have hm1 : i = -1 := by
   rcases fidx_find (fun o => dint o 0 == dint od 0) (dxs ds 1) with ⟨e, _⟩ | ⟨q, e, _⟩
   ·rw [hi, e]
   ·rw [← hi] at e; omega
  subst hm1
  obtain ⟨es, ro, he⟩ := ow.row
  have hel := he.len
  have hby := ow.bytes
  have HOW := Lib.hid ow
  have HRO := Lib.hid ro
  have HES := Lib.hid he
  obtain ⟨ao, m, c, rfl⟩ := own_sl ro
  obtain ⟨hm, _⟩ := own_cap ro
  subst hm
  have HJ := Lib.hid hj
  have hes63 : es.length * 128 ≤ L := by rw [hel]; exact hby
  have HEL := Lib.hid hel
  have HKJ := Lib.hid hkj
  have HKL := Lib.hid hkl
  clear hi hneg hk hput hilt ro he ow hel hkj hkl hby hj
  go_enter Try.func39, Try.ntmps39
  go_wp2_with ((with_reducible refine wpList_load_mid rfl 30 (.tmp 2) rfl w.heap.size 0 ?_ cs _ RG.out Try.underlying30 rfl HI.out ?_); rfl)
  rw [← HW0.out]
  refine HP.out.mono ?_
  rintro e w1 ⟨rfl, b1⟩
  have B1 := Lib.hid b1
  have c1 := (BS.out.old b1).cell 1 _ HV1.out
  have ci := (BO.out.old b1).cell 0 _ (HO.out.int 0 rfl).1
  have HX := Lib.hid (idx_put (fun b => ρ0 b ≠ .none) L (.slice ao es.length c) (dxs ds 1) (dint od 0) (w.heap.size + 1) w1 ((HOW.out.rd (by decide) (fun b => ρ0 b ≠ .none) (fun b hb => by rcases hb with e | e <;> rw [e] <;> simp)).old b1) (by omega) ci)
  rw [← HJ.out] at HX
  clear b1 ci
  go_wp2_with fail
  refine HX.out.mono ?_
  rintro e w2 ⟨rfl, b2⟩
  have bb : Below W0.heap.size W0 w2 := B1.out.trans (b2.mono B1.out.size)
  have BB := Lib.hid bb
  have bs2 := BS.out.old bb
  have c1' := bs2.cell 1 _ HV1.out
  have f1' := bs2.frozen 1
  have RO2 := Lib.hid (BO.out.old bb).range
  obtain ⟨ρ2, s2, hnone2, hsame2⟩ := S0.out.new bb
  have S2 := Lib.hid s2
  have U2 := Lib.hid (U0.out.trans (Upd.of_below (B := B) bb hsame2) (by have := HS0.out; omega))
  have HN2 := Lib.hid (show ρ2 w.heap.size = .none ∧ ρ2 (w.heap.size + 2) = .none from ⟨(hsame2 _ (by have := HS0.out; omega)).trans (HNONE.out _ (Nat.le_refl _)), (hsame2 _ (by have := HS0.out; omega)).trans (HNONE.out _ (by omega))⟩)
  obtain ⟨W3, hW3⟩ : ∃ W, W = w2.alloc (.cells oc.toArray 47) := ⟨_, rfl⟩
  have b3 : Below w2.heap.size w2 W3 := by rw [hW3]; exact (Below.refl _ _).alloc (Nat.le_refl _) _
  have bn : Bx W3 w2.heap.size 47 y.1 := by rw [hW3, HY.out]; exact Bx.new _ _ _
  obtain ⟨ρ3, s3, hnone3, hsame3⟩ := s2.new b3
  have S3 := Lib.hid s3
  have hss : w.heap.size + 3 ≤ w2.heap.size := by have := bb.size; have := HS0.out; omega
  have U3 := Lib.hid (U2.out.trans (Upd.of_below (B := B) b3 hsame3) (by omega))
  have HN3 := Lib.hid (show ρ3 w.heap.size = .none ∧ ρ3 (w.heap.size + 2) = .none from ⟨(hsame3 _ (by omega)).trans HN2.out.1, (hsame3 _ (by omega)).trans HN2.out.2⟩)
  have r3 : W3.ownsRow B 47 19 (.slice ao es.length c) es.length (es.flatMap Subtype.val) := own_block (own_block HRO.out bb) b3
  have hne : (Value.slice ao es.length c).ownBlock ≠ some w2.heap.size := fun e => by
   have := (own_block HRO.out bb).lt _ e
   omega
  have HIN := Lib.hid (insertObject B (.slice ao es.length c) es k w2.heap.size y W3 r3 (by rw [HEL.out]; exact HKL.out) (by omega) bn hne (by have := HB.out; have := b3.size; omega))
  have BS3 := Lib.hid ((BS.out.old bb).old b3)
  have BZ3 := Lib.hid ((BZ.out.old bb).old b3)
  have HW3 := Lib.hid hW3
  have B3 := Lib.hid b3
  have HSS := Lib.hid hss
  clear b2 bb bs2 s2 hnone2 hsame2 hW3 b3 bn s3 hnone3 hsame3 r3 hne hss
  have hk0 : (0 : Int) ≤ (k : Int) := by omega
  by_cases hjn : j < 0
  ·have hk2 : k = (dxs ds 1).length := by rw [HKJ.out, if_pos hjn]
   rw [← HEL.out] at hk2
   subst hk2
   clear HKJ
   go_wp2_with (first | ((with_reducible refine wpList_load_mid rfl 47 (.tmp 3) rfl (w.heap.size + 1) 0 ?_ oc _ RO2.out Try.underlying47 rfl HIO.out ?_); rfl) | (refine wpList_build1 rfl 23 47 (.tmp 31) rfl oc ?_ Try.underlying23 HIO.out HZS.out HPO.out HSO.out ?_; rfl))
   rw [← HW3.out]
   refine HIN.out.mono ?_
   rintro e w4 ⟨ao4, m4, c4, rfl, r4, gr4, hsm⟩
   obtain ⟨hm4, _⟩ := own_cap r4
   subst hm4
   obtain ⟨ρ4, s4, u4⟩ := S3.out.setObjs _ (.slice ao4 (es.length + 1) c4) HV1.out (Nat.le_add_right L 128) gr4 _ (es.take es.length ++ y :: es.drop es.length) ((dxs ds 1).take es.length ++ od :: (dxs ds 1).drop es.length) r4 (by
     rw [List.length_append, List.length_take, List.length_cons, List.length_drop]
     have := HEL.out
     have := HKL.out
     omega) (es_ins (es_any flatObject HES.out) es.length y od (by rw [HY.out]; exact HO.out.any flatObject)) (by
     rw [List.length_append, List.length_take, List.length_cons, List.length_drop]
     have := HEL.out
     have := HKL.out
     omega) (fun g hg => by
     rcases hsm with e | e
     ·exact .inl (by rw [← hg, e])
     ·rw [e] at hg
      cases hg
      exact .inr (Nat.le_refl _))
   have hb0 : (Value.slice ao es.length c).ownBlock ≠ some w.heap.size := fun e => by
    have := HOW.out.role _ e
    rw [HNONE.out _ (Nat.le_refl _)] at this
    cases this
   have hb2 : (Value.slice ao es.length c).ownBlock ≠ some (w.heap.size + 2) := fun e => by
    have := HOW.out.role _ e
    rw [HNONE.out _ (by omega)] at this
    cases this
   have hws : w.heap.size + 3 ≤ W3.heap.size := Nat.le_trans HSS.out B3.out.size
   have bs4 := BS3.out.same (gr4.block _ (by omega) (fun e => hb0 e.symm))
   have bz4 := BZ3.out.same (gr4.block _ (by omega) (fun e => hb2 e.symm))
   have c4_ := bs4.cell 1 _ HV1.out
   have f4_ := bs4.frozen 1
   have hr4 := s4.rd.one
   obtain ⟨W5, hW5⟩ : ∃ W, W = w4.setCell ⟨w.heap.size, 1, none⟩ (.slice ao4 (es.length + 1) c4) := ⟨_, rfl⟩
   obtain ⟨cs5, hcs5⟩ : ∃ l, l = cs.set 1 (.slice ao4 (es.length + 1) c4) := ⟨_, rfl⟩
   have bs5 : Bx W5 w.heap.size 30 cs5 := by rw [hW5, hcs5]; exact bs4.set 1 _
   have bz5 : Bx W5 (w.heap.size + 2) 30 zsC := by rw [hW5]; exact bz4.other 1 _ (by omega)
   have hl5 : cs5.length = 19 := by rw [hcs5, List.length_set]; exact HL2.out
   rw [← hcs5] at s4 hr4
   have s5 : OwnS ρ4 (L + 128) B W5 cs5 (ds.set 1 (.sl ((dxs ds 1).take es.length ++ od :: (dxs ds 1).drop es.length))) := by rw [hW5]; exact s4.aside _ 1 _ ((u4.role _ (by omega)).trans HN3.out.1)
   have u5 : Upd ρ3 ρ4 B w.heap.size W3 W5 := by rw [hW5]; exact (u4.mono (by omega)).store _ _ _ (Nat.le_refl _)
   have RG5 := Lib.hid bs5.range
   have HI5 := Lib.hid (show (Try.prog.info? 30).map (·.size) = some cs5.length by rw [infoState, hl5])
   have HT5 := Lib.hid (show W5.there (w.heap.size + 2) 0 cs5.length by rw [hl5]; exact bz5.there)
   have HC5 := Lib.hid hr4
   have BE := Lib.hid (bz5.setAll cs5 hl5)
   have SE := Lib.hid (s5.asides (w.heap.size + 2) 0 cs5 ((u4.role _ (by omega)).trans HN3.out.2))
   have UE := Lib.hid ((U3.out.trans u5 (Nat.le_refl _)).stores (w.heap.size + 2) 0 cs5 (by omega))
   have HW5 := Lib.hid hW5
   have RG5' := RG5
   rw [hW5] at RG5
   have HT5' := HT5
   rw [hW5] at HT5
   clear r4 gr4 hsm s4 u4 hb0 hb2 hws bs4 bz4 hr4 hW5 hcs5 bs5 bz5 hl5 s5 u5 RG5' HT5'
   go_wp2_with (first | ((with_reducible refine wpList_load_mid rfl 30 (.tmp 2) rfl w.heap.size 0 ?_ cs5 _ RG5.out Try.underlying30 rfl HI5.out ?_); rfl) | ((with_reducible refine wpList_store_cs rfl 30 (.tmp 4) (.tmp 35) rfl (w.heap.size + 2) 0 cs5 ?_ ?_ HT5.out HI5.out HC5.out ?_); rfl; rfl))
   rw [← HW5.out]
   refine bodyPost_ret (results_cs Try.results39 (w.heap.size + 2) ?_ cs5 _ (Bx.range BE.out) Try.underlying30 rfl HI5.out) rfl ?_
   ·rfl
   ·exact ⟨cs5, rfl, ρ4, SE.out, UE.out⟩
  ·have hk2 : k = j.toNat := by rw [HKJ.out, if_neg hjn]
   obtain ⟨j', rfl⟩ : ∃ j' : Nat, j = j' := ⟨j.toNat, by omega⟩
   have hk3 : k = j' := by omega
   subst hk3
   clear hk2
   clear HKJ
   go_wp2_with (first | ((with_reducible refine wpList_load_mid rfl 47 (.tmp 3) rfl (w.heap.size + 1) 0 ?_ oc _ RO2.out Try.underlying47 rfl HIO.out ?_); rfl) | (refine wpList_build1 rfl 23 47 (.tmp 31) rfl oc ?_ Try.underlying23 HIO.out HZS.out HPO.out HSO.out ?_; rfl))
   rw [← HW3.out]
   refine HIN.out.mono ?_
   rintro e w4 ⟨ao4, m4, c4, rfl, r4, gr4, hsm⟩
   obtain ⟨hm4, _⟩ := own_cap r4
   subst hm4
   obtain ⟨ρ4, s4, u4⟩ := S3.out.setObjs _ (.slice ao4 (es.length + 1) c4) HV1.out (Nat.le_add_right L 128) gr4 _ (es.take k ++ y :: es.drop k) ((dxs ds 1).take k ++ od :: (dxs ds 1).drop k) r4 (by
     rw [List.length_append, List.length_take, List.length_cons, List.length_drop]
     have := HEL.out
     have := HKL.out
     omega) (es_ins (es_any flatObject HES.out) k y od (by rw [HY.out]; exact HO.out.any flatObject)) (by
     rw [List.length_append, List.length_take, List.length_cons, List.length_drop]
     have := HEL.out
     have := HKL.out
     omega) (fun g hg => by
     rcases hsm with e | e
     ·exact .inl (by rw [← hg, e])
     ·rw [e] at hg
      cases hg
      exact .inr (Nat.le_refl _))
   have hb0 : (Value.slice ao es.length c).ownBlock ≠ some w.heap.size := fun e => by
    have := HOW.out.role _ e
    rw [HNONE.out _ (Nat.le_refl _)] at this
    cases this
   have hb2 : (Value.slice ao es.length c).ownBlock ≠ some (w.heap.size + 2) := fun e => by
    have := HOW.out.role _ e
    rw [HNONE.out _ (by omega)] at this
    cases this
   have hws : w.heap.size + 3 ≤ W3.heap.size := Nat.le_trans HSS.out B3.out.size
   have bs4 := BS3.out.same (gr4.block _ (by omega) (fun e => hb0 e.symm))
   have bz4 := BZ3.out.same (gr4.block _ (by omega) (fun e => hb2 e.symm))
   have c4_ := bs4.cell 1 _ HV1.out
   have f4_ := bs4.frozen 1
   have hr4 := s4.rd.one
   obtain ⟨W5, hW5⟩ : ∃ W, W = w4.setCell ⟨w.heap.size, 1, none⟩ (.slice ao4 (es.length + 1) c4) := ⟨_, rfl⟩
   obtain ⟨cs5, hcs5⟩ : ∃ l, l = cs.set 1 (.slice ao4 (es.length + 1) c4) := ⟨_, rfl⟩
   have bs5 : Bx W5 w.heap.size 30 cs5 := by rw [hW5, hcs5]; exact bs4.set 1 _
   have bz5 : Bx W5 (w.heap.size + 2) 30 zsC := by rw [hW5]; exact bz4.other 1 _ (by omega)
   have hl5 : cs5.length = 19 := by rw [hcs5, List.length_set]; exact HL2.out
   rw [← hcs5] at s4 hr4
   have s5 : OwnS ρ4 (L + 128) B W5 cs5 (ds.set 1 (.sl ((dxs ds 1).take k ++ od :: (dxs ds 1).drop k))) := by rw [hW5]; exact s4.aside _ 1 _ ((u4.role _ (by omega)).trans HN3.out.1)
   have u5 : Upd ρ3 ρ4 B w.heap.size W3 W5 := by rw [hW5]; exact (u4.mono (by omega)).store _ _ _ (Nat.le_refl _)
   have RG5 := Lib.hid bs5.range
   have HI5 := Lib.hid (show (Try.prog.info? 30).map (·.size) = some cs5.length by rw [infoState, hl5])
   have HT5 := Lib.hid (show W5.there (w.heap.size + 2) 0 cs5.length by rw [hl5]; exact bz5.there)
   have HC5 := Lib.hid hr4
   have BE := Lib.hid (bz5.setAll cs5 hl5)
   have SE := Lib.hid (s5.asides (w.heap.size + 2) 0 cs5 ((u4.role _ (by omega)).trans HN3.out.2))
   have UE := Lib.hid ((U3.out.trans u5 (Nat.le_refl _)).stores (w.heap.size + 2) 0 cs5 (by omega))
   have HW5 := Lib.hid hW5
   have RG5' := RG5
   rw [hW5] at RG5
   have HT5' := HT5
   rw [hW5] at HT5
   clear r4 gr4 hsm s4 u4 hb0 hb2 hws bs4 bz4 hr4 hW5 hcs5 bs5 bz5 hl5 s5 u5 RG5' HT5'
   go_wp2_with (first | ((with_reducible refine wpList_load_mid rfl 30 (.tmp 2) rfl w.heap.size 0 ?_ cs5 _ RG5.out Try.underlying30 rfl HI5.out ?_); rfl) | ((with_reducible refine wpList_store_cs rfl 30 (.tmp 4) (.tmp 35) rfl (w.heap.size + 2) 0 cs5 ?_ ?_ HT5.out HI5.out HC5.out ?_); rfl; rfl))
   rw [← HW5.out]
   refine bodyPost_ret (results_cs Try.results39 (w.heap.size + 2) ?_ cs5 _ (Bx.range BE.out) Try.underlying30 rfl HI5.out) rfl ?_
   ·rfl
   ·exact ⟨cs5, rfl, ρ4, SE.out, UE.out⟩
 ·obtain ⟨q, rfl⟩ : ∃ q : Nat, i = q := ⟨i.toNat, by omega⟩
  have hql : q < (dxs ds 1).length := by omega
  have hput : putT ds od = ds.set 1 (.sl ((dxs ds 1).set q od)) := by unfold putT putO; rw [← hi, if_neg hneg]; rfl
  rw [← hi] at HP
  rw [hput]
  obtain ⟨es, ro, he⟩ := ow.row
  have hel := he.len
  have hby := ow.bytes
  have HOW := Lib.hid ow
  have HES := Lib.hid he
  have HBY := Lib.hid hby
  have HEL := Lib.hid hel
  have hqe : q < es.length := by omega
  rcases ro.2 with ⟨_, h0⟩ | ⟨g, cap, cur, rfl, hBg, hg, hcap, hmax, hsz, htake⟩
  ·omega
  have hblk := own_blkC ro rfl
  have hhd := hdC_of ro
  have HRO := Lib.hid ro
  have HBLK := Lib.hid hblk
  have HHD := Lib.hid hhd
  have HCAP := Lib.hid hcap
  have hρg : ρ0 g = .row 1 := HOW.out.role g rfl
  have hg1 : g ≠ w.heap.size := fun e => by rw [e, HNONE.out _ (Nat.le_refl _)] at hρg; cases hρg
  have hg2 : g ≠ w.heap.size + 2 := fun e => by rw [e, HNONE.out _ (by omega)] at hρg; cases hρg
  clear hi hneg hput hilt hel hby he ow htake hsz hmax hg hcap hblk hhd hρg ro hql
  have hq0 : (0 : Int) ≤ (q : Int) := by omega
  go_enter Try.func39, Try.ntmps39
  go_wp2_with ((with_reducible refine wpList_load_mid rfl 30 (.tmp 2) rfl w.heap.size 0 ?_ cs _ RG.out Try.underlying30 rfl HI.out ?_); rfl)
  rw [← HW0.out]
  refine HP.out.mono ?_
  rintro e w1 ⟨rfl, b1⟩
  have B1 := Lib.hid b1
  have c1 := (BS.out.old b1).cell 1 _ HV1.out
  have ROB := Lib.hid (BO.out.old b1).range
  have blk1 := HBLK.out.same (b1.block g HBLK.out.lt)
  have hth : w1.there g (q * 19) oc.length := by
   rw [← HY.out]
   exact blk_there blk1 q hqe y
  have HTH := Lib.hid hth
  obtain ⟨W2, hW2⟩ : ∃ W, W = w1.setCells g (q * 19) oc := ⟨_, rfl⟩
  have blk2 : BlkC 19 47 W2 g (es.set q y) := by
   have := BlkK.setCells Cl.len blk1 q hqe y
   rw [hW2, ← HY.out]
   exact this
  have hd2 : HdC B 47 19 W2 g cap := by rw [hW2]; exact (HHD.out.same (b1.block g HBLK.out.lt)).sets _ _ _
  have r2 := own_of blk2 hd2 (by rw [List.length_set]; exact HCAP.out)
  rw [List.length_set] at r2
  have gr2 : w1.grownBy W2 (some g) := by rw [hW2]; exact grown_sets _ _ _ (World.grownBy.refl _ _)
  have s1 := S0.out.old b1
  obtain ⟨ρ2, s2, u2⟩ := s1.setObjs _ (.slice (some ⟨g, 0, none⟩) es.length cap) HV1.out (Nat.le_add_right L 128) gr2 _ (es.set q y) ((dxs ds 1).set q od) r2 (List.length_set ..) ((es_any flatObject HES.out).set q y od (by rw [HY.out]; exact HO.out.any flatObject)) (by rw [List.length_set]; have := HBY.out; omega) (fun g' hg' => .inl hg')
  rw [set_same cs 1 _ HV1.out] at s2
  have bs2 : Bx W2 w.heap.size 30 cs := (BS.out.old b1).same (gr2.block _ (by have := b1.size; have := HS0.out; omega) (fun e => hg1 (Option.some.inj e).symm))
  have bz2 : Bx W2 (w.heap.size + 2) 30 zsC := (BZ.out.old b1).same (gr2.block _ (by have := b1.size; have := HS0.out; omega) (fun e => hg2 (Option.some.inj e).symm))
  have hl2 := HL2.out
  have hws : w.heap.size + 3 ≤ w1.heap.size := by have := b1.size; have := HS0.out; omega
  have htz : W2.there (w.heap.size + 2) 0 cs.length := by rw [hl2]; exact bz2.there
  rw [hW2] at htz
  have HTZ := Lib.hid htz
  have RG2 := Lib.hid bs2.range
  have BE := Lib.hid (bz2.setAll cs hl2)
  have SE := Lib.hid (s2.asides (w.heap.size + 2) 0 cs ((u2.role _ (by omega)).trans (HNONE.out _ (by omega))))
  have UE := Lib.hid (((U0.out.trans (Upd.of_below (B := B) b1 (fun _ _ => rfl)) (by have := HS0.out; omega)).trans u2 (by omega)).stores (w.heap.size + 2) 0 cs (by omega))
  have HW2 := Lib.hid hW2
  rw [hW2] at RG2
  clear htz b1 blk1 hth hW2 blk2 hd2 r2 gr2 s1 s2 u2 bs2 bz2 hl2 hws hg1 hg2
  go_wp2_with (first | ((with_reducible refine wpList_load_mid rfl 47 (.tmp 3) rfl (w.heap.size + 1) 0 ?_ oc _ ROB.out Try.underlying47 rfl HIO.out ?_); rfl) | ((with_reducible refine wpList_store_cs rfl 47 (.tmp 17) (.tmp 16) rfl g (q * 19) oc ?_ ?_ HTH.out HIO.out HOC.out ?_); rfl; rfl) | ((with_reducible refine wpList_load_mid rfl 30 (.tmp 2) rfl w.heap.size 0 ?_ cs _ RG2.out Try.underlying30 rfl HI.out ?_); rfl) | ((with_reducible refine wpList_store_cs rfl 30 (.tmp 4) (.tmp 18) rfl (w.heap.size + 2) 0 cs ?_ ?_ HTZ.out HI.out HCC.out ?_); rfl; rfl))
  rw [← HW2.out]
  refine bodyPost_ret (results_cs Try.results39 (w.heap.size + 2) ?_ cs _ (Bx.range BE.out) Try.underlying30 rfl HI.out) rfl ?_
  ·rfl
  ·exact ⟨cs, rfl, ρ2, SE.out, UE.out⟩
/-- Three boxes: a state, an object, the result's variable. -/
structure Bx3 (w W0 : World) (cs oc : List Value) : Prop where
 size : W0.heap.size = w.heap.size + 3
 bel : Below w.heap.size w W0
 st : Bx W0 w.heap.size 30 cs
 ob : Bx W0 (w.heap.size + 1) 47 oc
 rs : Bx W0 (w.heap.size + 2) 30 zsC
theorem bx3 (w : World) (cs oc : List Value) : Bx3 w (((w.alloc (.cells cs.toArray 30)).alloc (.cells oc.toArray 47)).alloc (.cells zsC.toArray 30)) cs oc := by
 have hs1 : (w.alloc (.cells cs.toArray 30)).heap.size = w.heap.size + 1 := by simp
 have hs2 : ((w.alloc (.cells cs.toArray 30)).alloc (.cells oc.toArray 47)).heap.size = w.heap.size + 2 := by simp
 have q1 := (Below.refl w.heap.size w).alloc (Nat.le_refl _) (.cells cs.toArray 30)
 have q2 := q1.alloc (by rw [hs1]; omega) (.cells oc.toArray 47)
 refine ⟨by simp, q2.alloc (by rw [hs2]; omega) _, ((Bx.new w cs 30).old ((Below.refl _ _).alloc (Nat.le_refl _) _)).old ((Below.refl _ _).alloc (Nat.le_refl _) _), ?_, ?_⟩
 ·rw [← hs1]
  exact (Bx.new _ oc 47).old ((Below.refl _ _).alloc (Nat.le_refl _) _)
 ·rw [← hs2]
  exact Bx.new _ _ _
theorem Bx.drew {w : World} {b : Nat} {t : TypeId} {cs : List Value} (h : Bx w b t cs) : Bx w.drew b t cs := h
set_option maxRecDepth 100000 in
set_option maxHeartbeats 8000000 in
theorem Put_prog (F : Nat → Prop) (L : Nat) (cs : List Value) (ds : List D) (oc : List Value) (od : List D) (w : World) (h : RdL F L w kState cs ds) (ho : RdL (fun _ => False) 0 w kObject oc od) (hL : L + 128 ≤ 140737488355328) :
  Calls Try.prog 22 #[.agg cs.toArray, .agg oc.toArray] w fun e w' => ∃ cs' F', e = .returned (.agg cs'.toArray) ∧ RdL F' (L + 128) w' kState cs' (putT ds od) ∧ Below w.heap.size w w' ∧ ∀ b, b < w.heap.size → F' b → F b := by
 have hl := h.len.1
 rw [kState_len] at hl
 have hol := ho.len.1
 rw [kObject_len] at hol
 obtain ⟨W0, hW0⟩ : ∃ W, W = ((w.alloc (.cells cs.toArray 30)).alloc (.cells oc.toArray 47)).alloc (.cells #[.slice none 0 0, .slice none 0 0, .slice none 0 0, .slice none 0 0, .slice none 0 0, .slice none 0 0, .slice none 0 0, .int .i64 0, .int .i64 0, .int .i64 0, .bool false, .int .i64 0, .int .i64 0, .int .i64 0, .int .i64 0, .int .u64 0, .slice none 0 0, .int .i64 0, .int .i64 0] 30) := ⟨_, rfl⟩
 have X : Bx3 w W0 cs oc := by rw [hW0]; exact bx3 w cs oc
 have hr : RdL (fun b => F b ∧ b < w.heap.size) L W0.drew kState cs ds := ((h.imp (fun b hF hlt => ⟨hF, hlt⟩)).old X.bel).old (Below.refl _ _).drew
 have HC := Lib.hid (copy_prog _ L cs ds W0.drew hr (by omega))
 have RG := Lib.hid (show W0.drew.rangeAt w.heap.size 0 cs from X.st.drew.range)
 have HI := Lib.hid (show (Try.prog.info? 30).map (·.size) = some cs.length by rw [infoState, hl])
 have HIO := Lib.hid (show (Try.prog.info? 47).map (·.size) = some oc.length by rw [infoObject, hol])
 have XX := Lib.hid X
 have HO := Lib.hid ho
 have HW0 := Lib.hid hW0
 clear hW0 X hr h hl hol ho
 go_enter Try.func22, Try.ntmps22
 go_wp2_with fail
 rw [← HW0.out]
 refine wp_region_noPanic ?_
 refine wp_region_held_drew (S := fun wS => Bx wS (w.heap.size + 1) 47 oc) (by kernel_rfl) (XX.out.ob) (fun hHeld => ?_)
 refine wpAnyH_take (i := 2) (oi := ?oiU2x) (v := .agg oc.toArray) ?hiU2x (by kernel_rfl) (by kernel_rfl) (by kernel_rfl) ?hqU2x ?hyU2x (by assumption) ?restU2x
 case hiU2x => (simp only [List.getElem?_toArray, List.getElem?_cons_succ, List.getElem?_cons_zero] <;> rfl)
 case hqU2x => exact fun _ _ _ h => h
 case hyU2x => exact (yieldsIf_load_mid (by rfl) 47 (.tmp 3) rfl (w.heap.size + 1) 0 (by simp [Act.eval]) oc _ (fun _ h => Bx.range h) Try.underlying47 rfl HIO.out)
 try simp only [Act.put, List.setIfInBounds_toArray, List.set_cons_zero, List.set_cons_succ]
 refine wpAnyH_ready (rs := [0]) (by kernel_rfl) (by simp) ?_
 refine AllReadyH.cons (o := ?oiU0x) ?hiU0x (fun K hK => ?hsU0x) AllReadyH.nil
 case hiU0x => (simp only [List.getElem?_toArray, List.getElem?_cons_zero] <;> rfl)
 refine step_load_mid rfl 30 (.tmp 2) rfl w.heap.size 0 (by simp [Act.eval]) cs _ RG.out Try.underlying30 rfl HI.out ?_
 refine hK.out _ _ XX.out.ob.drew (fun hHeld0 => ?_)
 clear hHeld0
 clear hK K
 try simp only [Act.put, List.setIfInBounds_toArray, List.set_cons_zero, List.set_cons_succ]
 refine wpAnyH_ready (rs := [1]) (by kernel_rfl) (by simp) ?_
 refine AllReadyH.cons (o := ?oiU1x) ?hiU1x (fun K hK => ?hsU1x) AllReadyH.nil
 case hiU1x => (simp only [List.getElem?_toArray, List.getElem?_cons_succ, List.getElem?_cons_zero] <;> rfl)
 go_simp
 refine HC.out.mono ?_
 rintro e w1 ⟨cs1, rfl, ⟨ρ1, s1, hn1⟩, b1⟩
 have S1 := Lib.hid s1
 have HN1 := Lib.hid hn1
 have B1 := Lib.hid b1
 have OB1 := Lib.hid (XX.out.ob.drew.old b1)
 have RS1 := Lib.hid (XX.out.rs.drew.old b1)
 clear s1 hn1 b1
 refine hK.out _ _ OB1.out (fun hHeld1 => ?_)
 clear hK K
 try simp only [Act.put, List.setIfInBounds_toArray, List.set_cons_zero, List.set_cons_succ]
 have HP := Lib.hid (put_prog ρ1 L W0.drew.heap.size cs1 ds oc od w1 S1.out (HO.out.any flatObject) B1.out.size hL)
 have hs0 : W0.drew.heap.size = w.heap.size + 3 := XX.out.size
 have HS0 := Lib.hid hs0
 clear hs0
 refine wpAnyH_ready (rs := [3]) (by kernel_rfl) (by simp) ?_
 refine AllReadyH.cons (o := ?oiU3x) ?hiU3x (fun K hK => ?hsU3x) AllReadyH.nil
 case hiU3x => (simp only [List.getElem?_toArray, List.getElem?_cons_succ, List.getElem?_cons_zero] <;> rfl)
 go_simp
 refine HP.out.mono ?_
 rintro e w2 ⟨cs2, rfl, ρ2, s2, u2⟩
 have hb1 := B1.out.size
 have hs0 := HS0.out
 have none1 : ∀ b, b < w.heap.size + 3 → w.heap.size ≤ b → ρ1 b = .none := fun b hb hge => HN1.out b (by omega) (fun hF => by have := hF.2; omega)
 have OB2 := Lib.hid (OB1.out.same (u2.keep _ (by omega) (.inr (.inl (none1 _ (by omega) (by omega))))))
 have RS2 := Lib.hid (RS1.out.same (u2.keep _ (by omega) (.inr (.inl (none1 _ (by omega) (by omega))))))
 have N2 := Lib.hid (show ρ2 (w.heap.size + 2) = .none from (u2.role _ (by omega)).trans (none1 _ (by omega) (by omega)))
 have FR := Lib.hid (show ∀ b, b < w.heap.size → ρ2 b ≠ .none → F b from fun b hb hn => Classical.byContradiction fun hF => hn ((u2.role b (by omega)).trans (HN1.out b (by omega) (fun h => hF h.1))))
 have BL2 := Lib.hid (u2.below (A := w.heap.size) (XX.out.bel.trans ((Below.refl _ _).drew.trans (B1.out.mono (by omega)))) (by omega) (by omega))
 have hl2 := s2.len.1
 have HI2 := Lib.hid (show (Try.prog.info? 30).map (·.size) = some cs2.length by rw [infoState, hl2])
 have TH2 := Lib.hid (show w2.there (w.heap.size + 2) 0 cs2.length by rw [hl2]; exact RS2.out.there)
 have BE := Lib.hid (RS2.out.setAll cs2 hl2)
 have HC2 := Lib.hid s2.rd.one
 have S2 := Lib.hid s2
 clear s2 u2 hb1 hs0 none1 hl2
 refine hK.out _ _ OB2.out (fun hHeld3 => ?_)
 clear hK K
 try simp only [Act.put, List.setIfInBounds_toArray, List.set_cons_zero, List.set_cons_succ]
 refine wpAnyH_ready (rs := [4]) (by kernel_rfl) (by simp) ?_
 refine AllReadyH.cons (o := ?oiU4x) ?hiU4x (fun K hK => ?hsU4x) AllReadyH.nil
 case hiU4x => (simp only [List.getElem?_toArray, List.getElem?_cons_succ, List.getElem?_cons_zero] <;> rfl)
 refine step_store_mid rfl 30 (.tmp 4) (.tmp 8) rfl (w.heap.size + 2) 0 cs2 (by simp [Act.eval]) (by simp [Act.eval]) TH2.out HI2.out HC2.out ?_
 refine hK.out _ _ (OB2.out.same (heap_sets _ _ _ _ _ (by omega))) (fun hHeld4 => ?_)
 clear hK K
 try simp only [Act.put]
 refine wpAnyH_done (by kernel_rfl) ?_ _
 refine NoPanic.normal ?_
 go_wp2_with fail
 refine bodyPost_ret (results_cs Try.results22 (w.heap.size + 2) ?_ cs2 _ (Bx.range BE.out) Try.underlying30 rfl HI2.out) rfl ?_
 ·rfl
 ·exact ⟨cs2, _, rfl, (S2.out.asides _ 0 cs2 N2.out).rd, below_sets _ _ _ BL2.out _ (by omega), FR.out⟩
end Go.Proofs.Ytiebjkbofoppaaa
end
section
namespace Go.Proofs.Ytiebjkbofoppaaa
open Go Go.RowKit Go.Sort Cg
/-- Two boxes: a state, the result's variable. -/
structure Bx2 (w W0 : World) (cs : List Value) : Prop where
 size : W0.heap.size = w.heap.size + 2
 bel : Below w.heap.size w W0
 st : Bx W0 w.heap.size 30 cs
 rs : Bx W0 (w.heap.size + 1) 30 zsC
theorem bx2 (w : World) (cs : List Value) : Bx2 w ((w.alloc (.cells cs.toArray 30)).alloc (.cells zsC.toArray 30)) cs := by
 have hs1 : (w.alloc (.cells cs.toArray 30)).heap.size = w.heap.size + 1 := by simp
 have q1 := (Below.refl w.heap.size w).alloc (Nat.le_refl _) (.cells cs.toArray 30)
 refine ⟨by simp, q1.alloc (by rw [hs1]; omega) _, (Bx.new w cs 30).old ((Below.refl _ _).alloc (Nat.le_refl _) _), ?_⟩
 rw [← hs1]
 exact Bx.new _ _ _
set_option maxRecDepth 100000 in
set_option maxHeartbeats 8000000 in
theorem set_prog (F : Nat → Prop) (L : Nat) (cs : List Value) (ds : List D) (z p : Int) (v : Value) (l : List (List D)) (w : World) (h : RdL F L w kState cs ds) (hv : RdC F L w kInts v (.sl l)) (hL : L ≤ 140737488355328) :
  Calls Try.prog 29 #[.agg cs.toArray, .int .i64 z, .int .i64 p, v] w fun e w' => ∃ cs' F', e = .returned (.agg cs'.toArray) ∧ RdL F' L w' kState cs' (setT ds z p l) ∧ Below w.heap.size w w' ∧ ∀ b, b < w.heap.size → F' b → F b := by
 have hl := h.len.1
 rw [kState_len] at hl
 obtain ⟨W0, hW0⟩ : ∃ W, W = (w.alloc (.cells cs.toArray 30)).alloc (.cells #[.slice none 0 0, .slice none 0 0, .slice none 0 0, .slice none 0 0, .slice none 0 0, .slice none 0 0, .slice none 0 0, .int .i64 0, .int .i64 0, .int .i64 0, .bool false, .int .i64 0, .int .i64 0, .int .i64 0, .int .i64 0, .int .u64 0, .slice none 0 0, .int .i64 0, .int .i64 0] 30) := ⟨_, rfl⟩
 have X : Bx2 w W0 cs := by rw [hW0]; exact bx2 w cs
 have hr : RdL (fun b => F b ∧ b < w.heap.size) L W0 kState cs ds := (h.imp (fun b hF hlt => ⟨hF, hlt⟩)).old X.bel
 have HC := Lib.hid (copy_prog _ L cs ds W0 hr hL)
 have RG := Lib.hid (show ((w.alloc (.cells cs.toArray 30)).alloc (.cells #[.slice none 0 0, .slice none 0 0, .slice none 0 0, .slice none 0 0, .slice none 0 0, .slice none 0 0, .slice none 0 0, .int .i64 0, .int .i64 0, .int .i64 0, .bool false, .int .i64 0, .int .i64 0, .int .i64 0, .int .i64 0, .int .u64 0, .slice none 0 0, .int .i64 0, .int .i64 0] 30)).rangeAt w.heap.size 0 cs from (by have := X.st.range; rw [hW0] at this; exact this))
 have HI := Lib.hid (show (Try.prog.info? 30).map (·.size) = some cs.length by rw [infoState, hl])
 have XX := Lib.hid X
 have HV := Lib.hid hv
 have HW0 := Lib.hid hW0
 clear hW0 X hr h hl hv
 go_enter Try.func29, Try.ntmps29
 go_wp2_with ((with_reducible refine wpList_load_mid rfl 30 (.tmp 4) rfl w.heap.size 0 ?_ cs _ RG.out Try.underlying30 rfl HI.out ?_); rfl)
 rw [← HW0.out]
 refine HC.out.mono ?_
 rintro e w1 ⟨cs1, rfl, ⟨ρ1, s1, hn1⟩, b1⟩
 have hs0 := XX.out.size
 have st1 := XX.out.st.old b1
 have rs1 := XX.out.rs.old b1
 have hl1 := s1.len.1
 obtain ⟨W2, hW2⟩ : ∃ W, W = w1.setCells w.heap.size 0 cs1 := ⟨_, rfl⟩
 have hlc : cs1.length = cs.length := by have := XX.out.st.there; rw [hl1]; have hq := HI.out; rw [infoState] at hq; exact Option.some.inj hq
 have TH1 := Lib.hid (show w1.there w.heap.size 0 cs1.length by rw [hlc]; exact st1.there)
 have HI1 := Lib.hid (show (Try.prog.info? 30).map (·.size) = some cs1.length by rw [infoState, hl1])
 have HO1 := Lib.hid s1.rd.one
 have st2 : Bx W2 w.heap.size 30 cs1 := by rw [hW2]; exact st1.setAll cs1 hlc
 have rs2 : Bx W2 (w.heap.size + 1) 30 zsC := by rw [hW2]; exact rs1.same (heap_sets _ _ _ _ _ (by omega))
 have n0 : ρ1 w.heap.size = .none := hn1 _ (by omega) (fun hF => by have := hF.2; omega)
 have n1 : ρ1 (w.heap.size + 1) = .none := hn1 _ (by omega) (fun hF => by have := hF.2; omega)
 have s2 : OwnS ρ1 L W0.heap.size W2 cs1 ds := by rw [hW2]; exact s1.asides _ 0 cs1 n0
 have hb1 := b1.size
 have bel2 : Below w.heap.size w W2 := by rw [hW2]; exact below_sets _ _ _ (XX.out.bel.trans (b1.mono (by omega))) _ (Nat.le_refl _)
 have hz2 : W2.heap.size = w1.heap.size := by rw [hW2]; exact sets_size _ _ _ _
 obtain ⟨ao, n, c, hc0, hn, hnl, hx⟩ := s2.at_list w.heap.size st2 n0 z p
 have hplb : (dxs ds 0).length * 152 ≤ L := by obtain ⟨_, _, _, pl⟩ := s2.ply; exact pl.bytes
 have HL := Lib.hid (list_prog w.heap.size ao n c z p W2 (st2.cell 0 _ hc0) hn (by omega))
 have ST2 := Lib.hid st2
 have RS2 := Lib.hid rs2
 have N1 := Lib.hid n1
 have FR1 := Lib.hid (show ∀ b, b < w.heap.size → ρ1 b ≠ .none → F b from fun b hb hn => Classical.byContradiction fun hF => hn (hn1 b (by omega) (fun h => hF h.1)))
 have S2 := Lib.hid s2
 have BEL2 := Lib.hid bel2
 have HW2 := Lib.hid hW2
 have HS2 := Lib.hid (show w.heap.size + 2 ≤ W2.heap.size by omega)
 have HB := Lib.hid (show W0.heap.size ≤ W2.heap.size by omega)
 have HLEN := Lib.hid hl1
 clear hs0 st1 rs1 hl1 hlc st2 rs2 n0 n1 s2 hb1 bel2 hz2 hc0 hn hnl hplb s1 hn1 b1 hW2
 rcases hx with ⟨hp, _, hset⟩ | ⟨ab, oo, u, hp, A⟩
 ·rw [hp] at HL
  have SET := Lib.hid (hset l)
  have RG2 := Lib.hid ST2.out.range
  have TH2 := Lib.hid (show W2.there (w.heap.size + 1) 0 cs1.length by rw [HLEN.out]; exact RS2.out.there)
  have BE := Lib.hid (RS2.out.setAll cs1 HLEN.out)
  clear hp hset
  go_wp2_with ((with_reducible refine wpList_store_cs rfl 30 (.tmp 4) (.tmp 11) rfl w.heap.size 0 cs1 ?_ ?_ TH1.out HI1.out HO1.out ?_); rfl; rfl)
  rw [← HW2.out]
  refine HL.out.mono ?_
  rintro e w3 ⟨rfl, rfl⟩
  go_wp2_with (first | ((with_reducible refine wpList_load_mid rfl 30 (.tmp 4) rfl w.heap.size 0 ?_ cs1 _ RG2.out Try.underlying30 rfl HI1.out ?_); rfl) | ((with_reducible refine wpList_store_cs rfl 30 (.tmp 8) (.tmp 21) rfl (w.heap.size + 1) 0 cs1 ?_ ?_ TH2.out HI1.out HO1.out ?_); rfl; rfl))
  refine bodyPost_ret (results_cs Try.results29 (w.heap.size + 1) ?_ cs1 _ (Bx.range BE.out) Try.underlying30 rfl HI1.out) rfl ?_
  ·rfl
  ·exact ⟨cs1, _, rfl, by rw [SET.out]; exact (S2.out.asides _ 0 cs1 N1.out).rd, below_sets _ _ _ BEL2.out _ (by omega), FR1.out⟩
 ·rw [hp] at HL
  have HCL := Lib.hid (clone_own F L v l W2 (HV.out.frame (Nat.le_refl _) BEL2.out.size (fun b _ hlt => BEL2.out.block b hlt) (fun _ h _ => h)) hL)
  have AL := Lib.hid A
  clear hp A
  go_wp2_with ((with_reducible refine wpList_store_cs rfl 30 (.tmp 4) (.tmp 11) rfl w.heap.size 0 cs1 ?_ ?_ TH1.out HI1.out HO1.out ?_); rfl; rfl)
  rw [← HW2.out]
  refine HL.out.mono ?_
  rintro e w3 ⟨rfl, rfl⟩
  go_wp2_with fail
  refine HCL.out.mono ?_
  rintro e w4 ⟨v', rfl, own, b4⟩
  obtain ⟨ao', m', c', rfl⟩ := own.form
  obtain ⟨es, ow, hes⟩ := own
  obtain ⟨ca, fa⟩ := AL.out.there w4 (below_grown b4)
  obtain ⟨ρ', cs', s', x', hro, hno, hu⟩ := AL.out.put w4 L (.slice ao' m' c') l (Nat.le_refl _) (below_grown b4) ⟨es, own_low ow HB.out, es_any (flat_ints 1) hes⟩ (by have := rd_bytes HV.out; exact this) (fun g hg => .inr (ow.lt g hg).1)
  obtain ⟨W5, hW5⟩ : ∃ W, W = w4.setCell ⟨ab, oo, none⟩ (.slice ao' m' c') := ⟨_, rfl⟩
  rw [← hW5] at s' x' hno hu
  have hs2 := HS2.out
  have rs5 : Bx W5 (w.heap.size + 1) 30 zsC := RS2.out.same (hno _ (by omega) (by omega) N1.out)
  have bel5 := (hu w.heap.size (by omega) (Nat.le_refl _)).below BEL2.out (by have := XX.out.size; omega) (Nat.le_refl _)
  have hl5 := s'.len.1
  have RG5 := Lib.hid (show (w4.setCell ⟨ab, oo, none⟩ (.slice ao' m' c')).rangeAt w.heap.size 0 cs' from (by rw [← hW5]; exact x'.range))
  have HI5 := Lib.hid (show (Try.prog.info? 30).map (·.size) = some cs'.length by rw [infoState, hl5])
  have TH5 := Lib.hid (show (w4.setCell ⟨ab, oo, none⟩ (.slice ao' m' c')).there (w.heap.size + 1) 0 cs'.length by rw [← hW5, hl5]; exact rs5.there)
  have HO5 := Lib.hid s'.rd.one
  have BE := Lib.hid (rs5.setAll cs' hl5)
  have S5 := Lib.hid s'
  have N5 := Lib.hid ((hro _ (by omega)).trans N1.out)
  have FR5 := Lib.hid (show ∀ b, b < w.heap.size → ρ' b ≠ .none → F b from fun b hb hn => FR1.out b hb fun e => hn ((hro b (by omega)).trans e))
  have BEL5 := Lib.hid bel5
  have HW5 := Lib.hid hW5
  clear b4 es ow hes s' x' hro hno hu hW5 hs2 rs5 bel5 hl5
  go_wp2_with (first | ((with_reducible refine wpList_load_mid rfl 30 (.tmp 4) rfl w.heap.size 0 ?_ cs' _ RG5.out Try.underlying30 rfl HI5.out ?_); rfl) | ((with_reducible refine wpList_store_cs rfl 30 (.tmp 8) (.tmp 21) rfl (w.heap.size + 1) 0 cs' ?_ ?_ TH5.out HI5.out HO5.out ?_); rfl; rfl))
  rw [← HW5.out]
  refine bodyPost_ret (results_cs Try.results29 (w.heap.size + 1) ?_ cs' _ (Bx.range BE.out) Try.underlying30 rfl HI5.out) rfl ?_
  ·rfl
  ·exact ⟨cs', _, rfl, (S5.out.asides _ 0 cs' N5.out).rd, below_sets _ _ _ BEL5.out _ (by omega), FR5.out⟩
theorem eraseAt_lt {α : Type} (xs : List α) (i : Nat) (h : i < xs.length) : (xs.take i ++ xs.drop (i + 1)).length = xs.length - 1 := by
 rw [List.length_append, List.length_take, List.length_drop]
 omega
/-- A state without an object. -/
def remA (ds od : List D) : List D := ds.set 1 (.sl ((dxs ds 1).take (fidx (fun o => dint o 0 == dint od 0) (dxs ds 1)).toNat ++ (dxs ds 1).drop ((fidx (fun o => dint o 0 == dint od 0) (dxs ds 1)).toNat + 1)))
def remB (ds od : List D) : List D := setT ds (dint od 4) (dint od 2) ((listT ds (dint od 4) (dint od 2)).filter (fun x => !(dint x 0 == dint od 0)))
def remC (ds od : List D) : List D := ds.set 4 (.sl ((dxs ds 4).filter (fun x => !(dint x 0 == dint od 0 && dint x 1 == 1))))
def removeT (ds od : List D) : List D := remC (remB (remA ds od) od) od
theorem OwnS.setStack {ρ : Nat → Role} {L B : Nat} {w w' : World} {cs : List Value} {ds : List D} (h : OwnS ρ L B w cs ds) (v v' : Value) (hv : cs[4]? = some v) (gr : w.grownBy w' v.ownBlock) (n : Nat) (es : List (Cl 94)) (xs' : List (List D)) (r : w'.ownsRow B 83 94 v' n (es.flatMap Subtype.val)) (hn : es.length = n) (hE : Es (fun b => ρ b = .cold) L w kItem es xs')
  (hby : xs'.length * 824 ≤ L) (hsame : ∀ g, v'.ownBlock = some g → v.ownBlock = some g ∨ w.heap.size ≤ g) : ∃ ρ', OwnS ρ' L B w' (cs.set 4 v') (ds.set 4 (.sl xs')) ∧ Upd ρ ρ' B w.heap.size w w' := by
 subst hn
 exact h.setRow 4 (by omega) (by omega) v v' hv (Nat.le_refl _) gr xs' ⟨es, r, hE⟩ hby hsame
theorem OwnS.stack {ρ : Nat → Role} {L B : Nat} {w : World} {cs : List Value} {ds : List D} (h : OwnS ρ L B w cs ds) : ∃ v, cs[4]? = some v ∧ OwnR ρ (.row 4) L B 94 83 kItem 824 w v (dxs ds 4) := by
 obtain ⟨v, a, _, b⟩ := h.row 4 (by omega) (by omega)
 exact ⟨v, a, b⟩
theorem kItem0 : kItem[0]? = some (.lit .int) ∧ kItem[1]? = some (.lit .int) := ⟨rfl, rfl⟩
set_option maxRecDepth 100000 in
set_option maxHeartbeats 8000000 in
theorem remove_prog (ρ : Nat → Role) (L B : Nat) (cs : List Value) (ds : List D) (oc : List Value) (od : List D) (w : World) (h : OwnS ρ L B w cs ds) (ho : RdL (fun _ => False) 0 w kObject oc od) (hB : B ≤ w.heap.size) (hL : L ≤ 140737488355328) (hhas : hasO (dint od 0) (dxs ds 1) = true) :
  Calls Try.prog 37 #[.agg cs.toArray, .agg oc.toArray] w fun e w' => ∃ cs', e = .returned (.agg cs'.toArray) ∧ (∃ ρ', OwnS ρ' L B w' cs' (removeT ds od) ∧ Upd ρ ρ' B w.heap.size w w') := by
 have hl := h.len.1
 have hol := ho.len.1
 rw [kObject_len] at hol
 obtain ⟨W0, hW0⟩ : ∃ W, W = ((w.alloc (.cells cs.toArray 30)).alloc (.cells oc.toArray 47)).alloc (.cells #[.slice none 0 0, .slice none 0 0, .slice none 0 0, .slice none 0 0, .slice none 0 0, .slice none 0 0, .slice none 0 0, .int .i64 0, .int .i64 0, .int .i64 0, .bool false, .int .i64 0, .int .i64 0, .int .i64 0, .int .i64 0, .int .u64 0, .slice none 0 0, .int .i64 0, .int .i64 0] 30) := ⟨_, rfl⟩
 have X : Bx3 w W0 cs oc := by rw [hW0]; exact bx3 w cs oc
 obtain ⟨ρ0, s0, hnone, hsame⟩ := h.new X.bel
 obtain ⟨v1, hv1, ow⟩ := s0.objs
 have hrd : RdL (fun b => ρ0 b ≠ .none) L W0 kState cs ds := s0.rd
 have HP := Lib.hid (place_prog _ L cs ds (dint od 0) W0 hrd hL)
 have RG := Lib.hid (show (((w.alloc (.cells cs.toArray 30)).alloc (.cells oc.toArray 47)).alloc (.cells #[.slice none 0 0, .slice none 0 0, .slice none 0 0, .slice none 0 0, .slice none 0 0, .slice none 0 0, .slice none 0 0, .int .i64 0, .int .i64 0, .int .i64 0, .bool false, .int .i64 0, .int .i64 0, .int .i64 0, .int .i64 0, .int .u64 0, .slice none 0 0, .int .i64 0, .int .i64 0] 30)).rangeAt w.heap.size 0 cs from (by have := X.st.range; rw [hW0] at this; exact this))
 have HI := Lib.hid (show (Try.prog.info? 30).map (·.size) = some cs.length by rw [infoState, hl])
 have co0 := X.ob.cell 0 _ (ho.int 0 rfl).1
 rw [hW0] at co0
 have U0 := Lib.hid (Upd.of_below (ρ := ρ) (B := B) X.bel hsame)
 have HB := Lib.hid hB
 have XX := Lib.hid X
 have S0 := Lib.hid s0
 have HNONE := Lib.hid hnone
 have HV1 := Lib.hid hv1
 have HO := Lib.hid ho
 have HLEN := Lib.hid hl
 have HW0 := Lib.hid hW0
 obtain ⟨i, hi, hil⟩ : ∃ i : Nat, fidx (fun o => dint o 0 == dint od 0) (dxs ds 1) = i ∧ i < (dxs ds 1).length := by
  rcases fidx_find (fun o => dint o 0 == dint od 0) (dxs ds 1) with ⟨_, e⟩ | ⟨i, e, hlt, _⟩
  ·unfold hasO at hhas; rw [e] at hhas; cases hhas
  ·exact ⟨i, e, hlt⟩
 rw [hi] at HP
 have HRA := Lib.hid (show remA ds od = ds.set 1 (.sl ((dxs ds 1).take i ++ (dxs ds 1).drop (i + 1))) by unfold remA; rw [hi]; rfl)
 obtain ⟨es, ro, he⟩ := ow.row
 have hel := he.len
 have HES := Lib.hid he
 have HEL := Lib.hid hel
 have HBY := Lib.hid ow.bytes
 have hie : i < es.length := by omega
 have hbig : es.length * 128 ≤ L := by rw [hel]; exact ow.bytes
 rcases ro.2 with ⟨_, h0⟩ | ⟨g, cap, cur, rfl, hBg, hg, hcap, hmax, hsz, htake⟩
 ·omega
 have HBLK := Lib.hid (own_blkC ro rfl)
 have HHD := Lib.hid (hdC_of ro)
 have HCAP := Lib.hid hcap
 have HROLE := Lib.hid (show ρ0 g = .row 1 from ow.role g rfl)
 clear hi hil hel ow ro he htake hsz hmax hg hcap hBg h hl hol hW0 X s0 hnone hsame hv1 hrd hB ho hhas
 go_enter Try.func37, Try.ntmps37
 go_wp2_with ((with_reducible refine wpList_load_mid rfl 30 (.tmp 2) rfl w.heap.size 0 ?_ cs _ RG.out Try.underlying30 rfl HI.out ?_); rfl)
 rw [← HW0.out]
 refine HP.out.mono ?_
 rintro e w1 ⟨rfl, b1⟩
 have B1 := Lib.hid b1
 have c1 := (XX.out.st.old b1).cell 1 _ HV1.out
 have HD := Lib.hid (delete_obj B g es.length cap i es w1 (HBLK.out.same (b1.block g HBLK.out.lt)) (HHD.out.same (b1.block g HBLK.out.lt)) rfl hie HCAP.out)
 have hwr : IntKind.i64.wrap ((i : Int) + 1) = (i : Int) + 1 := IntWalk.i64_in _ (by omega)
 clear b1
 go_wp2_with fail
 refine HD.out.mono ?_
 rintro e w2 ⟨rfl, r2, gr2⟩
 have s1 := S0.out.old B1.out
 have hs0 := XX.out.size
 have hb1 := B1.out.size
 obtain ⟨ρ2, s2, u2⟩ := s1.setObjs _ (.slice (some ⟨g, 0, none⟩) (es.length - 1) cap) HV1.out (Nat.le_refl L) gr2 _ (es.take i ++ es.drop (i + 1)) ((dxs ds 1).take i ++ (dxs ds 1).drop (i + 1)) r2 (eraseAt_lt es i hie) (((es_any flatObject HES.out).take i).append ((es_any flatObject HES.out).drop (i + 1))) (by have e := HEL.out; have := HBY.out; rw [eraseAt_lt _ i (by omega)]; omega) (fun g' hg' => .inl hg')
 rw [← HRA.out] at s2
 obtain ⟨cs2, hcs2⟩ : ∃ l, l = cs.set 1 (.slice (some ⟨g, 0, none⟩) (es.length - 1) cap) := ⟨_, rfl⟩
 rw [← hcs2] at s2
 obtain ⟨W3, hW3⟩ : ∃ W, W = w2.setCell ⟨w.heap.size, 1, none⟩ (.slice (some ⟨g, 0, none⟩) (es.length - 1) cap) := ⟨_, rfl⟩
 have hg0 : ∀ b, ρ0 b = .none → some b ≠ (some g : Option Nat) := fun b hb e => by
  have := HROLE.out
  rw [← Option.some.inj e, hb] at this
  cases this
 have n0 := HNONE.out w.heap.size (Nat.le_refl _)
 have n1 := HNONE.out (w.heap.size + 1) (by omega)
 have n2 := HNONE.out (w.heap.size + 2) (by omega)
 have st2 := (XX.out.st.old B1.out).same (gr2.block _ (by omega) (hg0 _ n0))
 have ob2 := (XX.out.ob.old B1.out).same (gr2.block _ (by omega) (hg0 _ n1))
 have rs2 := (XX.out.rs.old B1.out).same (gr2.block _ (by omega) (hg0 _ n2))
 have c2 := st2.cell 1 _ HV1.out
 have f2 := st2.frozen 1
 have st3 : Bx W3 w.heap.size 30 cs2 := by rw [hW3, hcs2]; exact st2.set 1 _
 have ob3 : Bx W3 (w.heap.size + 1) 47 oc := by rw [hW3]; exact ob2.other 1 _ (by omega)
 have rs3 : Bx W3 (w.heap.size + 2) 30 zsC := by rw [hW3]; exact rs2.other 1 _ (by omega)
 have m0 : ρ2 w.heap.size = .none := (u2.role _ (by omega)).trans n0
 have m1 : ρ2 (w.heap.size + 1) = .none := (u2.role _ (by omega)).trans n1
 have m2 : ρ2 (w.heap.size + 2) = .none := (u2.role _ (by omega)).trans n2
 have s3 : OwnS ρ2 L B W3 cs2 (remA ds od) := by rw [hW3]; exact s2.aside _ 1 _ m0
 have u3 : Upd ρ ρ2 B w.heap.size w W3 := by
  rw [hW3]
  exact ((U0.out.trans (Upd.of_below (B := B) B1.out (fun _ _ => rfl)) (by omega)).trans u2 (by omega)).store _ _ _ (Nat.le_refl _)
 have hz3 : w.heap.size + 3 ≤ W3.heap.size := by have := gr2.size; rw [hW3]; simp only [World.setCell, Array.size_modify]; omega
 obtain ⟨ao, n, c, hc0, hn, hnl, hx⟩ := s3.at_list w.heap.size st3 m0 (dint od 4) (dint od 2)
 have hplb : (dxs (remA ds od) 0).length * 152 ≤ L := by obtain ⟨_, _, _, pl⟩ := s3.ply; exact pl.bytes
 have HL := Lib.hid (list_prog w.heap.size ao n c (dint od 4) (dint od 2) W3 (st3.cell 0 _ hc0) hn (by omega))
 have co4 := ob3.cell 4 _ (HO.out.int 4 rfl).1
 have co2 := ob3.cell 2 _ (HO.out.int 2 rfl).1
 rw [hW3] at co4 co2
 have ST3 := Lib.hid st3
 have OB3 := Lib.hid ob3
 have RS3 := Lib.hid rs3
 have M0 := Lib.hid m0
 have M1 := Lib.hid m1
 have M2 := Lib.hid m2
 have S3 := Lib.hid s3
 have U3 := Lib.hid u3
 have HZ3 := Lib.hid hz3
 have HW3 := Lib.hid hW3
 clear hie hbig r2 gr2 s1 hs0 hb1 s2 u2 hcs2 hW3 hg0 n0 n1 n2 st2 ob2 rs2 st3 ob3 rs3 m0 m1 m2 s3 u3 hz3 hc0 hn hnl hplb
 rcases hx with ⟨hp, _, hset⟩ | ⟨ab, oo, u, hp, A⟩
 ·rw [hp] at HL
  have hrb : remB (remA ds od) od = remA ds od := hset _
  have HRT := Lib.hid (show removeT ds od = remC (remA ds od) od by unfold removeT; rw [hrb])
  obtain ⟨W6, hW6⟩ : ∃ W, W = W3 := ⟨_, rfl⟩
  obtain ⟨ρ6, hρ6⟩ : ∃ r, r = ρ2 := ⟨_, rfl⟩
  have S6 := Lib.hid (show OwnS ρ6 L B W6 cs2 (remA ds od) by rw [hW6, hρ6]; exact S3.out)
  have U6 := Lib.hid (show Upd ρ ρ6 B w.heap.size w W6 by rw [hW6, hρ6]; exact U3.out)
  have ST6 := Lib.hid (show Bx W6 w.heap.size 30 cs2 by rw [hW6]; exact ST3.out)
  have OB6 := Lib.hid (show Bx W6 (w.heap.size + 1) 47 oc by rw [hW6]; exact OB3.out)
  have RS6 := Lib.hid (show Bx W6 (w.heap.size + 2) 30 zsC by rw [hW6]; exact RS3.out)
  have N6 := Lib.hid (show ρ6 w.heap.size = .none ∧ ρ6 (w.heap.size + 1) = .none ∧ ρ6 (w.heap.size + 2) = .none by rw [hρ6]; exact ⟨M0.out, M1.out, M2.out⟩)
  have HZ6 := Lib.hid (show w.heap.size + 3 ≤ W6.heap.size by rw [hW6]; exact HZ3.out)
  have HW6 := Lib.hid hW6
  clear hp hset hrb hρ6 hW6
  go_wp2_with fail
  rw [← HW3.out]
  refine HL.out.mono ?_
  rintro e w4 ⟨rfl, rfl⟩
  obtain ⟨v4, hv4, ow4⟩ := S6.out.stack
  obtain ⟨es4, ro4, he4⟩ := ow4.row
  have ci6 := OB6.out.cell 0 _ (HO.out.int 0 rfl).1
  have HDF := Lib.hid (delfuncItem (fun b => ρ6 b ≠ .none) _ L L B v4 es4 _ (dint od 0) (w.heap.size + 1) W6 (ow4.rd (by decide) (fun b => ρ6 b ≠ .none) (fun b hb => by rcases hb with e | e <;> rw [e] <;> simp)) he4 hL ro4 ci6 (fun e => by have := ow4.role _ e; rw [N6.out.2.1] at this; cases this) _ rfl)
  have c64 := ST6.out.cell 4 _ hv4
  have HV4 := Lib.hid hv4
  have HES4 := Lib.hid he4
  have HBY4 := Lib.hid ow4.bytes
  have HROLE4 := Lib.hid ow4.role
  obtain ⟨ao4, m4, c4, rfl⟩ := own_sl ro4
  rw [HW6.out] at c64
  clear hv4 ow4 ro4 he4 ci6
  go_wp2_with fail
  rw [← HW6.out]
  refine HDF.out.mono ?_
  rintro e w7 ⟨ao7, m7, c7, rfl, hm7, r7, hsame7, gr7⟩
  obtain ⟨ρ8, s8, u8⟩ := S6.out.setStack _ (.slice ao7 m7 c7) HV4.out gr7 m7 (es4.filter (fun x => !(fun x : Cl 94 => cInt x.1 0 == dint od 0 && cInt x.1 1 == 1) x)) _ r7 hm7.symm (Es.filter (fun x => !(dint x 0 == dint od 0 && dint x 1 == 1)) _ HES4.out (fun j x d h1 h2 => by
   have hr := HES4.out.at_ j x d h1 h2
   dsimp only
   rw [cInt_of (hr.int 0 kItem0.1).1, cInt_of (hr.int 1 kItem0.2).1])) (Nat.le_trans (Nat.mul_le_mul_right _ (List.length_filter_le _ _)) HBY4.out) (fun g' hg' => .inl (hsame7 g' hg'))
  have hz6 := HZ6.out
  have nb : ∀ b, ρ6 b = .none → some b ≠ (Value.slice ao4 m4 c4).ownBlock := fun b hb e => by
   have := HROLE4.out b e.symm
   rw [hb] at this
   cases this
  have st7 := ST6.out.same (gr7.block _ (by omega) (nb _ N6.out.1))
  have rs7 := RS6.out.same (gr7.block _ (by omega) (nb _ N6.out.2.2))
  obtain ⟨cs8, hcs8⟩ : ∃ l, l = (cs2 : List Value).set 4 (.slice ao7 m7 c7) := ⟨_, rfl⟩
  rw [← hcs8] at s8
  obtain ⟨W8, hW8⟩ : ∃ W, W = w7.setCell ⟨w.heap.size, 4, none⟩ (.slice ao7 m7 c7) := ⟨_, rfl⟩
  have c74 := st7.cell 4 _ HV4.out
  have f74 := st7.frozen 4
  have st8 : Bx W8 w.heap.size 30 cs8 := by rw [hW8, hcs8]; exact st7.set 4 _
  have rs8 : Bx W8 (w.heap.size + 2) 30 zsC := by rw [hW8]; exact rs7.other 4 _ (by omega)
  have p0 : ρ8 w.heap.size = .none := (u8.role _ (by omega)).trans N6.out.1
  have p2 : ρ8 (w.heap.size + 2) = .none := (u8.role _ (by omega)).trans N6.out.2.2
  have s9 : OwnS ρ8 L B W8 cs8 (remC (remA ds od) od) := by rw [hW8]; exact s8.aside _ 4 _ p0
  have u9 : Upd ρ ρ8 B w.heap.size w W8 := by rw [hW8]; exact (U6.out.trans u8 (by omega)).store _ _ _ (Nat.le_refl _)
  have hl8 := s9.len.1
  have RG8 := Lib.hid st8.range
  rw [hW8] at RG8
  have HI8 := Lib.hid (show (Try.prog.info? 30).map (·.size) = some cs8.length by rw [infoState, hl8])
  have ht8 : W8.there (w.heap.size + 2) 0 cs8.length := by rw [hl8]; exact rs8.there
  rw [hW8] at ht8
  have TH8 := Lib.hid ht8
  have HO8 := Lib.hid s9.rd.one
  have BE := Lib.hid (rs8.setAll cs8 hl8)
  have S9 := Lib.hid (s9.asides _ 0 cs8 p2)
  have U9 := Lib.hid (u9.stores (w.heap.size + 2) 0 cs8 (by omega))
  have HW8 := Lib.hid hW8
  clear hm7 r7 hsame7 gr7 s8 u8 hz6 nb st7 rs7 hcs8 hW8 st8 rs8 p0 p2 s9 u9 hl8 ht8
  go_wp2_with (first | ((with_reducible refine wpList_load_mid rfl 30 (.tmp 2) rfl w.heap.size 0 ?_ cs8 _ RG8.out Try.underlying30 rfl HI8.out ?_); rfl) | ((with_reducible refine wpList_store_cs rfl 30 (.tmp 4) (.tmp 38) rfl (w.heap.size + 2) 0 cs8 ?_ ?_ TH8.out HI8.out HO8.out ?_); rfl; rfl))
  rw [← HW8.out]
  refine bodyPost_ret (results_cs Try.results37 (w.heap.size + 2) ?_ cs8 _ (Bx.range BE.out) Try.underlying30 rfl HI8.out) rfl ?_
  ·rfl
  ·exact ⟨cs8, rfl, ρ8, by rw [HRT.out]; exact S9.out, U9.out⟩
 ·rw [hp] at HL
  obtain ⟨r, ow3⟩ := A.own
  have HX := Lib.hid (without_prog (fun b => ρ2 b ≠ .none ∨ ρ2 b = r) L u (listT (remA ds od) (dint od 4) (dint od 2)) (dint od 0) W3.drew ((ow3.rd (by decide) (fun b => ρ2 b ≠ .none ∨ ρ2 b = r) (fun b hb => by rcases hb with e | e; exact .inr e; exact .inl (by rw [e]; simp))).old (Below.refl _ _).drew) hL)
  have HRT := Lib.hid (show removeT ds od = remC (remB (remA ds od) od) od from rfl)
  have HBL := Lib.hid ow3.bytes
  have ca3 : W3.drew.cell? ⟨ab, oo, none⟩ = some u := A.cell
  have SX := Lib.hid (show W3.drew.cell? ⟨w.heap.size + 1, 0, none⟩ = some (.int .i64 (dint od 0)) from OB3.out.cell 0 _ (HO.out.int 0 rfl).1)
  have AL := Lib.hid A
  clear hp A ow3
  go_wp2_with fail
  rw [← HW3.out]
  refine HL.out.mono ?_
  rintro e w4 ⟨rfl, rfl⟩
  go_wp2_with fail
  refine wp_region_noPanic ?_
  refine wp_region_held_drew (S := fun wS => wS.cell? ⟨w.heap.size + 1, 0, none⟩ = some (.int .i64 (dint od 0))) (by kernel_rfl) (SX.out) (fun hHeld => ?_)
  refine wpAnyH_take (i := 0) (oi := ?oiR0x) (v := ?vR0x) ?hiR0x (by kernel_rfl) (by kernel_rfl) (by kernel_rfl) ?hqR0x ?hyR0x (by assumption) ?restR0x
  case hiR0x => (simp only [List.getElem?_toArray, List.getElem?_cons_zero] <;> rfl)
  case hqR0x => exact fun _ _ _ h => h
  case hyR0x => exact Or.inl ⟨by rfl, by (intro wS hSw; have s5 : wS.cell? ⟨w.heap.size + 1, 0, none⟩ = some (.int .i64 (dint od 0)) := hSw; go_simp; try with_reducible rfl)⟩
  try simp only [Act.put, List.setIfInBounds_toArray, List.set_cons_zero, List.set_cons_succ]
  refine wpAnyH_take (i := 1) (oi := ?oiR1x) (v := ?vR1x) ?hiR1x (by kernel_rfl) (by kernel_rfl) (by kernel_rfl) ?hqR1x ?hyR1x (by assumption) ?restR1x
  case hiR1x => (simp only [List.getElem?_toArray, List.getElem?_cons_succ, List.getElem?_cons_zero] <;> rfl)
  case hqR1x => exact fun _ _ _ h => h
  case hyR1x => exact Or.inl ⟨by rfl, by (intro wS hSw; have s5 : wS.cell? ⟨w.heap.size + 1, 0, none⟩ = some (.int .i64 (dint od 0)) := hSw; go_simp; try with_reducible rfl)⟩
  try simp only [Act.put, List.setIfInBounds_toArray, List.set_cons_zero, List.set_cons_succ]
  refine wpAnyH_take (i := 2) (oi := ?oiR2x) (v := ?vR2x) ?hiR2x (by kernel_rfl) (by kernel_rfl) (by kernel_rfl) ?hqR2x ?hyR2x (by assumption) ?restR2x
  case hiR2x => (simp only [List.getElem?_toArray, List.getElem?_cons_succ, List.getElem?_cons_zero] <;> rfl)
  case hqR2x => exact fun _ _ _ h => h
  case hyR2x => exact Or.inl ⟨by rfl, by (intro wS hSw; have s5 : wS.cell? ⟨w.heap.size + 1, 0, none⟩ = some (.int .i64 (dint od 0)) := hSw; go_simp; try with_reducible rfl)⟩
  try simp only [Act.put, List.setIfInBounds_toArray, List.set_cons_zero, List.set_cons_succ]
  refine wpAnyH_take (i := 4) (oi := ?oiR4x) (v := ?vR4x) ?hiR4x (by kernel_rfl) (by kernel_rfl) (by kernel_rfl) ?hqR4x ?hyR4x (by assumption) ?restR4x
  case hiR4x => (simp only [List.getElem?_toArray, List.getElem?_cons_succ, List.getElem?_cons_zero] <;> rfl)
  case hqR4x => exact fun _ _ _ h => h
  case hyR4x => exact Or.inl ⟨by rfl, by (intro wS hSw; have s5 : wS.cell? ⟨w.heap.size + 1, 0, none⟩ = some (.int .i64 (dint od 0)) := hSw; go_simp; try with_reducible rfl)⟩
  try simp only [Act.put, List.setIfInBounds_toArray, List.set_cons_zero, List.set_cons_succ]
  refine wpAnyH_take (i := 5) (oi := ?oiR5x) (v := ?vR5x) ?hiR5x (by kernel_rfl) (by kernel_rfl) (by kernel_rfl) ?hqR5x ?hyR5x (by assumption) ?restR5x
  case hiR5x => (simp only [List.getElem?_toArray, List.getElem?_cons_succ, List.getElem?_cons_zero] <;> rfl)
  case hqR5x => exact fun _ _ _ h => h
  case hyR5x => exact Or.inl ⟨by rfl, by (intro wS hSw; have s5 : wS.cell? ⟨w.heap.size + 1, 0, none⟩ = some (.int .i64 (dint od 0)) := hSw; go_simp; try with_reducible rfl)⟩
  try simp only [Act.put, List.setIfInBounds_toArray, List.set_cons_zero, List.set_cons_succ]
  refine wpAnyH_ready (rs := [3]) (by kernel_rfl) (by simp) ?_
  refine AllReadyH.cons (o := ?oiR3x) ?hiR3x (fun K hK => ?hsR3x) AllReadyH.nil
  case hiR3x => (simp only [List.getElem?_toArray, List.getElem?_cons_succ, List.getElem?_cons_zero] <;> rfl)
  go_simp
  refine hK.out _ _ SX.out (fun hHeld3 => ?_)
  clear hHeld3
  clear hK K
  try simp only [Act.put, List.setIfInBounds_toArray, List.set_cons_zero, List.set_cons_succ]
  refine wpAnyH_ready (rs := [6]) (by kernel_rfl) (by simp) ?_
  refine AllReadyH.cons (o := ?oiR6x) ?hiR6x (fun K hK => ?hsR6x) AllReadyH.nil
  case hiR6x => (simp only [List.getElem?_toArray, List.getElem?_cons_succ, List.getElem?_cons_zero] <;> rfl)
  go_simp
  refine HX.out.mono ?_
  rintro e w5 ⟨ao5, m5, c5, rfl, own5, b5⟩
  have b5 := (Below.refl w4.heap.size w4).drew.trans b5
  have S5 := Lib.hid (show w5.cell? ⟨w.heap.size + 1, 0, none⟩ = some (.int .i64 (dint od 0)) from (OB3.out.old b5).cell 0 _ (HO.out.int 0 rfl).1)
  obtain ⟨ca5, fa5⟩ := AL.out.there w5 (below_grown b5)
  have B5 := Lib.hid b5
  have OW5 := Lib.hid own5
  clear b5 own5 ca3
  refine hK.out _ _ S5.out (fun hHeld6 => ?_)
  clear hK K
  try simp only [Act.put, List.setIfInBounds_toArray, List.set_cons_zero, List.set_cons_succ]
  refine wpAnyH_take (i := 7) (oi := ?oiR7x) (v := ?vR7x) ?hiR7x (by kernel_rfl) (by kernel_rfl) (by kernel_rfl) ?hqR7x ?hyR7x (by assumption) ?restR7x
  case hiR7x => (simp only [List.getElem?_toArray, List.getElem?_cons_succ, List.getElem?_cons_zero] <;> rfl)
  case hqR7x => exact fun _ _ _ h => h
  case hyR7x => exact Or.inl ⟨by rfl, by (intro wS hSw; have s5 : wS.cell? ⟨w.heap.size + 1, 0, none⟩ = some (.int .i64 (dint od 0)) := hSw; go_simp; try with_reducible rfl)⟩
  try simp only [Act.put, List.setIfInBounds_toArray, List.set_cons_zero, List.set_cons_succ]
  refine wpAnyH_ready (rs := [8]) (by kernel_rfl) (by simp) ?_
  refine AllReadyH.cons (o := ?oiR8x) ?hiR8x (fun K hK => ?hsR8x) AllReadyH.nil
  case hiR8x => (simp only [List.getElem?_toArray, List.getElem?_cons_succ, List.getElem?_cons_zero] <;> rfl)
  go_simp
  obtain ⟨es5, ow5, hes5⟩ := OW5.out
  have hz3 := HZ3.out
  obtain ⟨ρ6, cs6, s6, x6, hro, hno, hu⟩ := AL.out.put w5 L (.slice ao5 m5 c5) ((listT (remA ds od) (dint od 4) (dint od 2)).filter (fun x => !(dint x 0 == dint od 0))) (Nat.le_refl _) (below_grown B5.out) ⟨es5, own_low ow5 (Nat.le_trans HB.out (Nat.le_trans (Nat.le_add_right _ 3) HZ3.out)), es_any (flat_ints 1) hes5⟩ (Nat.le_trans (Nat.mul_le_mul_right _ (List.length_filter_le _ _)) HBL.out) (fun g' hg' => .inr (ow5.lt g' hg').1)
  obtain ⟨W6, hW6⟩ : ∃ W, W = w5.setCell ⟨ab, oo, none⟩ (.slice ao5 m5 c5) := ⟨_, rfl⟩
  rw [← hW6] at s6 x6 hno hu
  have S6 := Lib.hid (show OwnS ρ6 L B W6 cs6 (remB (remA ds od) od) from s6)
  have U6 := Lib.hid (U3.out.trans (hu w.heap.size (by omega) (Nat.le_refl _)) (Nat.le_refl _))
  have ST6 := Lib.hid x6
  have OB6 := Lib.hid (OB3.out.same (hno _ (by omega) (by omega) M1.out))
  have RS6 := Lib.hid (RS3.out.same (hno _ (by omega) (by omega) M2.out))
  have N6 := Lib.hid (show ρ6 w.heap.size = .none ∧ ρ6 (w.heap.size + 1) = .none ∧ ρ6 (w.heap.size + 2) = .none from ⟨(hro _ (by omega)).trans M0.out, (hro _ (by omega)).trans M1.out, (hro _ (by omega)).trans M2.out⟩)
  have HZ6 := Lib.hid (show w.heap.size + 3 ≤ W6.heap.size from Nat.le_trans hz3 (hu w.heap.size (by omega) (Nat.le_refl _)).size)
  have HW6 := Lib.hid hW6
  have S6x := Lib.hid (show (w5.setCell ⟨ab, oo, none⟩ (.slice ao5 m5 c5)).cell? ⟨w.heap.size + 1, 0, none⟩ = some (.int .i64 (dint od 0)) from by rw [← hW6]; exact OB6.out.cell 0 _ (HO.out.int 0 rfl).1)
  clear ow5 hes5 hz3 s6 x6 hro hno hu hW6 ca5 fa5
  refine hK.out _ _ S6x.out (fun hHeld8 => ?_)
  clear hK K
  try simp only [Act.put, List.setIfInBounds_toArray, List.set_cons_zero, List.set_cons_succ]
  refine wpAnyH_done (by kernel_rfl) ?_ _
  refine NoPanic.normal ?_
  obtain ⟨v4, hv4, ow4⟩ := S6.out.stack
  obtain ⟨es4, ro4, he4⟩ := ow4.row
  have ci6 := OB6.out.cell 0 _ (HO.out.int 0 rfl).1
  have HDF := Lib.hid (delfuncItem (fun b => ρ6 b ≠ .none) _ L L B v4 es4 _ (dint od 0) (w.heap.size + 1) W6 (ow4.rd (by decide) (fun b => ρ6 b ≠ .none) (fun b hb => by rcases hb with e | e <;> rw [e] <;> simp)) he4 hL ro4 ci6 (fun e => by have := ow4.role _ e; rw [N6.out.2.1] at this; cases this) _ rfl)
  have c64 := ST6.out.cell 4 _ hv4
  have HV4 := Lib.hid hv4
  have HES4 := Lib.hid he4
  have HBY4 := Lib.hid ow4.bytes
  have HROLE4 := Lib.hid ow4.role
  obtain ⟨ao4, m4, c4, rfl⟩ := own_sl ro4
  rw [HW6.out] at c64
  clear hv4 ow4 ro4 he4 ci6
  go_wp2_with fail
  rw [← HW6.out]
  refine HDF.out.mono ?_
  rintro e w7 ⟨ao7, m7, c7, rfl, hm7, r7, hsame7, gr7⟩
  obtain ⟨ρ8, s8, u8⟩ := S6.out.setStack _ (.slice ao7 m7 c7) HV4.out gr7 m7 (es4.filter (fun x => !(fun x : Cl 94 => cInt x.1 0 == dint od 0 && cInt x.1 1 == 1) x)) _ r7 hm7.symm (Es.filter (fun x => !(dint x 0 == dint od 0 && dint x 1 == 1)) _ HES4.out (fun j x d h1 h2 => by
   have hr := HES4.out.at_ j x d h1 h2
   dsimp only
   rw [cInt_of (hr.int 0 kItem0.1).1, cInt_of (hr.int 1 kItem0.2).1])) (Nat.le_trans (Nat.mul_le_mul_right _ (List.length_filter_le _ _)) HBY4.out) (fun g' hg' => .inl (hsame7 g' hg'))
  have hz6 := HZ6.out
  have nb : ∀ b, ρ6 b = .none → some b ≠ (Value.slice ao4 m4 c4).ownBlock := fun b hb e => by
   have := HROLE4.out b e.symm
   rw [hb] at this
   cases this
  have st7 := ST6.out.same (gr7.block _ (by omega) (nb _ N6.out.1))
  have rs7 := RS6.out.same (gr7.block _ (by omega) (nb _ N6.out.2.2))
  obtain ⟨cs8, hcs8⟩ : ∃ l, l = (cs6 : List Value).set 4 (.slice ao7 m7 c7) := ⟨_, rfl⟩
  rw [← hcs8] at s8
  obtain ⟨W8, hW8⟩ : ∃ W, W = w7.setCell ⟨w.heap.size, 4, none⟩ (.slice ao7 m7 c7) := ⟨_, rfl⟩
  have c74 := st7.cell 4 _ HV4.out
  have f74 := st7.frozen 4
  have st8 : Bx W8 w.heap.size 30 cs8 := by rw [hW8, hcs8]; exact st7.set 4 _
  have rs8 : Bx W8 (w.heap.size + 2) 30 zsC := by rw [hW8]; exact rs7.other 4 _ (by omega)
  have p0 : ρ8 w.heap.size = .none := (u8.role _ (by omega)).trans N6.out.1
  have p2 : ρ8 (w.heap.size + 2) = .none := (u8.role _ (by omega)).trans N6.out.2.2
  have s9 : OwnS ρ8 L B W8 cs8 (remC (remB (remA ds od) od) od) := by rw [hW8]; exact s8.aside _ 4 _ p0
  have u9 : Upd ρ ρ8 B w.heap.size w W8 := by rw [hW8]; exact (U6.out.trans u8 (by omega)).store _ _ _ (Nat.le_refl _)
  have hl8 := s9.len.1
  have RG8 := Lib.hid st8.range
  rw [hW8] at RG8
  have HI8 := Lib.hid (show (Try.prog.info? 30).map (·.size) = some cs8.length by rw [infoState, hl8])
  have ht8 : W8.there (w.heap.size + 2) 0 cs8.length := by rw [hl8]; exact rs8.there
  rw [hW8] at ht8
  have TH8 := Lib.hid ht8
  have HO8 := Lib.hid s9.rd.one
  have BE := Lib.hid (rs8.setAll cs8 hl8)
  have S9 := Lib.hid (s9.asides _ 0 cs8 p2)
  have U9 := Lib.hid (u9.stores (w.heap.size + 2) 0 cs8 (by omega))
  have HW8 := Lib.hid hW8
  clear hm7 r7 hsame7 gr7 s8 u8 hz6 nb st7 rs7 hcs8 hW8 st8 rs8 p0 p2 s9 u9 hl8 ht8
  go_wp2_with (first | ((with_reducible refine wpList_load_mid rfl 30 (.tmp 2) rfl w.heap.size 0 ?_ cs8 _ RG8.out Try.underlying30 rfl HI8.out ?_); rfl) | ((with_reducible refine wpList_store_cs rfl 30 (.tmp 4) (.tmp 38) rfl (w.heap.size + 2) 0 cs8 ?_ ?_ TH8.out HI8.out HO8.out ?_); rfl; rfl))
  rw [← HW8.out]
  refine bodyPost_ret (results_cs Try.results37 (w.heap.size + 2) ?_ cs8 _ (Bx.range BE.out) Try.underlying30 rfl HI8.out) rfl ?_
  ·rfl
  ·exact ⟨cs8, rfl, ρ8, by rw [HRT.out]; exact S9.out, U9.out⟩
end Go.Proofs.Ytiebjkbofoppaaa
end
section
namespace Go.Proofs.Ytiebjkbofoppaaa
open Go Go.RowKit Go.Sort Cg
/-- A new object's cells. -/
def newO (id card owner zone stamp : Int) : List Value := [.int .i64 id, .int .i64 card, .int .i64 owner, .int .i64 owner, .int .i64 zone, .bool false, .bool false, .bool false, .bool false, .int .i64 0, .int .i64 0, .int .i64 0, .int .i64 0, .int .i64 stamp, .int .i64 (-1), .int .i64 (-1), .bool false, .int .i64 0, .int .i64 0]
theorem newO_one (id card owner zone stamp : Int) : ∀ u ∈ newO id card owner zone stamp, u.oneCell' = true := by
 intro u hu
 simp only [newO, List.mem_cons, List.not_mem_nil, or_false] at hu
 rcases hu with rfl | rfl | rfl | rfl | rfl | rfl | rfl | rfl | rfl | rfl | rfl | rfl | rfl | rfl | rfl | rfl | rfl | rfl | rfl <;> rfl
def litK (k : K) (v : Value) : Bool := match k, v with
 | .lit .int, .int .i64 _ => true
 | .lit .bool, .bool _ => true
 | _, _ => false
theorem lits_rd (w : World) : ∀ (ks : List K) (vs : List Value), (List.zip ks vs).all (fun p => litK p.1 p.2) = true → ks.length = vs.length → RdL (fun _ => False) 0 w ks vs (vs.map .lit) := by
 intro ks
 induction ks with
 | nil => intro vs _ hl; match vs, hl with
  | [], _ => exact .nil
 | cons k ks ih =>
  intro vs hall hl
  match vs, hl with
  | v :: vs, hl =>
   simp only [List.zip_cons_cons, List.all_cons, Bool.and_eq_true] at hall
   refine .cons ?_ (ih vs hall.2 (by simpa using hl))
   have h1 := hall.1
   match k, v, h1 with
   | .lit .int, .int .i64 n, _ => exact .lit ⟨n, rfl⟩
   | .lit .bool, .bool b, _ => exact .lit ⟨b, rfl⟩
theorem newO_rd (id card owner zone stamp : Int) (w : World) : RdL (fun _ => False) 0 w kObject (newO id card owner zone stamp) ((newO id card owner zone stamp).map .lit) := lits_rd w _ _ rfl rfl
set_option maxRecDepth 100000 in
set_option maxHeartbeats 8000000 in
theorem new_prog (id card owner zone stamp : Int) (w : World) :
  Calls Try.prog 47 #[.int .i64 id, .int .i64 card, .int .i64 owner, .int .i64 zone, .int .i64 stamp] w fun e w' => e = .returned (.agg (newO id card owner zone stamp).toArray) ∧ Below w.heap.size w w' := by
 obtain ⟨nl, hnl⟩ : ∃ nl, nl = newO id card owner zone stamp := ⟨_, rfl⟩
 obtain ⟨W0, hW0⟩ : ∃ W, W = w.alloc (.cells #[.int .i64 0, .int .i64 0, .int .i64 0, .int .i64 0, .int .i64 0, .bool false, .bool false, .bool false, .bool false, .int .i64 0, .int .i64 0, .int .i64 0, .int .i64 0, .int .i64 0, .int .i64 0, .int .i64 0, .bool false, .int .i64 0, .int .i64 0] 47) := ⟨_, rfl⟩
 have bz : Bx W0 w.heap.size 47 zObjC.1 := by rw [hW0]; exact Bx.new w zObjC.1 _
 have hnn : nl.length = 19 := by rw [hnl]; rfl
 have ht : W0.there w.heap.size 0 nl.length := by rw [hnn]; exact bz.there
 have BE := Lib.hid (bz.setAll nl hnn)
 have BL := Lib.hid (show Below w.heap.size w W0 by rw [hW0]; exact (Below.refl w.heap.size w).alloc (Nat.le_refl _) _)
 have HI := Lib.hid (show (Try.prog.info? 47).map (·.size) = some nl.length by rw [infoObject, hnn])
 have HO := Lib.hid (show ∀ u ∈ nl, u.oneCell' = true by rw [hnl]; exact newO_one _ _ _ _ _)
 have HN := Lib.hid hnl
 rw [hW0] at ht
 have HT := Lib.hid ht
 have HW0 := Lib.hid hW0
 rw [← hnl]
 clear bz hnn ht hW0 hnl
 go_enter Try.func47, Try.ntmps47
 go_wp2_with (refine wpList_store_cs rfl 47 (.tmp 10) (.tmp 17) rfl w.heap.size 0 nl ?_ ?_ HT.out HI.out HO.out ?_; rfl; rw [HN.out]; rfl)
 rw [← HW0.out]
 refine bodyPost_ret (results_cs Try.results47 w.heap.size ?_ nl _ (Bx.range BE.out) Try.underlying47 rfl HI.out) rfl ?_
 ·rfl
 ·exact ⟨rfl, below_sets _ _ _ BL.out _ (Nat.le_refl _)⟩
/-- An object moved. -/
def movedC (o : List D) (id zone control stamp : Int) : List Value := (((newO id (dint o 1) (dint o 2) zone stamp).set 5 (.bool (dbool o 5))).set 3 (.int .i64 (if zone == 0 || zone == 5 then control else dint o 2))).set 7 (.bool (zone == 0))
theorem movedC_one (o : List D) (id zone control stamp : Int) : ∀ u ∈ movedC o id zone control stamp, u.oneCell' = true := by
 intro u hu
 simp only [movedC, newO, List.set_cons_succ, List.set_cons_zero, List.mem_cons, List.not_mem_nil, or_false] at hu
 rcases hu with rfl | rfl | rfl | rfl | rfl | rfl | rfl | rfl | rfl | rfl | rfl | rfl | rfl | rfl | rfl | rfl | rfl | rfl | rfl <;> rfl
theorem movedC_rd (o : List D) (id zone control stamp : Int) (w : World) : RdL (fun _ => False) 0 w kObject (movedC o id zone control stamp) ((movedC o id zone control stamp).map .lit) := lits_rd w _ _ rfl rfl
set_option maxRecDepth 100000 in
set_option maxHeartbeats 8000000 in
theorem moved_prog (oc : List Value) (od : List D) (id zone control stamp : Int) (w : World) (ho : RdL (fun _ => False) 0 w kObject oc od) :
  Calls Try.prog 38 #[.agg oc.toArray, .int .i64 id, .int .i64 zone, .int .i64 control, .int .i64 stamp] w fun e w' => e = .returned (.agg (movedC od id zone control stamp).toArray) ∧ Below w.heap.size w w' := by
 have hol := ho.len.1
 rw [kObject_len] at hol
 obtain ⟨W0, hW0⟩ : ∃ W, W = (w.alloc (.cells oc.toArray 47)).alloc (.cells #[.int .i64 0, .int .i64 0, .int .i64 0, .int .i64 0, .int .i64 0, .bool false, .bool false, .bool false, .bool false, .int .i64 0, .int .i64 0, .int .i64 0, .int .i64 0, .int .i64 0, .int .i64 0, .int .i64 0, .bool false, .int .i64 0, .int .i64 0] 47) := ⟨_, rfl⟩
 have hs1 : (w.alloc (.cells oc.toArray 47)).heap.size = w.heap.size + 1 := by simp
 have b0 : Below w.heap.size w W0 := by rw [hW0]; exact ((Below.refl w.heap.size w).alloc (Nat.le_refl _) _).alloc (by rw [hs1]; omega) _
 have ob : Bx W0 w.heap.size 47 oc := by rw [hW0]; exact (Bx.new w oc 47).old ((Below.refl _ _).alloc (Nat.le_refl _) _)
 have rs : Bx W0 (w.heap.size + 1) 47 zObjC.1 := by rw [hW0, ← hs1]; exact Bx.new _ zObjC.1 _
 have hs0 : W0.heap.size = w.heap.size + 2 := by rw [hW0]; simp
 have co1 := ob.cell 1 _ (ho.int 1 rfl).1
 have co2 := ob.cell 2 _ (ho.int 2 rfl).1
 rw [hW0] at co1 co2
 have OB := Lib.hid ob
 have RS := Lib.hid rs
 have HO := Lib.hid ho
 have B0 := Lib.hid b0
 have HS0 := Lib.hid hs0
 have HW0 := Lib.hid hW0
 have HNEW := Lib.hid (new_prog id (dint od 1) (dint od 2) zone stamp W0)
 obtain ⟨nl, hnl⟩ : ∃ nl, nl = newO id (dint od 1) (dint od 2) zone stamp := ⟨_, rfl⟩
 rw [← hnl] at HNEW
 have HNL := Lib.hid hnl
 clear hol hs1 b0 ob rs hs0 hW0 ho hnl
 obtain ⟨cc, hcc⟩ : ∃ cc, cc = (if zone == 0 || zone == 5 then control else dint od 2) := ⟨_, rfl⟩
 have HM := Lib.hid (show movedC od id zone control stamp = (((newO id (dint od 1) (dint od 2) zone stamp).set 5 (.bool (dbool od 5))).set 3 (.int .i64 cc)).set 7 (.bool (zone == 0)) by unfold movedC; rw [← hcc])
 rw [HM.out]
 obtain ⟨b7, hb7⟩ : ∃ b7, b7 = (zone == 0) := ⟨_, rfl⟩
 rw [← hb7]
 cases h0 : zone == 0
 ·cases h5 : zone == 5
  ·rw [h0, h5] at hcc
   have hc2 : cc = dint od 2 := hcc
   rw [h0] at hb7
   subst hc2
   subst hb7
   clear hcc
   go_enter Try.func38, Try.ntmps38
   go_wp2_with fail
   rw [← HW0.out]
   refine HNEW.out.mono ?_
   rintro e w3 ⟨rfl, b3⟩
   have hnl := HNL.out
   have hnn : nl.length = 19 := by rw [hnl]; rfl
   obtain ⟨W4, hW4⟩ : ∃ W, W = w3.alloc (.cells #[.int .i64 0, .int .i64 0, .int .i64 0, .int .i64 0, .int .i64 0, .bool false, .bool false, .bool false, .bool false, .int .i64 0, .int .i64 0, .int .i64 0, .int .i64 0, .int .i64 0, .int .i64 0, .int .i64 0, .bool false, .int .i64 0, .int .i64 0] 47) := ⟨_, rfl⟩
   have nz : Bx W4 w3.heap.size 47 zObjC.1 := by rw [hW4]; exact Bx.new w3 zObjC.1 _
   have b4 : Below w3.heap.size w3 W4 := by rw [hW4]; exact (Below.refl _ _).alloc (Nat.le_refl _) _
   have ht : W4.there w3.heap.size 0 nl.length := by rw [hnn]; exact nz.there
   rw [hW4] at ht
   have HT := Lib.hid ht
   have HI := Lib.hid (show (Try.prog.info? 47).map (·.size) = some nl.length by rw [infoObject, hnn])
   have HO1 := Lib.hid (show ∀ u ∈ nl, u.oneCell' = true by rw [hnl]; exact newO_one _ _ _ _ _)
   obtain ⟨W5, hW5⟩ : ∃ W, W = W4.setCells w3.heap.size 0 nl := ⟨_, rfl⟩
   have nx : Bx W5 w3.heap.size 47 nl := by rw [hW5]; exact nz.setAll nl hnn
   have hz := HS0.out
   have hz3 := b3.size
   have bb : Below W0.heap.size W0 W5 := by rw [hW5]; exact below_sets _ _ _ (b3.trans (b4.mono b3.size)) _ b3.size
   have co5 := (OB.out.old bb).cell 5 _ (HO.out.bool 5 rfl).1
   have f5 := nx.frozen 5
   have f3 := nx.frozen 3
   have f7 := nx.frozen 7
   have k5 := nx.cell 5 (.bool false) (by rw [hnl]; rfl)
   have k3 := nx.cell 3 (.int .i64 (dint od 2)) (by rw [hnl]; rfl)
   have k7 := nx.cell 7 (.bool false) (by rw [hnl]; rfl)
   rw [hW5, hW4] at co5 f5 f3 f7 k5 k3 k7
   obtain ⟨W6, hW6⟩ : ∃ W, W = (W5.setCell ⟨w3.heap.size, 5, none⟩ (.bool (dbool od 5))).setCell ⟨w3.heap.size, 7, none⟩ (.bool false) := ⟨_, rfl⟩
   obtain ⟨ml, hml⟩ : ∃ ml, ml = ((nl.set 5 (.bool (dbool od 5))).set 3 (.int .i64 (dint od 2))).set 7 (.bool false) := ⟨_, rfl⟩
   have mx : Bx W6 w3.heap.size 47 ml := by
    rw [hW6, hml]
    have := (nx.set 5 (.bool (dbool od 5))).set 7 (.bool false)
    rw [set_same (nl.set 5 (.bool (dbool od 5))) 3 _ (by rw [hnl]; rfl)]
    exact this
   have rz : Bx W6 (w.heap.size + 1) 47 zObjC.1 := by
    rw [hW6]
    exact ((RS.out.old bb).other _ _ (by omega)).other _ _ (by omega)
   have b6 : Below w.heap.size w W6 := by
    rw [hW6]
    refine below_set (below_set ?_ _ _ _ (by omega)) _ _ _ (by omega)
    exact B0.out.trans (bb.mono B0.out.size)
   have hml1 : ml.length = 19 := by rw [hml]; simp only [List.length_set]; exact hnn
   have HMO := Lib.hid (show ∀ u ∈ ml, u.oneCell' = true by
    have := movedC_one od id zone (dint od 2) stamp
    intro u hu
    rw [hml, hnl] at hu
    simp only [newO, List.set_cons_succ, List.set_cons_zero, List.mem_cons, List.not_mem_nil, or_false] at hu
    rcases hu with rfl | rfl | rfl | rfl | rfl | rfl | rfl | rfl | rfl | rfl | rfl | rfl | rfl | rfl | rfl | rfl | rfl | rfl | rfl <;> rfl)
   have HIN := Lib.hid (show (Try.prog.info? 47).map (·.size) = some ml.length by rw [infoObject, hml1])
   have hrg := mx.range
   have htt : W6.there (w.heap.size + 1) 0 ml.length := by rw [hml1]; exact rz.there
   rw [hW6, hW5, hW4] at hrg htt
   have RGN := Lib.hid hrg
   have HTT := Lib.hid htt
   have BE := Lib.hid (rz.setAll ml hml1)
   have B6 := Lib.hid b6
   have HML := Lib.hid hml
   have HW6 := Lib.hid (show W6 = _ by rw [hW6, hW5, hW4])
   clear b3 hnl hnn hW4 nz b4 ht hW5 nx hz hz3 bb hW6 hml mx rz b6 hml1 hrg htt
   go_wp2_with (first | ((with_reducible refine wpList_store_cs rfl 47 (.tmp 11) (.tmp 19) rfl w3.heap.size 0 nl ?_ ?_ HT.out HI.out HO1.out ?_); rfl; rfl) | ((with_reducible refine wpList_load_mid rfl 47 (.tmp 11) rfl w3.heap.size 0 ?_ ml _ RGN.out Try.underlying47 rfl HIN.out ?_); rfl) | ((with_reducible refine wpList_store_cs rfl 47 (.tmp 10) (.tmp 34) rfl (w.heap.size + 1) 0 ml ?_ ?_ HTT.out HIN.out HMO.out ?_); rfl; rfl))
   rw [← HW6.out]
   refine bodyPost_ret (results_cs Try.results38 (w.heap.size + 1) ?_ ml _ (Bx.range BE.out) Try.underlying47 rfl HIN.out) rfl ?_
   ·rfl
   ·exact ⟨by rw [HML.out, HNL.out], below_sets _ _ _ B6.out _ (by omega)⟩
  ·rw [h0, h5] at hcc
   have hc2 : control = cc := hcc.symm
   rw [h0] at hb7
   subst hc2
   subst hb7
   clear hcc
   go_enter Try.func38, Try.ntmps38
   go_wp2_with fail
   rw [← HW0.out]
   refine HNEW.out.mono ?_
   rintro e w3 ⟨rfl, b3⟩
   have hnl := HNL.out
   have hnn : nl.length = 19 := by rw [hnl]; rfl
   obtain ⟨W4, hW4⟩ : ∃ W, W = w3.alloc (.cells #[.int .i64 0, .int .i64 0, .int .i64 0, .int .i64 0, .int .i64 0, .bool false, .bool false, .bool false, .bool false, .int .i64 0, .int .i64 0, .int .i64 0, .int .i64 0, .int .i64 0, .int .i64 0, .int .i64 0, .bool false, .int .i64 0, .int .i64 0] 47) := ⟨_, rfl⟩
   have nz : Bx W4 w3.heap.size 47 zObjC.1 := by rw [hW4]; exact Bx.new w3 zObjC.1 _
   have b4 : Below w3.heap.size w3 W4 := by rw [hW4]; exact (Below.refl _ _).alloc (Nat.le_refl _) _
   have ht : W4.there w3.heap.size 0 nl.length := by rw [hnn]; exact nz.there
   rw [hW4] at ht
   have HT := Lib.hid ht
   have HI := Lib.hid (show (Try.prog.info? 47).map (·.size) = some nl.length by rw [infoObject, hnn])
   have HO1 := Lib.hid (show ∀ u ∈ nl, u.oneCell' = true by rw [hnl]; exact newO_one _ _ _ _ _)
   obtain ⟨W5, hW5⟩ : ∃ W, W = W4.setCells w3.heap.size 0 nl := ⟨_, rfl⟩
   have nx : Bx W5 w3.heap.size 47 nl := by rw [hW5]; exact nz.setAll nl hnn
   have hz := HS0.out
   have hz3 := b3.size
   have bb : Below W0.heap.size W0 W5 := by rw [hW5]; exact below_sets _ _ _ (b3.trans (b4.mono b3.size)) _ b3.size
   have co5 := (OB.out.old bb).cell 5 _ (HO.out.bool 5 rfl).1
   have f5 := nx.frozen 5
   have f3 := nx.frozen 3
   have f7 := nx.frozen 7
   have k5 := nx.cell 5 (.bool false) (by rw [hnl]; rfl)
   have k3 := nx.cell 3 (.int .i64 (dint od 2)) (by rw [hnl]; rfl)
   have k7 := nx.cell 7 (.bool false) (by rw [hnl]; rfl)
   rw [hW5, hW4] at co5 f5 f3 f7 k5 k3 k7
   obtain ⟨W6, hW6⟩ : ∃ W, W = ((W5.setCell ⟨w3.heap.size, 5, none⟩ (.bool (dbool od 5))).setCell ⟨w3.heap.size, 3, none⟩ (.int .i64 control)).setCell ⟨w3.heap.size, 7, none⟩ (.bool false) := ⟨_, rfl⟩
   obtain ⟨ml, hml⟩ : ∃ ml, ml = ((nl.set 5 (.bool (dbool od 5))).set 3 (.int .i64 control)).set 7 (.bool false) := ⟨_, rfl⟩
   have mx : Bx W6 w3.heap.size 47 ml := by
    rw [hW6, hml]
    exact ((nx.set 5 _).set 3 _).set 7 _
   have rz : Bx W6 (w.heap.size + 1) 47 zObjC.1 := by
    rw [hW6]
    exact (((RS.out.old bb).other _ _ (by omega)).other _ _ (by omega)).other _ _ (by omega)
   have b6 : Below w.heap.size w W6 := by
    rw [hW6]
    refine below_set (below_set (below_set ?_ _ _ _ (by omega)) _ _ _ (by omega)) _ _ _ (by omega)
    exact B0.out.trans (bb.mono B0.out.size)
   have hml1 : ml.length = 19 := by rw [hml]; simp only [List.length_set]; exact hnn
   have HMO := Lib.hid (show ∀ u ∈ ml, u.oneCell' = true by
    have := movedC_one od id zone control stamp
    intro u hu
    rw [hml, hnl] at hu
    simp only [newO, List.set_cons_succ, List.set_cons_zero, List.mem_cons, List.not_mem_nil, or_false] at hu
    rcases hu with rfl | rfl | rfl | rfl | rfl | rfl | rfl | rfl | rfl | rfl | rfl | rfl | rfl | rfl | rfl | rfl | rfl | rfl | rfl <;> rfl)
   have HIN := Lib.hid (show (Try.prog.info? 47).map (·.size) = some ml.length by rw [infoObject, hml1])
   have hrg := mx.range
   have htt : W6.there (w.heap.size + 1) 0 ml.length := by rw [hml1]; exact rz.there
   rw [hW6, hW5, hW4] at hrg htt
   have RGN := Lib.hid hrg
   have HTT := Lib.hid htt
   have BE := Lib.hid (rz.setAll ml hml1)
   have B6 := Lib.hid b6
   have HML := Lib.hid hml
   have HW6 := Lib.hid (show W6 = _ by rw [hW6, hW5, hW4])
   clear b3 hnl hnn hW4 nz b4 ht hW5 nx hz hz3 bb hW6 hml mx rz b6 hml1 hrg htt
   go_wp2_with (first | ((with_reducible refine wpList_store_cs rfl 47 (.tmp 11) (.tmp 19) rfl w3.heap.size 0 nl ?_ ?_ HT.out HI.out HO1.out ?_); rfl; rfl) | ((with_reducible refine wpList_load_mid rfl 47 (.tmp 11) rfl w3.heap.size 0 ?_ ml _ RGN.out Try.underlying47 rfl HIN.out ?_); rfl) | ((with_reducible refine wpList_store_cs rfl 47 (.tmp 10) (.tmp 34) rfl (w.heap.size + 1) 0 ml ?_ ?_ HTT.out HIN.out HMO.out ?_); rfl; rfl))
   rw [← HW6.out]
   refine bodyPost_ret (results_cs Try.results38 (w.heap.size + 1) ?_ ml _ (Bx.range BE.out) Try.underlying47 rfl HIN.out) rfl ?_
   ·rfl
   ·exact ⟨by rw [HML.out, HNL.out], below_sets _ _ _ B6.out _ (by omega)⟩
 ·rw [h0] at hcc
  have hc2 : control = cc := by rw [hcc]; rfl
  rw [h0] at hb7
  subst hc2
  subst hb7
  clear hcc
  go_enter Try.func38, Try.ntmps38
  go_wp2_with fail
  rw [← HW0.out]
  refine HNEW.out.mono ?_
  rintro e w3 ⟨rfl, b3⟩
  have hnl := HNL.out
  have hnn : nl.length = 19 := by rw [hnl]; rfl
  obtain ⟨W4, hW4⟩ : ∃ W, W = w3.alloc (.cells #[.int .i64 0, .int .i64 0, .int .i64 0, .int .i64 0, .int .i64 0, .bool false, .bool false, .bool false, .bool false, .int .i64 0, .int .i64 0, .int .i64 0, .int .i64 0, .int .i64 0, .int .i64 0, .int .i64 0, .bool false, .int .i64 0, .int .i64 0] 47) := ⟨_, rfl⟩
  have nz : Bx W4 w3.heap.size 47 zObjC.1 := by rw [hW4]; exact Bx.new w3 zObjC.1 _
  have b4 : Below w3.heap.size w3 W4 := by rw [hW4]; exact (Below.refl _ _).alloc (Nat.le_refl _) _
  have ht : W4.there w3.heap.size 0 nl.length := by rw [hnn]; exact nz.there
  rw [hW4] at ht
  have HT := Lib.hid ht
  have HI := Lib.hid (show (Try.prog.info? 47).map (·.size) = some nl.length by rw [infoObject, hnn])
  have HO1 := Lib.hid (show ∀ u ∈ nl, u.oneCell' = true by rw [hnl]; exact newO_one _ _ _ _ _)
  obtain ⟨W5, hW5⟩ : ∃ W, W = W4.setCells w3.heap.size 0 nl := ⟨_, rfl⟩
  have nx : Bx W5 w3.heap.size 47 nl := by rw [hW5]; exact nz.setAll nl hnn
  have hz := HS0.out
  have hz3 := b3.size
  have bb : Below W0.heap.size W0 W5 := by rw [hW5]; exact below_sets _ _ _ (b3.trans (b4.mono b3.size)) _ b3.size
  have co5 := (OB.out.old bb).cell 5 _ (HO.out.bool 5 rfl).1
  have f5 := nx.frozen 5
  have f3 := nx.frozen 3
  have f7 := nx.frozen 7
  have k5 := nx.cell 5 (.bool false) (by rw [hnl]; rfl)
  have k3 := nx.cell 3 (.int .i64 (dint od 2)) (by rw [hnl]; rfl)
  have k7 := nx.cell 7 (.bool false) (by rw [hnl]; rfl)
  rw [hW5, hW4] at co5 f5 f3 f7 k5 k3 k7
  obtain ⟨W6, hW6⟩ : ∃ W, W = ((W5.setCell ⟨w3.heap.size, 5, none⟩ (.bool (dbool od 5))).setCell ⟨w3.heap.size, 3, none⟩ (.int .i64 control)).setCell ⟨w3.heap.size, 7, none⟩ (.bool true) := ⟨_, rfl⟩
  obtain ⟨ml, hml⟩ : ∃ ml, ml = ((nl.set 5 (.bool (dbool od 5))).set 3 (.int .i64 control)).set 7 (.bool true) := ⟨_, rfl⟩
  have mx : Bx W6 w3.heap.size 47 ml := by
   rw [hW6, hml]
   exact ((nx.set 5 _).set 3 _).set 7 _
  have rz : Bx W6 (w.heap.size + 1) 47 zObjC.1 := by
   rw [hW6]
   exact (((RS.out.old bb).other _ _ (by omega)).other _ _ (by omega)).other _ _ (by omega)
  have b6 : Below w.heap.size w W6 := by
   rw [hW6]
   refine below_set (below_set (below_set ?_ _ _ _ (by omega)) _ _ _ (by omega)) _ _ _ (by omega)
   exact B0.out.trans (bb.mono B0.out.size)
  have hml1 : ml.length = 19 := by rw [hml]; simp only [List.length_set]; exact hnn
  have HMO := Lib.hid (show ∀ u ∈ ml, u.oneCell' = true by
   have := movedC_one od id zone control stamp
   intro u hu
   rw [hml, hnl] at hu
   simp only [newO, List.set_cons_succ, List.set_cons_zero, List.mem_cons, List.not_mem_nil, or_false] at hu
   rcases hu with rfl | rfl | rfl | rfl | rfl | rfl | rfl | rfl | rfl | rfl | rfl | rfl | rfl | rfl | rfl | rfl | rfl | rfl | rfl <;> rfl)
  have HIN := Lib.hid (show (Try.prog.info? 47).map (·.size) = some ml.length by rw [infoObject, hml1])
  have hrg := mx.range
  have htt : W6.there (w.heap.size + 1) 0 ml.length := by rw [hml1]; exact rz.there
  rw [hW6, hW5, hW4] at hrg htt
  have RGN := Lib.hid hrg
  have HTT := Lib.hid htt
  have BE := Lib.hid (rz.setAll ml hml1)
  have B6 := Lib.hid b6
  have HML := Lib.hid hml
  have HW6 := Lib.hid (show W6 = _ by rw [hW6, hW5, hW4])
  clear b3 hnl hnn hW4 nz b4 ht hW5 nx hz hz3 bb hW6 hml mx rz b6 hml1 hrg htt
  go_wp2_with (first | ((with_reducible refine wpList_store_cs rfl 47 (.tmp 11) (.tmp 19) rfl w3.heap.size 0 nl ?_ ?_ HT.out HI.out HO1.out ?_); rfl; rfl) | ((with_reducible refine wpList_load_mid rfl 47 (.tmp 11) rfl w3.heap.size 0 ?_ ml _ RGN.out Try.underlying47 rfl HIN.out ?_); rfl) | ((with_reducible refine wpList_store_cs rfl 47 (.tmp 10) (.tmp 34) rfl (w.heap.size + 1) 0 ml ?_ ?_ HTT.out HIN.out HMO.out ?_); rfl; rfl))
  rw [← HW6.out]
  refine bodyPost_ret (results_cs Try.results38 (w.heap.size + 1) ?_ ml _ (Bx.range BE.out) Try.underlying47 rfl HIN.out) rfl ?_
  ·rfl
  ·exact ⟨by rw [HML.out, HNL.out], below_sets _ _ _ B6.out _ (by omega)⟩
set_option maxRecDepth 100000 in
set_option maxHeartbeats 8000000 in
theorem new_ref (id card owner zone stamp : Int) (w : World) :
  Calls Try.prog 48 #[.int .i64 id, .int .i64 card, .int .i64 owner, .int .i64 zone, .int .i64 stamp] w fun e w' => e = .returned (.agg (newO id card owner zone stamp).toArray) ∧ Below w.heap.size w w' := by
 obtain ⟨nl, hnl⟩ : ∃ nl, nl = newO id card owner zone stamp := ⟨_, rfl⟩
 obtain ⟨W0, hW0⟩ : ∃ W, W = w.alloc (.cells #[.int .i64 0, .int .i64 0, .int .i64 0, .int .i64 0, .int .i64 0, .bool false, .bool false, .bool false, .bool false, .int .i64 0, .int .i64 0, .int .i64 0, .int .i64 0, .int .i64 0, .int .i64 0, .int .i64 0, .bool false, .int .i64 0, .int .i64 0] 47) := ⟨_, rfl⟩
 have bz : Bx W0 w.heap.size 47 zObjC.1 := by rw [hW0]; exact Bx.new w zObjC.1 _
 have hnn : nl.length = 19 := by rw [hnl]; rfl
 have ht : W0.there w.heap.size 0 nl.length := by rw [hnn]; exact bz.there
 have BE := Lib.hid (bz.setAll nl hnn)
 have BL := Lib.hid (show Below w.heap.size w W0 by rw [hW0]; exact (Below.refl w.heap.size w).alloc (Nat.le_refl _) _)
 have HI := Lib.hid (show (Try.prog.info? 47).map (·.size) = some nl.length by rw [infoObject, hnn])
 have HO := Lib.hid (show ∀ u ∈ nl, u.oneCell' = true by rw [hnl]; exact newO_one _ _ _ _ _)
 have HN := Lib.hid hnl
 rw [hW0] at ht
 have HT := Lib.hid ht
 have HW0 := Lib.hid hW0
 rw [← hnl]
 clear bz hnn ht hW0 hnl
 go_enter Try.func48, Try.ntmps48
 go_wp2_with (refine wpList_store_cs rfl 47 (.tmp 10) (.tmp 17) rfl w.heap.size 0 nl ?_ ?_ HT.out HI.out HO.out ?_; rfl; rw [HN.out]; rfl)
 rw [← HW0.out]
 refine bodyPost_ret (results_cs Try.results48 w.heap.size ?_ nl _ (Bx.range BE.out) Try.underlying47 rfl HI.out) rfl ?_
 ·rfl
 ·exact ⟨rfl, below_sets _ _ _ BL.out _ (Nat.le_refl _)⟩
set_option maxRecDepth 100000 in
set_option maxHeartbeats 8000000 in
theorem moved_ref (oc : List Value) (od : List D) (id zone control stamp : Int) (w : World) (ho : RdL (fun _ => False) 0 w kObject oc od) :
  Calls Try.prog 42 #[.agg oc.toArray, .int .i64 id, .int .i64 zone, .int .i64 control, .int .i64 stamp] w fun e w' => e = .returned (.agg (movedC od id zone control stamp).toArray) ∧ Below w.heap.size w w' := by
 have hol := ho.len.1
 rw [kObject_len] at hol
 obtain ⟨W0, hW0⟩ : ∃ W, W = (w.alloc (.cells oc.toArray 47)).alloc (.cells #[.int .i64 0, .int .i64 0, .int .i64 0, .int .i64 0, .int .i64 0, .bool false, .bool false, .bool false, .bool false, .int .i64 0, .int .i64 0, .int .i64 0, .int .i64 0, .int .i64 0, .int .i64 0, .int .i64 0, .bool false, .int .i64 0, .int .i64 0] 47) := ⟨_, rfl⟩
 have hs1 : (w.alloc (.cells oc.toArray 47)).heap.size = w.heap.size + 1 := by simp
 have b0 : Below w.heap.size w W0 := by rw [hW0]; exact ((Below.refl w.heap.size w).alloc (Nat.le_refl _) _).alloc (by rw [hs1]; omega) _
 have ob : Bx W0 w.heap.size 47 oc := by rw [hW0]; exact (Bx.new w oc 47).old ((Below.refl _ _).alloc (Nat.le_refl _) _)
 have rs : Bx W0 (w.heap.size + 1) 47 zObjC.1 := by rw [hW0, ← hs1]; exact Bx.new _ zObjC.1 _
 have hs0 : W0.heap.size = w.heap.size + 2 := by rw [hW0]; simp
 have co1 := ob.cell 1 _ (ho.int 1 rfl).1
 have co2 := ob.cell 2 _ (ho.int 2 rfl).1
 rw [hW0] at co1 co2
 have OB := Lib.hid ob
 have RS := Lib.hid rs
 have HO := Lib.hid ho
 have B0 := Lib.hid b0
 have HS0 := Lib.hid hs0
 have HW0 := Lib.hid hW0
 have HNEW := Lib.hid (new_ref id (dint od 1) (dint od 2) zone stamp W0)
 obtain ⟨nl, hnl⟩ : ∃ nl, nl = newO id (dint od 1) (dint od 2) zone stamp := ⟨_, rfl⟩
 rw [← hnl] at HNEW
 have HNL := Lib.hid hnl
 clear hol hs1 b0 ob rs hs0 hW0 ho hnl
 obtain ⟨cc, hcc⟩ : ∃ cc, cc = (if zone == 0 || zone == 5 then control else dint od 2) := ⟨_, rfl⟩
 have HM := Lib.hid (show movedC od id zone control stamp = (((newO id (dint od 1) (dint od 2) zone stamp).set 5 (.bool (dbool od 5))).set 3 (.int .i64 cc)).set 7 (.bool (zone == 0)) by unfold movedC; rw [← hcc])
 rw [HM.out]
 obtain ⟨b7, hb7⟩ : ∃ b7, b7 = (zone == 0) := ⟨_, rfl⟩
 rw [← hb7]
 cases h0 : zone == 0
 ·cases h5 : zone == 5
  ·rw [h0, h5] at hcc
   have hc2 : cc = dint od 2 := hcc
   rw [h0] at hb7
   subst hc2
   subst hb7
   clear hcc
   go_enter Try.func42, Try.ntmps42
   go_wp2_with fail
   rw [← HW0.out]
   refine HNEW.out.mono ?_
   rintro e w3 ⟨rfl, b3⟩
   have hnl := HNL.out
   have hnn : nl.length = 19 := by rw [hnl]; rfl
   obtain ⟨W4, hW4⟩ : ∃ W, W = w3.alloc (.cells #[.int .i64 0, .int .i64 0, .int .i64 0, .int .i64 0, .int .i64 0, .bool false, .bool false, .bool false, .bool false, .int .i64 0, .int .i64 0, .int .i64 0, .int .i64 0, .int .i64 0, .int .i64 0, .int .i64 0, .bool false, .int .i64 0, .int .i64 0] 47) := ⟨_, rfl⟩
   have nz : Bx W4 w3.heap.size 47 zObjC.1 := by rw [hW4]; exact Bx.new w3 zObjC.1 _
   have b4 : Below w3.heap.size w3 W4 := by rw [hW4]; exact (Below.refl _ _).alloc (Nat.le_refl _) _
   have ht : W4.there w3.heap.size 0 nl.length := by rw [hnn]; exact nz.there
   rw [hW4] at ht
   have HT := Lib.hid ht
   have HI := Lib.hid (show (Try.prog.info? 47).map (·.size) = some nl.length by rw [infoObject, hnn])
   have HO1 := Lib.hid (show ∀ u ∈ nl, u.oneCell' = true by rw [hnl]; exact newO_one _ _ _ _ _)
   obtain ⟨W5, hW5⟩ : ∃ W, W = W4.setCells w3.heap.size 0 nl := ⟨_, rfl⟩
   have nx : Bx W5 w3.heap.size 47 nl := by rw [hW5]; exact nz.setAll nl hnn
   have hz := HS0.out
   have hz3 := b3.size
   have bb : Below W0.heap.size W0 W5 := by rw [hW5]; exact below_sets _ _ _ (b3.trans (b4.mono b3.size)) _ b3.size
   have co5 := (OB.out.old bb).cell 5 _ (HO.out.bool 5 rfl).1
   have f5 := nx.frozen 5
   have f3 := nx.frozen 3
   have f7 := nx.frozen 7
   have k5 := nx.cell 5 (.bool false) (by rw [hnl]; rfl)
   have k3 := nx.cell 3 (.int .i64 (dint od 2)) (by rw [hnl]; rfl)
   have k7 := nx.cell 7 (.bool false) (by rw [hnl]; rfl)
   rw [hW5, hW4] at co5 f5 f3 f7 k5 k3 k7
   obtain ⟨W6, hW6⟩ : ∃ W, W = (W5.setCell ⟨w3.heap.size, 5, none⟩ (.bool (dbool od 5))).setCell ⟨w3.heap.size, 7, none⟩ (.bool false) := ⟨_, rfl⟩
   obtain ⟨ml, hml⟩ : ∃ ml, ml = ((nl.set 5 (.bool (dbool od 5))).set 3 (.int .i64 (dint od 2))).set 7 (.bool false) := ⟨_, rfl⟩
   have mx : Bx W6 w3.heap.size 47 ml := by
    rw [hW6, hml]
    have := (nx.set 5 (.bool (dbool od 5))).set 7 (.bool false)
    rw [set_same (nl.set 5 (.bool (dbool od 5))) 3 _ (by rw [hnl]; rfl)]
    exact this
   have rz : Bx W6 (w.heap.size + 1) 47 zObjC.1 := by
    rw [hW6]
    exact ((RS.out.old bb).other _ _ (by omega)).other _ _ (by omega)
   have b6 : Below w.heap.size w W6 := by
    rw [hW6]
    refine below_set (below_set ?_ _ _ _ (by omega)) _ _ _ (by omega)
    exact B0.out.trans (bb.mono B0.out.size)
   have hml1 : ml.length = 19 := by rw [hml]; simp only [List.length_set]; exact hnn
   have HMO := Lib.hid (show ∀ u ∈ ml, u.oneCell' = true by
    have := movedC_one od id zone (dint od 2) stamp
    intro u hu
    rw [hml, hnl] at hu
    simp only [newO, List.set_cons_succ, List.set_cons_zero, List.mem_cons, List.not_mem_nil, or_false] at hu
    rcases hu with rfl | rfl | rfl | rfl | rfl | rfl | rfl | rfl | rfl | rfl | rfl | rfl | rfl | rfl | rfl | rfl | rfl | rfl | rfl <;> rfl)
   have HIN := Lib.hid (show (Try.prog.info? 47).map (·.size) = some ml.length by rw [infoObject, hml1])
   have hrg := mx.range
   have htt : W6.there (w.heap.size + 1) 0 ml.length := by rw [hml1]; exact rz.there
   rw [hW6, hW5, hW4] at hrg htt
   have RGN := Lib.hid hrg
   have HTT := Lib.hid htt
   have BE := Lib.hid (rz.setAll ml hml1)
   have B6 := Lib.hid b6
   have HML := Lib.hid hml
   have HW6 := Lib.hid (show W6 = _ by rw [hW6, hW5, hW4])
   clear b3 hnl hnn hW4 nz b4 ht hW5 nx hz hz3 bb hW6 hml mx rz b6 hml1 hrg htt
   go_wp2_with (first | ((with_reducible refine wpList_store_cs rfl 47 (.tmp 11) (.tmp 19) rfl w3.heap.size 0 nl ?_ ?_ HT.out HI.out HO1.out ?_); rfl; rfl) | ((with_reducible refine wpList_load_mid rfl 47 (.tmp 11) rfl w3.heap.size 0 ?_ ml _ RGN.out Try.underlying47 rfl HIN.out ?_); rfl) | ((with_reducible refine wpList_store_cs rfl 47 (.tmp 10) (.tmp 34) rfl (w.heap.size + 1) 0 ml ?_ ?_ HTT.out HIN.out HMO.out ?_); rfl; rfl))
   rw [← HW6.out]
   refine bodyPost_ret (results_cs Try.results42 (w.heap.size + 1) ?_ ml _ (Bx.range BE.out) Try.underlying47 rfl HIN.out) rfl ?_
   ·rfl
   ·exact ⟨by rw [HML.out, HNL.out], below_sets _ _ _ B6.out _ (by omega)⟩
  ·rw [h0, h5] at hcc
   have hc2 : control = cc := hcc.symm
   rw [h0] at hb7
   subst hc2
   subst hb7
   clear hcc
   go_enter Try.func42, Try.ntmps42
   go_wp2_with fail
   rw [← HW0.out]
   refine HNEW.out.mono ?_
   rintro e w3 ⟨rfl, b3⟩
   have hnl := HNL.out
   have hnn : nl.length = 19 := by rw [hnl]; rfl
   obtain ⟨W4, hW4⟩ : ∃ W, W = w3.alloc (.cells #[.int .i64 0, .int .i64 0, .int .i64 0, .int .i64 0, .int .i64 0, .bool false, .bool false, .bool false, .bool false, .int .i64 0, .int .i64 0, .int .i64 0, .int .i64 0, .int .i64 0, .int .i64 0, .int .i64 0, .bool false, .int .i64 0, .int .i64 0] 47) := ⟨_, rfl⟩
   have nz : Bx W4 w3.heap.size 47 zObjC.1 := by rw [hW4]; exact Bx.new w3 zObjC.1 _
   have b4 : Below w3.heap.size w3 W4 := by rw [hW4]; exact (Below.refl _ _).alloc (Nat.le_refl _) _
   have ht : W4.there w3.heap.size 0 nl.length := by rw [hnn]; exact nz.there
   rw [hW4] at ht
   have HT := Lib.hid ht
   have HI := Lib.hid (show (Try.prog.info? 47).map (·.size) = some nl.length by rw [infoObject, hnn])
   have HO1 := Lib.hid (show ∀ u ∈ nl, u.oneCell' = true by rw [hnl]; exact newO_one _ _ _ _ _)
   obtain ⟨W5, hW5⟩ : ∃ W, W = W4.setCells w3.heap.size 0 nl := ⟨_, rfl⟩
   have nx : Bx W5 w3.heap.size 47 nl := by rw [hW5]; exact nz.setAll nl hnn
   have hz := HS0.out
   have hz3 := b3.size
   have bb : Below W0.heap.size W0 W5 := by rw [hW5]; exact below_sets _ _ _ (b3.trans (b4.mono b3.size)) _ b3.size
   have co5 := (OB.out.old bb).cell 5 _ (HO.out.bool 5 rfl).1
   have f5 := nx.frozen 5
   have f3 := nx.frozen 3
   have f7 := nx.frozen 7
   have k5 := nx.cell 5 (.bool false) (by rw [hnl]; rfl)
   have k3 := nx.cell 3 (.int .i64 (dint od 2)) (by rw [hnl]; rfl)
   have k7 := nx.cell 7 (.bool false) (by rw [hnl]; rfl)
   rw [hW5, hW4] at co5 f5 f3 f7 k5 k3 k7
   obtain ⟨W6, hW6⟩ : ∃ W, W = ((W5.setCell ⟨w3.heap.size, 5, none⟩ (.bool (dbool od 5))).setCell ⟨w3.heap.size, 3, none⟩ (.int .i64 control)).setCell ⟨w3.heap.size, 7, none⟩ (.bool false) := ⟨_, rfl⟩
   obtain ⟨ml, hml⟩ : ∃ ml, ml = ((nl.set 5 (.bool (dbool od 5))).set 3 (.int .i64 control)).set 7 (.bool false) := ⟨_, rfl⟩
   have mx : Bx W6 w3.heap.size 47 ml := by
    rw [hW6, hml]
    exact ((nx.set 5 _).set 3 _).set 7 _
   have rz : Bx W6 (w.heap.size + 1) 47 zObjC.1 := by
    rw [hW6]
    exact (((RS.out.old bb).other _ _ (by omega)).other _ _ (by omega)).other _ _ (by omega)
   have b6 : Below w.heap.size w W6 := by
    rw [hW6]
    refine below_set (below_set (below_set ?_ _ _ _ (by omega)) _ _ _ (by omega)) _ _ _ (by omega)
    exact B0.out.trans (bb.mono B0.out.size)
   have hml1 : ml.length = 19 := by rw [hml]; simp only [List.length_set]; exact hnn
   have HMO := Lib.hid (show ∀ u ∈ ml, u.oneCell' = true by
    have := movedC_one od id zone control stamp
    intro u hu
    rw [hml, hnl] at hu
    simp only [newO, List.set_cons_succ, List.set_cons_zero, List.mem_cons, List.not_mem_nil, or_false] at hu
    rcases hu with rfl | rfl | rfl | rfl | rfl | rfl | rfl | rfl | rfl | rfl | rfl | rfl | rfl | rfl | rfl | rfl | rfl | rfl | rfl <;> rfl)
   have HIN := Lib.hid (show (Try.prog.info? 47).map (·.size) = some ml.length by rw [infoObject, hml1])
   have hrg := mx.range
   have htt : W6.there (w.heap.size + 1) 0 ml.length := by rw [hml1]; exact rz.there
   rw [hW6, hW5, hW4] at hrg htt
   have RGN := Lib.hid hrg
   have HTT := Lib.hid htt
   have BE := Lib.hid (rz.setAll ml hml1)
   have B6 := Lib.hid b6
   have HML := Lib.hid hml
   have HW6 := Lib.hid (show W6 = _ by rw [hW6, hW5, hW4])
   clear b3 hnl hnn hW4 nz b4 ht hW5 nx hz hz3 bb hW6 hml mx rz b6 hml1 hrg htt
   go_wp2_with (first | ((with_reducible refine wpList_store_cs rfl 47 (.tmp 11) (.tmp 19) rfl w3.heap.size 0 nl ?_ ?_ HT.out HI.out HO1.out ?_); rfl; rfl) | ((with_reducible refine wpList_load_mid rfl 47 (.tmp 11) rfl w3.heap.size 0 ?_ ml _ RGN.out Try.underlying47 rfl HIN.out ?_); rfl) | ((with_reducible refine wpList_store_cs rfl 47 (.tmp 10) (.tmp 34) rfl (w.heap.size + 1) 0 ml ?_ ?_ HTT.out HIN.out HMO.out ?_); rfl; rfl))
   rw [← HW6.out]
   refine bodyPost_ret (results_cs Try.results42 (w.heap.size + 1) ?_ ml _ (Bx.range BE.out) Try.underlying47 rfl HIN.out) rfl ?_
   ·rfl
   ·exact ⟨by rw [HML.out, HNL.out], below_sets _ _ _ B6.out _ (by omega)⟩
 ·rw [h0] at hcc
  have hc2 : control = cc := by rw [hcc]; rfl
  rw [h0] at hb7
  subst hc2
  subst hb7
  clear hcc
  go_enter Try.func42, Try.ntmps42
  go_wp2_with fail
  rw [← HW0.out]
  refine HNEW.out.mono ?_
  rintro e w3 ⟨rfl, b3⟩
  have hnl := HNL.out
  have hnn : nl.length = 19 := by rw [hnl]; rfl
  obtain ⟨W4, hW4⟩ : ∃ W, W = w3.alloc (.cells #[.int .i64 0, .int .i64 0, .int .i64 0, .int .i64 0, .int .i64 0, .bool false, .bool false, .bool false, .bool false, .int .i64 0, .int .i64 0, .int .i64 0, .int .i64 0, .int .i64 0, .int .i64 0, .int .i64 0, .bool false, .int .i64 0, .int .i64 0] 47) := ⟨_, rfl⟩
  have nz : Bx W4 w3.heap.size 47 zObjC.1 := by rw [hW4]; exact Bx.new w3 zObjC.1 _
  have b4 : Below w3.heap.size w3 W4 := by rw [hW4]; exact (Below.refl _ _).alloc (Nat.le_refl _) _
  have ht : W4.there w3.heap.size 0 nl.length := by rw [hnn]; exact nz.there
  rw [hW4] at ht
  have HT := Lib.hid ht
  have HI := Lib.hid (show (Try.prog.info? 47).map (·.size) = some nl.length by rw [infoObject, hnn])
  have HO1 := Lib.hid (show ∀ u ∈ nl, u.oneCell' = true by rw [hnl]; exact newO_one _ _ _ _ _)
  obtain ⟨W5, hW5⟩ : ∃ W, W = W4.setCells w3.heap.size 0 nl := ⟨_, rfl⟩
  have nx : Bx W5 w3.heap.size 47 nl := by rw [hW5]; exact nz.setAll nl hnn
  have hz := HS0.out
  have hz3 := b3.size
  have bb : Below W0.heap.size W0 W5 := by rw [hW5]; exact below_sets _ _ _ (b3.trans (b4.mono b3.size)) _ b3.size
  have co5 := (OB.out.old bb).cell 5 _ (HO.out.bool 5 rfl).1
  have f5 := nx.frozen 5
  have f3 := nx.frozen 3
  have f7 := nx.frozen 7
  have k5 := nx.cell 5 (.bool false) (by rw [hnl]; rfl)
  have k3 := nx.cell 3 (.int .i64 (dint od 2)) (by rw [hnl]; rfl)
  have k7 := nx.cell 7 (.bool false) (by rw [hnl]; rfl)
  rw [hW5, hW4] at co5 f5 f3 f7 k5 k3 k7
  obtain ⟨W6, hW6⟩ : ∃ W, W = ((W5.setCell ⟨w3.heap.size, 5, none⟩ (.bool (dbool od 5))).setCell ⟨w3.heap.size, 3, none⟩ (.int .i64 control)).setCell ⟨w3.heap.size, 7, none⟩ (.bool true) := ⟨_, rfl⟩
  obtain ⟨ml, hml⟩ : ∃ ml, ml = ((nl.set 5 (.bool (dbool od 5))).set 3 (.int .i64 control)).set 7 (.bool true) := ⟨_, rfl⟩
  have mx : Bx W6 w3.heap.size 47 ml := by
   rw [hW6, hml]
   exact ((nx.set 5 _).set 3 _).set 7 _
  have rz : Bx W6 (w.heap.size + 1) 47 zObjC.1 := by
   rw [hW6]
   exact (((RS.out.old bb).other _ _ (by omega)).other _ _ (by omega)).other _ _ (by omega)
  have b6 : Below w.heap.size w W6 := by
   rw [hW6]
   refine below_set (below_set (below_set ?_ _ _ _ (by omega)) _ _ _ (by omega)) _ _ _ (by omega)
   exact B0.out.trans (bb.mono B0.out.size)
  have hml1 : ml.length = 19 := by rw [hml]; simp only [List.length_set]; exact hnn
  have HMO := Lib.hid (show ∀ u ∈ ml, u.oneCell' = true by
   have := movedC_one od id zone control stamp
   intro u hu
   rw [hml, hnl] at hu
   simp only [newO, List.set_cons_succ, List.set_cons_zero, List.mem_cons, List.not_mem_nil, or_false] at hu
   rcases hu with rfl | rfl | rfl | rfl | rfl | rfl | rfl | rfl | rfl | rfl | rfl | rfl | rfl | rfl | rfl | rfl | rfl | rfl | rfl <;> rfl)
  have HIN := Lib.hid (show (Try.prog.info? 47).map (·.size) = some ml.length by rw [infoObject, hml1])
  have hrg := mx.range
  have htt : W6.there (w.heap.size + 1) 0 ml.length := by rw [hml1]; exact rz.there
  rw [hW6, hW5, hW4] at hrg htt
  have RGN := Lib.hid hrg
  have HTT := Lib.hid htt
  have BE := Lib.hid (rz.setAll ml hml1)
  have B6 := Lib.hid b6
  have HML := Lib.hid hml
  have HW6 := Lib.hid (show W6 = _ by rw [hW6, hW5, hW4])
  clear b3 hnl hnn hW4 nz b4 ht hW5 nx hz hz3 bb hW6 hml mx rz b6 hml1 hrg htt
  go_wp2_with (first | ((with_reducible refine wpList_store_cs rfl 47 (.tmp 11) (.tmp 19) rfl w3.heap.size 0 nl ?_ ?_ HT.out HI.out HO1.out ?_); rfl; rfl) | ((with_reducible refine wpList_load_mid rfl 47 (.tmp 11) rfl w3.heap.size 0 ?_ ml _ RGN.out Try.underlying47 rfl HIN.out ?_); rfl) | ((with_reducible refine wpList_store_cs rfl 47 (.tmp 10) (.tmp 34) rfl (w.heap.size + 1) 0 ml ?_ ?_ HTT.out HIN.out HMO.out ?_); rfl; rfl))
  rw [← HW6.out]
  refine bodyPost_ret (results_cs Try.results42 (w.heap.size + 1) ?_ ml _ (Bx.range BE.out) Try.underlying47 rfl HIN.out) rfl ?_
  ·rfl
  ·exact ⟨by rw [HML.out, HNL.out], below_sets _ _ _ B6.out _ (by omega)⟩
end Go.Proofs.Ytiebjkbofoppaaa
end
section
namespace Go.Proofs.Ytiebjkbofoppaaa
open Go Go.RowKit Go.Sort Cg
theorem dint_ne (ds : List D) (i j : Nat) (d : D) (h : j ≠ i) : dint (ds.set i d) j = dint ds j := by
 unfold dint
 rw [List.getElem?_set_ne (fun e => h e.symm)]
def dI (n : Int) : D := .lit (.int .i64 n)
def tokC (id card player stamp : Int) : List Value := ((newO id card player 0 stamp).set 5 (.bool true)).set 7 (.bool true)
theorem tokC_rd (id card player stamp : Int) (w : World) : RdL (fun _ => False) 0 w kObject (tokC id card player stamp) ((tokC id card player stamp).map .lit) := lits_rd w _ _ rfl rfl
/-- The state with one more list element. -/
def makeA (ds : List D) (card player : Int) : List D := putT ds ((tokC (dint ds 13) card player (dint ds 14)).map .lit)
def makeB (ds : List D) (card player : Int) : List D := setT (makeA ds card player) 0 0 (listT (makeA ds card player) 0 0 ++ [[dI (dint ds 13)]])
def makeT (ds : List D) (card player : Int) : List D := ((makeB ds card player).set 13 (dI (dint ds 13 + 1))).set 14 (dI (dint ds 14 + 1))
theorem makeB_13 (ds : List D) (card player : Int) (c : Nat) (hc : 5 ≤ c) : dint (makeB ds card player) c = dint ds c := by
 have e : makeB ds card player = (makeA ds card player).set 2 (.sl (listT (makeA ds card player) 0 0 ++ [[dI (dint ds 13)]])) := rfl
 rw [e, dint_ne _ _ _ _ (by omega)]
 exact dint_ne _ _ _ _ (by omega)
/-- One number behind a list of the call's own. -/
theorem snoc_es {F : Nat → Prop} {L : Nat} {w : World} {es : List (Cl 1)} {xs : List (List D)} (h : Es F L w (kI 1) es xs) (n : Int) : ∃ y : Cl 1, y.1 = [.int .i64 n] ∧ Es F L w (kI 1) (es ++ [y]) (xs ++ [[dI n]]) := by
 refine ⟨⟨[.int .i64 n], rfl, fun u hu => by rw [List.mem_singleton.1 hu]; rfl⟩, rfl, h.append ⟨rfl, fun j vs ds h1 h2 => ?_⟩⟩
 rcases j with _ | j
 ·obtain rfl := Option.some.inj h1
  obtain rfl := Option.some.inj h2
  exact .cons (.lit ⟨n, rfl⟩) .nil
 ·cases h1
set_option maxRecDepth 100000 in
set_option maxHeartbeats 8000000 in
theorem make_prog (F : Nat → Prop) (L : Nat) (cs : List Value) (ds : List D) (card player : Int) (w : World) (h : RdL F L w kState cs ds) (hL : L + 136 ≤ 140737488355328) (h13 : IntKind.i64.wrap (dint ds 13 + 1) = dint ds 13 + 1) (h14 : IntKind.i64.wrap (dint ds 14 + 1) = dint ds 14 + 1) :
  Calls Try.prog 18 #[.agg cs.toArray, .int .i64 card, .int .i64 player] w fun e w' => ∃ cs' F', e = .returned (.tuple #[.agg cs'.toArray, .int .i64 (dint ds 13)]) ∧ RdL F' (L + 128 + 8) w' kState cs' (makeT ds card player) ∧ Below w.heap.size w w' ∧ ∀ b, b < w.heap.size → F' b → F b := by
 have hl := h.len.1
 rw [kState_len] at hl
 obtain ⟨W0, hW0⟩ : ∃ W, W = (w.alloc (.cells cs.toArray 30)).alloc (.cells #[.slice none 0 0, .slice none 0 0, .slice none 0 0, .slice none 0 0, .slice none 0 0, .slice none 0 0, .slice none 0 0, .int .i64 0, .int .i64 0, .int .i64 0, .bool false, .int .i64 0, .int .i64 0, .int .i64 0, .int .i64 0, .int .u64 0, .slice none 0 0, .int .i64 0, .int .i64 0] 30) := ⟨_, rfl⟩
 have X : Bx2 w W0 cs := by rw [hW0]; exact bx2 w cs
 have hr : RdL (fun b => F b ∧ b < w.heap.size) L W0 kState cs ds := (h.imp (fun b hF hlt => ⟨hF, hlt⟩)).old X.bel
 have HC := Lib.hid (copy_prog _ L cs ds W0 hr (by omega))
 have RG := Lib.hid (show ((w.alloc (.cells cs.toArray 30)).alloc (.cells #[.slice none 0 0, .slice none 0 0, .slice none 0 0, .slice none 0 0, .slice none 0 0, .slice none 0 0, .slice none 0 0, .int .i64 0, .int .i64 0, .int .i64 0, .bool false, .int .i64 0, .int .i64 0, .int .i64 0, .int .i64 0, .int .u64 0, .slice none 0 0, .int .i64 0, .int .i64 0] 30)).rangeAt w.heap.size 0 cs from (by have := X.st.range; rw [hW0] at this; exact this))
 have HI := Lib.hid (show (Try.prog.info? 30).map (·.size) = some cs.length by rw [infoState, hl])
 have XX := Lib.hid X
 have HW0 := Lib.hid hW0
 have HLN := Lib.hid hl
 clear hW0 X hr h hl
 go_enter Try.func18, Try.ntmps18
 go_wp2_with ((with_reducible refine wpList_load_mid rfl 30 (.tmp 3) rfl w.heap.size 0 ?_ cs _ RG.out Try.underlying30 rfl HI.out ?_); rfl)
 rw [← HW0.out]
 refine HC.out.mono ?_
 rintro e w1 ⟨cs1, rfl, ⟨ρ1, s1, hn1⟩, b1⟩
 have hs0 := XX.out.size
 have st1 := XX.out.st.old b1
 have rs1 := XX.out.rs.old b1
 have hl1 := s1.len.1
 have hlc : cs1.length = cs.length := by rw [hl1, HLN.out]
 have hb1 := b1.size
 obtain ⟨W2, hW2⟩ : ∃ W, W = w1.setCells w.heap.size 0 cs1 := ⟨_, rfl⟩
 have TH1 := Lib.hid (show w1.there w.heap.size 0 cs1.length by rw [hlc]; exact st1.there)
 have HI1 := Lib.hid (show (Try.prog.info? 30).map (·.size) = some cs1.length by rw [infoState, hl1])
 have HO1 := Lib.hid s1.rd.one
 have st2 : Bx W2 w.heap.size 30 cs1 := by rw [hW2]; exact st1.setAll cs1 hlc
 have rs2 : Bx W2 (w.heap.size + 1) 30 zsC := by rw [hW2]; exact rs1.same (heap_sets _ _ _ _ _ (by omega))
 have n0 : ρ1 w.heap.size = .none := hn1 _ (by omega) (fun hF => by have := hF.2; omega)
 have n1 : ρ1 (w.heap.size + 1) = .none := hn1 _ (by omega) (fun hF => by have := hF.2; omega)
 have s2 : OwnS ρ1 L W0.heap.size W2 cs1 ds := by rw [hW2]; exact s1.asides _ 0 cs1 n0
 have bel2 : Below w.heap.size w W2 := by rw [hW2]; exact below_sets _ _ _ (XX.out.bel.trans (b1.mono (by omega))) _ (Nat.le_refl _)
 have hz2 : W2.heap.size = w1.heap.size := by rw [hW2]; exact sets_size _ _ _ _
 have c13 := st2.cell 13 _ (s2.rd.int 13 rfl).1
 have c14 := st2.cell 14 _ (s2.rd.int 14 rfl).1
 rw [hW2] at c13 c14
 have HNEW := Lib.hid (new_prog (dint ds 13) card player 0 (dint ds 14) W2)
 obtain ⟨nl, hnl⟩ : ∃ nl, nl = newO (dint ds 13) card player 0 (dint ds 14) := ⟨_, rfl⟩
 rw [← hnl] at HNEW
 have HNL := Lib.hid hnl
 have ST2 := Lib.hid st2
 have RS2 := Lib.hid rs2
 have N0 := Lib.hid n0
 have N1 := Lib.hid n1
 have FR1 := Lib.hid (show ∀ b, b < w.heap.size → ρ1 b ≠ .none → F b from fun b hb hn => Classical.byContradiction fun hF => hn (hn1 b (by omega) (fun h => hF h.1)))
 have S2 := Lib.hid s2
 have BEL2 := Lib.hid bel2
 have HS2 := Lib.hid (show w.heap.size + 2 ≤ W2.heap.size by omega)
 have HB := Lib.hid (show W0.heap.size ≤ W2.heap.size ∧ w.heap.size ≤ W0.heap.size by omega)
 have HLEN := Lib.hid hl1
 have HW2 := Lib.hid hW2
 clear hs0 st1 rs1 hl1 hlc st2 rs2 n0 n1 s2 hb1 bel2 hz2 s1 hn1 b1 hnl hW2
 go_wp2_with ((with_reducible refine wpList_store_cs rfl 30 (.tmp 3) (.tmp 10) rfl w.heap.size 0 cs1 ?_ ?_ TH1.out HI1.out HO1.out ?_); rfl; rfl)
 rw [← HW2.out]
 refine HNEW.out.mono ?_
 rintro e w3 ⟨rfl, b3⟩
 have hnn : nl.length = 19 := by rw [HNL.out]; rfl
 have hs2 := HS2.out
 have hs3 := b3.size
 obtain ⟨W4, hW4⟩ : ∃ W, W = w3.alloc (.cells #[.int .i64 0, .int .i64 0, .int .i64 0, .int .i64 0, .int .i64 0, .bool false, .bool false, .bool false, .bool false, .int .i64 0, .int .i64 0, .int .i64 0, .int .i64 0, .int .i64 0, .int .i64 0, .int .i64 0, .bool false, .int .i64 0, .int .i64 0] 47) := ⟨_, rfl⟩
 have nz : Bx W4 w3.heap.size 47 zObjC.1 := by rw [hW4]; exact Bx.new w3 zObjC.1 _
 have b4 : Below w3.heap.size w3 W4 := by rw [hW4]; exact (Below.refl _ _).alloc (Nat.le_refl _) _
 have ht : W4.there w3.heap.size 0 nl.length := by rw [hnn]; exact nz.there
 rw [hW4] at ht
 have THN := Lib.hid ht
 have HIN := Lib.hid (show (Try.prog.info? 47).map (·.size) = some nl.length by rw [infoObject, hnn])
 have HON := Lib.hid (show ∀ u ∈ nl, u.oneCell' = true by rw [HNL.out]; exact newO_one _ _ _ _ _)
 have nx := nz.setAll nl hnn
 have f5 := nx.frozen 5
 have f7 := nx.frozen 7
 have k5 := nx.cell 5 (.bool false) (by rw [HNL.out]; rfl)
 have k7 := nx.cell 7 (.bool false) (by rw [HNL.out]; rfl)
 obtain ⟨W5, hW5⟩ : ∃ W, W = ((W4.setCells w3.heap.size 0 nl).setCell ⟨w3.heap.size, 5, none⟩ (.bool true)).setCell ⟨w3.heap.size, 7, none⟩ (.bool true) := ⟨_, rfl⟩
 obtain ⟨ol, hol⟩ : ∃ ol, ol = (nl.set 5 (.bool true)).set 7 (.bool true) := ⟨_, rfl⟩
 have hot : ol = tokC (dint ds 13) card player (dint ds 14) := by rw [hol, HNL.out]; rfl
 have ox : Bx W5 w3.heap.size 47 ol := by rw [hW5, hol]; exact (nx.set 5 _).set 7 _
 have b5 : Below W2.heap.size W2 W5 := by
  rw [hW5]
  exact below_set (below_set (below_sets _ _ _ (b3.trans (b4.mono hs3)) _ hs3) _ _ _ hs3) _ _ _ hs3
 rw [hW4] at k5 k7 f5 f7
 obtain ⟨ρ5, s5, hnone5, hsame5⟩ := S2.out.new b5
 have st5 := ST2.out.old b5
 have hlo : ol.length = 19 := by rw [hol]; simp only [List.length_set]; exact hnn
 have rg5 := ox.range
 have rs5 := st5.range
 rw [hW5, hW4] at rg5 rs5
 have RG5 := Lib.hid rg5
 have RT5 := Lib.hid rs5
 have HIO := Lib.hid (show (Try.prog.info? 47).map (·.size) = some ol.length by rw [infoObject, hlo])
 have hb5 := b5.size
 have hmlt : w3.heap.size < W5.heap.size := ox.lt
 have HP := Lib.hid (put_prog ρ5 L W0.heap.size cs1 ds ol _ W5 s5 (by rw [hot]; exact tokC_rd _ _ _ _ _) (by have := HB.out; omega) (by omega))
 have ST5 := Lib.hid st5
 have RS5 := Lib.hid (RS2.out.old b5)
 have OX5 := Lib.hid ox
 have N5 := Lib.hid (show ρ5 w.heap.size = .none ∧ ρ5 (w.heap.size + 1) = .none ∧ ρ5 w3.heap.size = .none from ⟨(hsame5 _ (by omega)).trans N0.out, (hsame5 _ (by omega)).trans N1.out, hnone5 _ hs3⟩)
 have FR5 := Lib.hid (show ∀ b, b < w.heap.size → ρ5 b ≠ .none → F b from fun b hb hn => FR1.out b hb fun e => hn ((hsame5 b (by omega)).trans e))
 have BEL5 := Lib.hid (BEL2.out.trans (b5.mono BEL2.out.size))
 have HS5 := Lib.hid (show w.heap.size + 2 ≤ w3.heap.size ∧ w3.heap.size < W5.heap.size ∧ W0.heap.size ≤ W5.heap.size by have := HB.out; omega)
 have HOT := Lib.hid hot
 have HW5 := Lib.hid (show W5 = _ by rw [hW5, hW4])
 clear b3 hnn hs2 hs3 hW4 nz b4 ht nx hW5 hol hot ox b5 s5 hnone5 hsame5 st5 hlo rg5 rs5 hb5 hmlt c13 c14
 go_wp2_with (first | ((with_reducible refine wpList_store_cs rfl 47 (.tmp 8) (.tmp 17) rfl w3.heap.size 0 nl ?_ ?_ THN.out HIN.out HON.out ?_); rfl; rfl) | ((with_reducible refine wpList_load_mid rfl 30 (.tmp 3) rfl w.heap.size 0 ?_ cs1 _ RT5.out Try.underlying30 rfl HI1.out ?_); rfl) | ((with_reducible refine wpList_load_mid rfl 47 (.tmp 8) rfl w3.heap.size 0 ?_ ol _ RG5.out Try.underlying47 rfl HIO.out ?_); rfl))
 rw [← HW5.out]
 refine HP.out.mono ?_
 rintro e w6 ⟨cs6, rfl, ρ6, s6, u6⟩
 have h5 := HS5.out
 have h6 := u6.size
 have st6 := ST5.out.same (u6.keep _ (by omega) (.inr (.inl N5.out.1)))
 have rs6 := RS5.out.same (u6.keep _ (by omega) (.inr (.inl N5.out.2.1)))
 have ox6 := OX5.out.same (u6.keep _ (by omega) (.inr (.inl N5.out.2.2)))
 have q0 : ρ6 w.heap.size = .none := (u6.role _ (by omega)).trans N5.out.1
 have q1 : ρ6 (w.heap.size + 1) = .none := (u6.role _ (by omega)).trans N5.out.2.1
 have q2 : ρ6 w3.heap.size = .none := (u6.role _ (by omega)).trans N5.out.2.2
 have hl6 := s6.len.1
 have hl61 : cs6.length = cs1.length := by rw [hl6, HLEN.out]
 obtain ⟨W7, hW7⟩ : ∃ W, W = w6.setCells w.heap.size 0 cs6 := ⟨_, rfl⟩
 have TH6 := Lib.hid (show w6.there w.heap.size 0 cs6.length by rw [hl61]; exact st6.there)
 have HI6 := Lib.hid (show (Try.prog.info? 30).map (·.size) = some cs6.length by rw [infoState, hl6])
 have HO6 := Lib.hid s6.rd.one
 have st7 : Bx W7 w.heap.size 30 cs6 := by rw [hW7]; exact st6.setAll cs6 hl61
 have rs7 : Bx W7 (w.heap.size + 1) 30 zsC := by rw [hW7]; exact rs6.same (heap_sets _ _ _ _ _ (by omega))
 have ox7 : Bx W7 w3.heap.size 47 ol := by rw [hW7]; exact ox6.same (heap_sets _ _ _ _ _ (by omega))
 have s7 : OwnS ρ6 (L + 128) W0.heap.size W7 cs6 (makeA ds card player) := by
  rw [hW7]
  exact s6.asides _ 0 cs6 q0
 have bel7 : Below w.heap.size w W7 := by rw [hW7]; exact below_sets _ _ _ (u6.below BEL5.out HB.out.2 (by omega)) _ (Nat.le_refl _)
 have hz7 : W7.heap.size = w6.heap.size := by rw [hW7]; exact sets_size _ _ _ _
 obtain ⟨W8, hW8⟩ : ∃ W, W = W7.alloc (.cells #[.int .i64 (dint ds 13)] 3) := ⟨_, rfl⟩
 have b8 : Below W7.heap.size W7 W8 := by rw [hW8]; exact (Below.refl _ _).alloc (Nat.le_refl _) _
 obtain ⟨ρ8, s8, hnone8, hsame8⟩ := s7.new b8
 have st8 := st7.old b8
 have ox8 := ox7.old b8
 obtain ⟨v2, A8⟩ := s8.atBox w.heap.size st8 ((hsame8 _ (by omega)).trans q0) 2 (by omega) (by omega) 0 0 rfl (fun _ => rfl)
 obtain ⟨r8, ow8⟩ := A8.own
 obtain ⟨es, row8, hes8⟩ := ow8.row
 have HBY := Lib.hid ow8.bytes
 have hel := hes8.len
 have c72 : W7.cell? ⟨w.heap.size, 2, none⟩ = some v2 := by
  have := A8.cell
  rw [World.cell?_of_block (b8.block _ (by show w.heap.size < _; omega))] at this
  exact this
 have co0 := ox7.cell 0 (.int .i64 (dint ds 13)) (by rw [HOT.out]; rfl)
 rw [hW7] at c72 co0
 have hcn : ∀ (j : Nat) (u : Value), ([.int .i64 (dint ds 13)] : List Value)[j]? = some u → W8.cell? (Addr.add ⟨W7.heap.size, 0, none⟩ j) = some u := fun j u hj => by
  rw [hW8, Addr.add_lit, Nat.zero_add]
  rw [cell_of_row _ _ j _ _ _ (heap_alloc_new W7 _)]
  rw [List.getElem?_toArray]
  exact hj
 have hby8 := ow8.bytes
 obtain ⟨zi, hEi⟩ := elemint
 have HEI := Lib.hid hEi
 have ROW8 := Lib.hid row8
 have HES8 := Lib.hid hes8
 have HEL := Lib.hid hel
 have HBG := Lib.hid (show (es.length + 1) * 8 ≤ 140737488355328 by omega)
 have HMX := Lib.hid (show es.length + 1 ≤ maxLen by simp only [maxLen]; omega)
 have HBS := Lib.hid (show W0.heap.size ≤ W8.heap.size by have := b8.size; omega)
 have HCN := Lib.hid hcn
 have HW8 := Lib.hid (show W8 = _ by rw [hW8, hW7])
 have HW7 := Lib.hid hW7
 have A8' := Lib.hid A8
 have S8' := Lib.hid s8
 have OX8 := Lib.hid ox8
 have ST8 := Lib.hid st8
 have C13 := Lib.hid (show cs6[13]? = some (.int .i64 (dint ds 13)) by have := (s8.rd.int 13 rfl).1; rw [show dint (makeA ds card player) 13 = dint ds 13 from dint_ne _ _ _ _ (by omega)] at this; exact this)
 have C14 := Lib.hid (show cs6[14]? = some (.int .i64 (dint ds 14)) by have := (s8.rd.int 14 rfl).1; rw [show dint (makeA ds card player) 14 = dint ds 14 from dint_ne _ _ _ _ (by omega)] at this; exact this)
 have HNB := Lib.hid (show ∀ b, ρ8 b = .none → v2.ownBlock ≠ some b from fun b hb => A8.nb b hb)
 have RS8 := Lib.hid (rs7.old b8)
 have N8 := Lib.hid (show ρ8 w.heap.size = .none ∧ ρ8 (w.heap.size + 1) = .none ∧ ρ8 w3.heap.size = .none from ⟨(hsame8 _ (by omega)).trans q0, (hsame8 _ (by omega)).trans q1, (hsame8 _ (by omega)).trans q2⟩)
 have FR8 := Lib.hid (show ∀ b, b < w.heap.size → ρ8 b ≠ .none → F b from fun b hb hn => FR5.out b hb fun e => hn ((hsame8 b (by omega)).trans ((u6.role b (by omega)).trans e)))
 have BEL8 := Lib.hid (bel7.trans (b8.mono (by omega)))
 have HS8 := Lib.hid (show w.heap.size + 2 ≤ w3.heap.size ∧ w3.heap.size < W8.heap.size by have := b8.size; omega)
 have HZ7 := Lib.hid (show W7.heap.size = w6.heap.size by rw [hW7]; exact sets_size _ _ _ _)
 obtain ⟨p2, n2, k2, rfl⟩ := own_sl row8
 obtain ⟨hn2, _⟩ := own_cap row8
 subst hn2
 have ROWL := Lib.hid (show ((w6.setCells w.heap.size 0 cs6).alloc (.cells #[.int .i64 (dint ds 13)] 3)).ownsRow W0.heap.size 3 1 (.slice p2 es.length k2) es.length (es.flatMap Subtype.val) from by rw [← HW8.out]; exact ROW8.out)
 have HCNL := Lib.hid (show ∀ (j : Nat) (u : Value), ([.int .i64 (dint ds 13)] : List Value)[j]? = some u → ((w6.setCells w.heap.size 0 cs6).alloc (.cells #[.int .i64 (dint ds 13)] 3)).cell? (Addr.add ⟨(w6.setCells w.heap.size 0 cs6).heap.size, 0, none⟩ j) = some u from by rw [← HW8.out, ← HW7.out]; exact HCN.out)
 have HBSL := Lib.hid (show W0.heap.size ≤ ((w6.setCells w.heap.size 0 cs6).alloc (.cells #[.int .i64 (dint ds 13)] 3)).heap.size from by rw [← HW8.out]; exact HBS.out)
 clear h5 h6 st6 rs6 ox6 q0 q1 q2 hl6 hl61 st7 rs7 ox7 s7 bel7 hz7 b8 hnone8 hsame8 st8 ox8 ow8 row8 hes8 hel hcn hby8 hEi hW8 hW7 A8 s8 s6 u6
 go_wp2_with (first | ((with_reducible refine wpList_store_cs rfl 30 (.tmp 3) (.tmp 22) rfl w.heap.size 0 cs6 ?_ ?_ TH6.out HI6.out HO6.out ?_); rfl; rfl) | (at_builtin; refine wpList_append_own2 rfl (.tmp 24) (.tmp 27) 24 rfl W0.heap.size HEI.out (.slice p2 es.length k2) es.length (es.flatMap Subtype.val) rfl ROWL.out ⟨(w6.setCells w.heap.size 0 cs6).heap.size, 0, none⟩ 1 1 [.int .i64 (dint ds 13)] rfl rfl HCNL.out (fun u hu => by rw [List.mem_singleton.1 hu]; rfl) HMX.out HBG.out HBSL.out (by decide) ?_; intro v9 w9 own9 gr9 fr9; rw [← HW8.out] at gr9 fr9; obtain ⟨p9, n9, k9, rfl⟩ := own_sl own9; obtain ⟨ca9, fa9⟩ := A8'.out.there w9 gr9; have st9 := ST8.out.same (gr9.block _ (by have := HS8.out; omega) (fun e => HNB.out _ N8.out.1 e.symm)); have c13 := st9.cell 13 _ C13.out; have c14 := st9.cell 14 _ C14.out; have f13 := st9.frozen 13; have f14 := st9.frozen 14; have O9 := Lib.hid own9; have G9 := Lib.hid gr9; have F9 := Lib.hid fr9; clear own9 gr9 fr9 st9))
 obtain ⟨y, hy, hes9⟩ := snoc_es HES8.out (dint ds 13)
 have h8 := HS8.out
 obtain ⟨ρ9, cs9, s9, x9, hro, hno, hu⟩ := A8'.out.put w9 (L + 128 + 8) (.slice p9 n9 k9) (listT (makeA ds card player) 0 0 ++ [[dI (dint ds 13)]]) (by omega) G9.out ⟨es ++ [y], by
  rw [List.length_append, List.flatMap_append]
  have e : [y].flatMap Subtype.val = [.int .i64 (dint ds 13)] := by rw [List.flatMap_cons, hy]; rfl
  rw [e]
  exact O9.out, hes9.frame (by omega) (Nat.le_refl _) (fun _ _ _ => rfl) (fun _ h _ => h)⟩ (by rw [List.length_append]; have := HBY.out; simp only [List.length_singleton]; omega) (fun g hg => by
  rcases F9.out with e | e
  ·exact .inl (by rw [← hg, e])
  ·rw [e] at hg
   cases hg
   exact .inr (Nat.le_refl _))
 have s9 : OwnS ρ9 (L + 128 + 8) W0.heap.size _ cs9 (makeB ds card player) := s9
 have q0 : ρ9 w.heap.size = .none := (hro _ (by omega)).trans N8.out.1
 have q1 : ρ9 (w.heap.size + 1) = .none := (hro _ (by omega)).trans N8.out.2.1
 have FR9 := Lib.hid (show ∀ b, b < w.heap.size → ρ9 b ≠ .none → F b from fun b hb hn => FR8.out b hb fun e => hn ((hro b (by omega)).trans e))
 have s10 := (s9.aside w.heap.size 13 (.int .i64 (dint ds 13 + 1)) q0).setLit 13 (by omega) .int rfl (.int .i64 (dint ds 13 + 1)) ⟨_, rfl⟩
 have s11 := (s10.aside w.heap.size 14 (.int .i64 (dint ds 14 + 1)) q0).setLit 14 (by omega) .int rfl (.int .i64 (dint ds 14 + 1)) ⟨_, rfl⟩
 have x11 := (x9.set 13 (.int .i64 (dint ds 13 + 1))).set 14 (.int .i64 (dint ds 14 + 1))
 obtain ⟨cs11, hcs11⟩ : ∃ l, l = (cs9.set 13 (.int .i64 (dint ds 13 + 1))).set 14 (.int .i64 (dint ds 14 + 1)) := ⟨_, rfl⟩
 rw [← hcs11] at s11 x11
 have ox9 := OX8.out.same (hno _ (by omega) (by omega) N8.out.2.2)
 have rs9 := RS8.out.same (hno _ (by omega) (by omega) N8.out.2.1)
 have ox11 := (ox9.other 13 (.int .i64 (dint ds 13 + 1)) (show w.heap.size ≠ w3.heap.size by omega)).other 14 (.int .i64 (dint ds 14 + 1)) (show w.heap.size ≠ w3.heap.size by omega)
 have rs11 := (rs9.other 13 (.int .i64 (dint ds 13 + 1)) (show w.heap.size ≠ w.heap.size + 1 by omega)).other 14 (.int .i64 (dint ds 14 + 1)) (show w.heap.size ≠ w.heap.size + 1 by omega)
 have bel9 := (hu w.heap.size (by omega) (Nat.le_refl _)).below BEL8.out HB.out.2 (Nat.le_refl _)
 have bel11 := below_set (below_set bel9 w.heap.size 13 (.int .i64 (dint ds 13 + 1)) (Nat.le_refl _)) w.heap.size 14 (.int .i64 (dint ds 14 + 1)) (Nat.le_refl _)
 obtain ⟨W11, hW11⟩ : ∃ W, W = ((w9.setCell ⟨w.heap.size, 2, none⟩ (.slice p9 n9 k9)).setCell ⟨w.heap.size, 13, none⟩ (.int .i64 (dint ds 13 + 1))).setCell ⟨w.heap.size, 14, none⟩ (.int .i64 (dint ds 14 + 1)) := ⟨_, rfl⟩
 rw [← hW11] at s11 x11 ox11 rs11 bel11 ⊢
 have hl11 := s11.len.1
 have SS0 := Lib.hid (show Bx W11 w.heap.size 30 cs11 ∧ Bx W11 w3.heap.size 47 ol from ⟨x11, ox11⟩)
 have HI11 := Lib.hid (show (Try.prog.info? 30).map (·.size) = some cs11.length by rw [infoState, hl11])
 have TH11 := Lib.hid (show W11.drew.there (w.heap.size + 1) 0 cs11.length by rw [hl11]; exact rs11.drew.there)
 have HO11 := Lib.hid s11.rd.one
 have BE := Lib.hid (rs11.drew.setAll cs11 hl11)
 have SF := Lib.hid ((s11.old (Below.refl _ _).drew).asides (w.heap.size + 1) 0 cs11 q1)
 have BF := Lib.hid (below_sets cs11 0 W11.drew bel11.drew (w.heap.size + 1) (Nat.le_succ _))
 have SS1 := Lib.hid (show Bx (W11.drew.setCells (w.heap.size + 1) 0 cs11) w.heap.size 30 cs11 ∧ Bx (W11.drew.setCells (w.heap.size + 1) 0 cs11) w3.heap.size 47 ol from ⟨x11.drew.same (heap_sets _ _ _ _ _ (by omega)), ox11.drew.same (heap_sets _ _ _ _ _ (by omega))⟩)
 have HC0 := Lib.hid (show ol[0]? = some (.int .i64 (dint ds 13)) by rw [HOT.out]; rfl)
 clear hes9 hy h8 s9 x9 hro hno hu q0 q1 s10 s11 x11 hcs11 ox9 rs9 ox11 rs11 bel9 bel11 hW11 hl11 ca9 fa9 c13 c14 f13 f14
 refine wp_region_noPanic ?_
 refine wp_region_held_drew (S := fun wS => Bx wS w.heap.size 30 cs11 ∧ Bx wS w3.heap.size 47 ol) (by kernel_rfl) (SS0.out) (fun hHeld => ?_)
 refine wpAnyH_take (i := 0) (oi := ?oiK0x) (v := .agg cs11.toArray) ?hiK0x (by kernel_rfl) (by kernel_rfl) (by kernel_rfl) ?hqK0x ?hyK0x (by assumption) ?restK0x
 case hiK0x => (simp only [List.getElem?_toArray, List.getElem?_cons_zero] <;> rfl)
 case hqK0x => exact fun _ _ _ h => h
 case hyK0x => exact (yieldsIf_load_mid (by rfl) 30 (.tmp 3) rfl w.heap.size 0 (by simp [Act.eval]) cs11 _ (fun _ h => Bx.range h.1) Try.underlying30 rfl HI11.out)
 try simp only [Act.put, List.setIfInBounds_toArray, List.set_cons_zero, List.set_cons_succ]
 refine wpAnyH_take (i := 1) (oi := ?oiK1x) (v := ?vK1x) ?hiK1x (by kernel_rfl) (by kernel_rfl) (by kernel_rfl) ?hqK1x ?hyK1x (by assumption) ?restK1x
 case hiK1x => (simp only [List.getElem?_toArray, List.getElem?_cons_succ, List.getElem?_cons_zero] <;> rfl)
 case hqK1x => exact fun _ _ _ h => h
 case hyK1x => exact Or.inl ⟨by rfl, by (intro wS hSw; have s5 := Bx.cell hSw.2 0 _ HC0.out; go_simp; try with_reducible rfl)⟩
 try simp only [Act.put, List.setIfInBounds_toArray, List.set_cons_zero, List.set_cons_succ]
 refine wpAnyH_take (i := 2) (oi := ?oiK2x) (v := ?vK2x) ?hiK2x (by kernel_rfl) (by kernel_rfl) (by kernel_rfl) ?hqK2x ?hyK2x (by assumption) ?restK2x
 case hiK2x => (simp only [List.getElem?_toArray, List.getElem?_cons_succ, List.getElem?_cons_zero] <;> rfl)
 case hqK2x => exact fun _ _ _ h => h
 case hyK2x => exact Or.inl ⟨by rfl, by (intro wS hSw; have s5 := Bx.cell hSw.2 0 _ HC0.out; go_simp; try with_reducible rfl)⟩
 try simp only [Act.put, List.setIfInBounds_toArray, List.set_cons_zero, List.set_cons_succ]
 refine wpAnyH_ready (rs := [3]) (by kernel_rfl) (by simp) ?_
 refine AllReadyH.cons (o := ?oiK3x) ?hiK3x (fun K hK => ?hsK3x) AllReadyH.nil
 case hiK3x => (simp only [List.getElem?_toArray, List.getElem?_cons_succ, List.getElem?_cons_zero] <;> rfl)
 refine step_store_mid rfl 30 (.tmp 6) (.tmp 38) rfl (w.heap.size + 1) 0 cs11 (by simp [Act.eval]) (by simp [Act.eval]) TH11.out HI11.out HO11.out ?_
 refine hK.out _ _ SS1.out (fun hHeld3 => ?_)
 clear hK K
 try simp only [Act.put]
 refine wpAnyH_take (i := 4) (oi := ?oiK4x) (v := ?vK4x) ?hiK4x (by kernel_rfl) (by kernel_rfl) (by kernel_rfl) ?hqK4x ?hyK4x (by assumption) ?restK4x
 case hiK4x => (simp only [List.getElem?_toArray, List.getElem?_cons_succ, List.getElem?_cons_zero] <;> rfl)
 case hqK4x => exact fun _ _ _ h => h
 case hyK4x => exact Or.inl ⟨by rfl, by (intro wS hSw; have s5 := Bx.cell hSw.2 0 _ HC0.out; go_simp; try with_reducible rfl)⟩
 try simp only [Act.put, List.setIfInBounds_toArray, List.set_cons_zero, List.set_cons_succ]
 refine wpAnyH_done (by kernel_rfl) ?_ _
 refine NoPanic.normal ?_
 go_wp2_with fail
 refine bodyPost_ret (results_cs2 Try.results18 (w.heap.size + 1) ?_ (.int .i64 (dint ds 13)) ?_ cs11 _ (Bx.range BE.out) Try.underlying30 rfl HI11.out) rfl ?_
 ·rfl
 ·rfl
 ·exact ⟨cs11, _, rfl, SF.out.rd, BF.out, FR9.out⟩
end Go.Proofs.Ytiebjkbofoppaaa
end
