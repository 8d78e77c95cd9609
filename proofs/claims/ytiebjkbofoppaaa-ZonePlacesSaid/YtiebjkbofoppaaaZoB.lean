/- Chapter 25: put, Put of the program. -/
import Derived.Test.YtiebjkbofoppaaaZoA
import Derived.Great.BuildSlice
namespace Go.Proofs.Ytiebjkbofoppaaa
open Go Go.RowKit Go.Sort Cg
/-- A slice literal of one struct. -/
theorem wpList_build1 {P : Program} {ops : Array Oper} {rest : List Oper} {o : Oper} {a : Act} {w : World} {Q : Exit → Act → World → Prop} (hg : o.guard = none) (t e : TypeId) (x : Operand) (ho : o.op = .buildSlice t 1 #[(0, x)])
    (cs : List Value) (hx : a.eval x = .agg cs.toArray) (hu : P.underlying t = some (.slice e)) (hi : (P.info? e).map (·.size) = some cs.length) (hz : ((P.info? e).bind (·.zero)).isSome = true) (h0 : 0 < cs.length) (hs : cs.length ≤ 2 ^ 24)
    (h : wpList P ops Q rest (a.put o.dst (.slice (some ⟨w.heap.size, 0, none⟩) 1 1)) (w.alloc (.cells cs.toArray e))) : wpList P ops Q (o :: rest) a w := by
  cases hie : P.info? e with
  | none => simp [hie] at hi
  | some ie =>
    simp only [hie, Option.map_some, Option.some.injEq, Option.bind_some] at hi hz
    obtain ⟨z, hzz⟩ := Option.isSome_iff_exists.1 hz
    refine wpList_buildSlice hg t e 1 _ ho cs.toArray ie z hu hie hzz (by omega) (by omega) ?_ h
    have := Great.fill_whole (s := ie.size) (by omega) [.agg cs.toArray] ((Array.range (1 * ie.size)).map (z.cells[· % z.cells.size]!)) (fun v hv => by
      obtain rfl := List.mem_singleton.1 hv
      show cs.toArray.size = _
      rw [List.size_toArray, hi]) (by simp)
    have e2 : (#[(0, x)].map fun (i, x) => (i, a.eval x)).toList = (([Value.agg cs.toArray] : List Value).zipIdx 0).map fun x => (x.2, x.1) := by simp [hx]
    have e3 : ((([Value.agg cs.toArray] : List Value).flatMap fun v => v.cells.toList).toArray) = cs.toArray := by simp [Value.cells]
    rw [e2, this, e3]
theorem zSome : ((Try.prog.info? 47).bind (·.zero)).isSome = true := by kernel_rfl
theorem es_ins {F : Nat → Prop} {L : Nat} {w : World} {k : Nat} {e : List K} {es : List (Cl k)} {xs : List (List D)} (h : Es F L w e es xs) (i : Nat) (y : Cl k) (d : List D) (hy : RdL F L w e y.1 d) : Es F L w e (es.take i ++ y :: es.drop i) (xs.take i ++ d :: xs.drop i) := by
  have h1 : Es F L w e [y] [d] := ⟨rfl, fun j vs ds h1 h2 => by
    rcases j with _ | j
    · obtain rfl := Option.some.inj h1
      obtain rfl := Option.some.inj h2
      exact hy
    · cases h1⟩
  exact (h.take i).append (h1.append (h.drop i))
/-- The objects changed. -/
theorem OwnS.setObjs {ρ : Nat → Role} {L L' B : Nat} {w w' : World} {cs : List Value} {ds : List D} (h : OwnS ρ L B w cs ds) (v v' : Value) (hv : cs[1]? = some v) (hL : L ≤ L') (gr : w.grownBy w' v.ownBlock) (n : Nat) (es : List (Cl 19)) (xs' : List (List D)) (r : w'.ownsRow B 47 19 v' n (es.flatMap Subtype.val)) (hn : es.length = n) (hE : Es (fun _ => False) 0 w kObject es xs')
    (hby : xs'.length * 128 ≤ L') (hsame : ∀ g, v'.ownBlock = some g → v.ownBlock = some g ∨ w.heap.size ≤ g) : ∃ ρ', OwnS ρ' L' B w' (cs.set 1 v') (ds.set 1 (.sl xs')) ∧ Upd ρ ρ' B w.heap.size w w' := by
  subst hn
  exact h.setRow 1 (by omega) (by omega) v v' hv hL gr xs' ⟨es, r, es_any flatObject hE⟩ hby hsame
/-- A struct stored whole. -/
theorem wpList_store_cs {P : Program} {ops : Array Oper} {rest : List Oper} {op : Oper} {a : Act} {w : World} {Q : Exit → Act → World → Prop} (hgd : op.guard = none) (ty : TypeId) (x y : Operand) (ho : op.op = .store ty x y)
    (b o : Nat) (cs : List Value) (hx : a.eval x = .pointer (some ⟨b, o, none⟩)) (hy : a.eval y = .agg cs.toArray) (ht : w.there b o cs.length) (hi : (P.info? ty).map (·.size) = some cs.length) (h1 : ∀ u ∈ cs, u.oneCell' = true)
    (h : wpList P ops Q rest (a.put op.dst undef) (w.setCells b o cs)) : wpList P ops Q (op :: rest) a w :=
  wpList_store_mid hgd ty x y ho b o cs.toArray hx hy (by rw [List.size_toArray]; exact ht) (by rw [List.size_toArray]; exact hi) (all_oneCell_toArray h1) h
def zsC : List Value := [.slice none 0 0, .slice none 0 0, .slice none 0 0, .slice none 0 0, .slice none 0 0, .slice none 0 0, .slice none 0 0, .int .i64 0, .int .i64 0, .int .i64 0, .bool false, .int .i64 0, .int .i64 0, .int .i64 0, .int .i64 0, .int .u64 0, .slice none 0 0, .int .i64 0, .int .i64 0]
theorem OwnS.old {ρ : Nat → Role} {L B : Nat} {w w' : World} {cs : List Value} {ds : List D} (h : OwnS ρ L B w cs ds) (hb : Below w.heap.size w w') : OwnS ρ L B w' cs ds := h.frame (Nat.le_refl _) hb.size (fun b hlt _ => hb.block b hlt) (fun _ _ => rfl)
/-- The objects of a state with one put in. -/
def insAt (od : List D) (xs : List (List D)) : Nat := if fidx (fun o => decide (dint od 0 < dint o 0)) xs < 0 then xs.length else (fidx (fun o => decide (dint od 0 < dint o 0)) xs).toNat
def putO (od : List D) (xs : List (List D)) : List (List D) :=
  if fidx (fun o => dint o 0 == dint od 0) xs < 0 then xs.take (insAt od xs) ++ od :: xs.drop (insAt od xs) else xs.set (fidx (fun o => dint o 0 == dint od 0) xs).toNat od
def putT (ds od : List D) : List D := ds.set 1 (.sl (putO od (dxs ds 1)))
/-- Row 1 of a state of the call's own. -/
theorem OwnS.objs {ρ : Nat → Role} {L B : Nat} {w : World} {cs : List Value} {ds : List D} (h : OwnS ρ L B w cs ds) : ∃ v, cs[1]? = some v ∧ OwnR ρ (.row 1) L B 19 47 kObject 128 w v (dxs ds 1) := by
  obtain ⟨v, a, _, b⟩ := h.row 1 (by omega) (by omega)
  exact ⟨v, a, b⟩
theorem fidx_lt {α : Type} (p : α → Bool) (xs : List α) : fidx p xs < xs.length := by
  unfold fidx
  cases h : xs.findIdx? p with
  | none => show (-1 : Int) < _; omega
  | some i =>
    obtain ⟨h1, _⟩ := List.findIdx?_eq_some_iff_getElem.1 h
    show (i : Int) < _
    omega
theorem insAt_le (od : List D) (xs : List (List D)) : insAt od xs ≤ xs.length := by
  unfold insAt
  have := fidx_lt (fun o => decide (dint od 0 < dint o 0)) xs
  split <;> omega
set_option maxRecDepth 100000 in
set_option maxHeartbeats 8000000 in
theorem put_prog (ρ : Nat → Role) (L B : Nat) (cs : List Value) (ds : List D) (oc : List Value) (od : List D) (w : World) (h : OwnS ρ L B w cs ds) (ho : RdL (fun _ => False) 0 w kObject oc od) (hB : B ≤ w.heap.size) (hL : L + 128 ≤ 140737488355328) :
    Calls Try.prog 39 #[.agg cs.toArray, .agg oc.toArray] w fun e w' => ∃ cs', e = .returned (.agg cs'.toArray) ∧ (∃ ρ', OwnS ρ' (L + 128) B w' cs' (putT ds od) ∧ Upd ρ ρ' B w.heap.size w w') := by
  have hl := h.len.1
  have hol := ho.len.1
  rw [kObject_len] at hol
  obtain ⟨n, hn⟩ : ∃ n, n = w.heap.size := ⟨_, rfl⟩
  obtain ⟨W0, hW0⟩ : ∃ W, W = ((w.alloc (.cells cs.toArray 30)).alloc (.cells oc.toArray 47)).alloc (.cells zsC.toArray 30) := ⟨_, rfl⟩
  have hs1 : (w.alloc (.cells cs.toArray 30)).heap.size = w.heap.size + 1 := by simp
  have hs2 : ((w.alloc (.cells cs.toArray 30)).alloc (.cells oc.toArray 47)).heap.size = w.heap.size + 2 := by simp
  have hs0 : W0.heap.size = w.heap.size + 3 := by rw [hW0]; simp
  have q1 := (Below.refl w.heap.size w).alloc (Nat.le_refl _) (.cells cs.toArray 30)
  have q2 := q1.alloc (by rw [hs1]; omega) (.cells oc.toArray 47)
  have b0 : Below w.heap.size w W0 := by rw [hW0]; exact q2.alloc (by rw [hs2]; omega) _
  have bs : Bx W0 w.heap.size 30 cs := by
    rw [hW0]
    exact ((Bx.new w cs 30).old ((Below.refl _ _).alloc (Nat.le_refl _) _)).old ((Below.refl _ _).alloc (Nat.le_refl _) _)
  have bo : Bx W0 (w.heap.size + 1) 47 oc := by
    rw [hW0, ← hs1]
    exact (Bx.new _ oc 47).old ((Below.refl _ _).alloc (Nat.le_refl _) _)
  have bz : Bx W0 (w.heap.size + 2) 30 zsC := by
    rw [hW0, ← hs2]
    exact Bx.new _ _ _
  obtain ⟨ρ0, s0, hnone, hsame⟩ := h.new b0
  obtain ⟨v1, hv1, ow⟩ := s0.objs
  have hoi := (ho.int 0 rfl).1
  have hrd : RdL (fun b => ρ0 b ≠ .none) L W0 kState cs ds := s0.rd
  have HP := Lib.hid (place_prog _ L cs ds (dint od 0) W0 hrd (by omega))
  have RG := Lib.hid (show (((w.alloc (.cells cs.toArray 30)).alloc (.cells oc.toArray 47)).alloc (.cells #[.slice none 0 0, .slice none 0 0, .slice none 0 0, .slice none 0 0, .slice none 0 0, .slice none 0 0, .slice none 0 0, .int .i64 0, .int .i64 0, .int .i64 0, .bool false, .int .i64 0, .int .i64 0, .int .i64 0, .int .i64 0, .int .u64 0, .slice none 0 0, .int .i64 0, .int .i64 0] 30)).rangeAt w.heap.size 0 cs from (by rw [hW0] at bs; exact bs.range))
  have HI := Lib.hid (show (Try.prog.info? 30).map (·.size) = some cs.length by rw [infoState, hl])
  have HIO := Lib.hid (show (Try.prog.info? 47).map (·.size) = some oc.length by rw [infoObject, hol])
  have HZS := Lib.hid zSome
  have HPO := Lib.hid (show 0 < oc.length by omega)
  have HSO := Lib.hid (show oc.length ≤ 2 ^ 24 by omega)
  have HOC := Lib.hid ho.one
  have HCC := Lib.hid hrd.one
  have co0 := bo.cell 0 _ hoi
  have U0 := Lib.hid (Upd.of_below (ρ := ρ) (B := B) b0 hsame)
  have HB := Lib.hid hB
  have HW0 := Lib.hid (show W0 = ((w.alloc (.cells cs.toArray 30)).alloc (.cells oc.toArray 47)).alloc (.cells #[.slice none 0 0, .slice none 0 0, .slice none 0 0, .slice none 0 0, .slice none 0 0, .slice none 0 0, .slice none 0 0, .int .i64 0, .int .i64 0, .int .i64 0, .bool false, .int .i64 0, .int .i64 0, .int .i64 0, .int .i64 0, .int .u64 0, .slice none 0 0, .int .i64 0, .int .i64 0] 30) from hW0)
  have S0 := Lib.hid s0
  have BS := Lib.hid bs
  have BO := Lib.hid bo
  have BZ := Lib.hid bz
  have HS0 := Lib.hid hs0
  have HNONE := Lib.hid hnone
  have HV1 := Lib.hid hv1
  have HO := Lib.hid ho
  have HOL := Lib.hid hol
  have HL2 := Lib.hid hl
  obtain ⟨y, hy⟩ : ∃ y : Cl 19, y.1 = oc := ⟨⟨oc, hol, ho.one⟩, rfl⟩
  have HY := Lib.hid hy
  rw [hW0] at co0
  have HCO := Lib.hid (show W0.cell? ⟨w.heap.size + 1, 0, none⟩ = some (.int .i64 (dint od 0)) by rw [hW0]; exact co0)
  clear hy h hl hol hs1 hs2 hs0 q1 q2 b0 bs bo bz hW0 s0 hsame hv1 hrd hB hnone ho
  obtain ⟨i, hi⟩ : ∃ i, i = fidx (fun o => dint o 0 == dint od 0) (dxs ds 1) := ⟨_, rfl⟩
  have hilt := fidx_lt (fun o => dint o 0 == dint od 0) (dxs ds 1)
  rw [← hi] at hilt
  by_cases hneg : i < 0
  · obtain ⟨k, hk⟩ : ∃ k, k = insAt od (dxs ds 1) := ⟨_, rfl⟩
    obtain ⟨j, hj⟩ : ∃ j, j = fidx (fun o => decide (dint od 0 < dint o 0)) (dxs ds 1) := ⟨_, rfl⟩
    have hkj : k = if j < 0 then (dxs ds 1).length else j.toNat := by rw [hk, hj]; rfl
    have hkl : k ≤ (dxs ds 1).length := by rw [hk]; exact insAt_le _ _
    have hput : putT ds od = ds.set 1 (.sl ((dxs ds 1).take k ++ od :: (dxs ds 1).drop k)) := by unfold putT putO; rw [← hi, if_pos hneg, ← hk]
    rw [← hi] at HP
    rw [hput]
    have hm1 : i = -1 := by
      rcases fidx_find (fun o => dint o 0 == dint od 0) (dxs ds 1) with ⟨e, _⟩ | ⟨q, e, _⟩
      · rw [hi, e]
      · rw [← hi] at e; omega
    subst hm1
    obtain ⟨es, ro, he⟩ := ow.row
    have hel := he.len
    have hby := ow.bytes
    have HOW := Lib.hid ow
    have HRO := Lib.hid ro
    have HES := Lib.hid he
    obtain ⟨ao, m, c, rfl⟩ := own_sl ro
    obtain ⟨hm, _⟩ := own_cap ro
    subst hm
    have HJ := Lib.hid hj
    have hes63 : es.length * 128 ≤ L := by rw [hel]; exact hby
    have HEL := Lib.hid hel
    have HKJ := Lib.hid hkj
    have HKL := Lib.hid hkl
    clear hi hneg hk hput hilt ro he ow hel hkj hkl hby hj
    go_enter Try.func39, Try.ntmps39
    go_wp2_with ((with_reducible refine wpList_load_mid rfl 30 (.tmp 2) rfl w.heap.size 0 ?_ cs _ RG.out Try.underlying30 rfl HI.out ?_); rfl)
    rw [← HW0.out]
    refine HP.out.mono ?_
    rintro e w1 ⟨rfl, b1⟩
    have B1 := Lib.hid b1
    have c1 := (BS.out.old b1).cell 1 _ HV1.out
    have ci := (BO.out.old b1).cell 0 _ (HO.out.int 0 rfl).1
    have HX := Lib.hid (idx_put (fun b => ρ0 b ≠ .none) L (.slice ao es.length c) (dxs ds 1) (dint od 0) (w.heap.size + 1) w1 ((HOW.out.rd (by decide) (fun b => ρ0 b ≠ .none) (fun b hb => by rcases hb with e | e <;> rw [e] <;> simp)).old b1) (by omega) ci)
    rw [← HJ.out] at HX
    clear b1 ci
    go_wp2_with fail
    refine HX.out.mono ?_
    rintro e w2 ⟨rfl, b2⟩
    have bb : Below W0.heap.size W0 w2 := B1.out.trans (b2.mono B1.out.size)
    have BB := Lib.hid bb
    have bs2 := BS.out.old bb
    have c1' := bs2.cell 1 _ HV1.out
    have f1' := bs2.frozen 1
    have RO2 := Lib.hid (BO.out.old bb).range
    obtain ⟨ρ2, s2, hnone2, hsame2⟩ := S0.out.new bb
    have S2 := Lib.hid s2
    have U2 := Lib.hid (U0.out.trans (Upd.of_below (B := B) bb hsame2) (by have := HS0.out; omega))
    have HN2 := Lib.hid (show ρ2 w.heap.size = .none ∧ ρ2 (w.heap.size + 2) = .none from ⟨(hsame2 _ (by have := HS0.out; omega)).trans (HNONE.out _ (Nat.le_refl _)), (hsame2 _ (by have := HS0.out; omega)).trans (HNONE.out _ (by omega))⟩)
    obtain ⟨W3, hW3⟩ : ∃ W, W = w2.alloc (.cells oc.toArray 47) := ⟨_, rfl⟩
    have b3 : Below w2.heap.size w2 W3 := by rw [hW3]; exact (Below.refl _ _).alloc (Nat.le_refl _) _
    have bn : Bx W3 w2.heap.size 47 y.1 := by rw [hW3, HY.out]; exact Bx.new _ _ _
    obtain ⟨ρ3, s3, hnone3, hsame3⟩ := s2.new b3
    have S3 := Lib.hid s3
    have hss : w.heap.size + 3 ≤ w2.heap.size := by have := bb.size; have := HS0.out; omega
    have U3 := Lib.hid (U2.out.trans (Upd.of_below (B := B) b3 hsame3) (by omega))
    have HN3 := Lib.hid (show ρ3 w.heap.size = .none ∧ ρ3 (w.heap.size + 2) = .none from ⟨(hsame3 _ (by omega)).trans HN2.out.1, (hsame3 _ (by omega)).trans HN2.out.2⟩)
    have r3 : W3.ownsRow B 47 19 (.slice ao es.length c) es.length (es.flatMap Subtype.val) := own_block (own_block HRO.out bb) b3
    have hne : (Value.slice ao es.length c).ownBlock ≠ some w2.heap.size := fun e => by
      have := (own_block HRO.out bb).lt _ e
      omega
    have HIN := Lib.hid (insertObject B (.slice ao es.length c) es k w2.heap.size y W3 r3 (by rw [HEL.out]; exact HKL.out) (by omega) bn hne (by have := HB.out; have := b3.size; omega))
    have BS3 := Lib.hid ((BS.out.old bb).old b3)
    have BZ3 := Lib.hid ((BZ.out.old bb).old b3)
    have HW3 := Lib.hid hW3
    have B3 := Lib.hid b3
    have HSS := Lib.hid hss
    clear b2 bb bs2 s2 hnone2 hsame2 hW3 b3 bn s3 hnone3 hsame3 r3 hne hss
    have hk0 : (0 : Int) ≤ (k : Int) := by omega
    by_cases hjn : j < 0
    · have hk2 : k = (dxs ds 1).length := by rw [HKJ.out, if_pos hjn]
      rw [← HEL.out] at hk2
      subst hk2
      clear HKJ
      go_wp2_with (first | ((with_reducible refine wpList_load_mid rfl 47 (.tmp 3) rfl (w.heap.size + 1) 0 ?_ oc _ RO2.out Try.underlying47 rfl HIO.out ?_); rfl) | (refine wpList_build1 rfl 23 47 (.tmp 31) rfl oc ?_ Try.underlying23 HIO.out HZS.out HPO.out HSO.out ?_; rfl))
      rw [← HW3.out]
      refine HIN.out.mono ?_
      rintro e w4 ⟨ao4, m4, c4, rfl, r4, gr4, hsm⟩
      obtain ⟨hm4, _⟩ := own_cap r4
      subst hm4
      obtain ⟨ρ4, s4, u4⟩ := S3.out.setObjs _ (.slice ao4 (es.length + 1) c4) HV1.out (Nat.le_add_right L 128) gr4 _ (es.take es.length ++ y :: es.drop es.length) ((dxs ds 1).take es.length ++ od :: (dxs ds 1).drop es.length) r4 (by
          rw [List.length_append, List.length_take, List.length_cons, List.length_drop]
          have := HEL.out
          have := HKL.out
          omega) (es_ins (es_any flatObject HES.out) es.length y od (by rw [HY.out]; exact HO.out.any flatObject)) (by
          rw [List.length_append, List.length_take, List.length_cons, List.length_drop]
          have := HEL.out
          have := HKL.out
          omega) (fun g hg => by
          rcases hsm with e | e
          · exact .inl (by rw [← hg, e])
          · rw [e] at hg
            cases hg
            exact .inr (Nat.le_refl _))
      have hb0 : (Value.slice ao es.length c).ownBlock ≠ some w.heap.size := fun e => by
        have := HOW.out.role _ e
        rw [HNONE.out _ (Nat.le_refl _)] at this
        cases this
      have hb2 : (Value.slice ao es.length c).ownBlock ≠ some (w.heap.size + 2) := fun e => by
        have := HOW.out.role _ e
        rw [HNONE.out _ (by omega)] at this
        cases this
      have hws : w.heap.size + 3 ≤ W3.heap.size := Nat.le_trans HSS.out B3.out.size
      have bs4 := BS3.out.same (gr4.block _ (by omega) (fun e => hb0 e.symm))
      have bz4 := BZ3.out.same (gr4.block _ (by omega) (fun e => hb2 e.symm))
      have c4_ := bs4.cell 1 _ HV1.out
      have f4_ := bs4.frozen 1
      have hr4 := s4.rd.one
      obtain ⟨W5, hW5⟩ : ∃ W, W = w4.setCell ⟨w.heap.size, 1, none⟩ (.slice ao4 (es.length + 1) c4) := ⟨_, rfl⟩
      obtain ⟨cs5, hcs5⟩ : ∃ l, l = cs.set 1 (.slice ao4 (es.length + 1) c4) := ⟨_, rfl⟩
      have bs5 : Bx W5 w.heap.size 30 cs5 := by rw [hW5, hcs5]; exact bs4.set 1 _
      have bz5 : Bx W5 (w.heap.size + 2) 30 zsC := by rw [hW5]; exact bz4.other 1 _ (by omega)
      have hl5 : cs5.length = 19 := by rw [hcs5, List.length_set]; exact HL2.out
      rw [← hcs5] at s4 hr4
      have s5 : OwnS ρ4 (L + 128) B W5 cs5 (ds.set 1 (.sl ((dxs ds 1).take es.length ++ od :: (dxs ds 1).drop es.length))) := by rw [hW5]; exact s4.aside _ 1 _ ((u4.role _ (by omega)).trans HN3.out.1)
      have u5 : Upd ρ3 ρ4 B w.heap.size W3 W5 := by rw [hW5]; exact (u4.mono (by omega)).store _ _ _ (Nat.le_refl _)
      have RG5 := Lib.hid bs5.range
      have HI5 := Lib.hid (show (Try.prog.info? 30).map (·.size) = some cs5.length by rw [infoState, hl5])
      have HT5 := Lib.hid (show W5.there (w.heap.size + 2) 0 cs5.length by rw [hl5]; exact bz5.there)
      have HC5 := Lib.hid hr4
      have BE := Lib.hid (bz5.setAll cs5 hl5)
      have SE := Lib.hid (s5.asides (w.heap.size + 2) 0 cs5 ((u4.role _ (by omega)).trans HN3.out.2))
      have UE := Lib.hid ((U3.out.trans u5 (Nat.le_refl _)).stores (w.heap.size + 2) 0 cs5 (by omega))
      have HW5 := Lib.hid hW5
      have RG5' := RG5
      rw [hW5] at RG5
      have HT5' := HT5
      rw [hW5] at HT5
      clear r4 gr4 hsm s4 u4 hb0 hb2 hws bs4 bz4 hr4 hW5 hcs5 bs5 bz5 hl5 s5 u5 RG5' HT5'
      go_wp2_with (first | ((with_reducible refine wpList_load_mid rfl 30 (.tmp 2) rfl w.heap.size 0 ?_ cs5 _ RG5.out Try.underlying30 rfl HI5.out ?_); rfl) | ((with_reducible refine wpList_store_cs rfl 30 (.tmp 4) (.tmp 35) rfl (w.heap.size + 2) 0 cs5 ?_ ?_ HT5.out HI5.out HC5.out ?_); rfl; rfl))
      rw [← HW5.out]
      refine bodyPost_ret (results_cs Try.results39 (w.heap.size + 2) ?_ cs5 _ (Bx.range BE.out) Try.underlying30 rfl HI5.out) rfl ?_
      · rfl
      · exact ⟨cs5, rfl, ρ4, SE.out, UE.out⟩
    · have hk2 : k = j.toNat := by rw [HKJ.out, if_neg hjn]
      obtain ⟨j', rfl⟩ : ∃ j' : Nat, j = j' := ⟨j.toNat, by omega⟩
      have hk3 : k = j' := by omega
      subst hk3
      clear hk2
      clear HKJ
      go_wp2_with (first | ((with_reducible refine wpList_load_mid rfl 47 (.tmp 3) rfl (w.heap.size + 1) 0 ?_ oc _ RO2.out Try.underlying47 rfl HIO.out ?_); rfl) | (refine wpList_build1 rfl 23 47 (.tmp 31) rfl oc ?_ Try.underlying23 HIO.out HZS.out HPO.out HSO.out ?_; rfl))
      rw [← HW3.out]
      refine HIN.out.mono ?_
      rintro e w4 ⟨ao4, m4, c4, rfl, r4, gr4, hsm⟩
      obtain ⟨hm4, _⟩ := own_cap r4
      subst hm4
      obtain ⟨ρ4, s4, u4⟩ := S3.out.setObjs _ (.slice ao4 (es.length + 1) c4) HV1.out (Nat.le_add_right L 128) gr4 _ (es.take k ++ y :: es.drop k) ((dxs ds 1).take k ++ od :: (dxs ds 1).drop k) r4 (by
          rw [List.length_append, List.length_take, List.length_cons, List.length_drop]
          have := HEL.out
          have := HKL.out
          omega) (es_ins (es_any flatObject HES.out) k y od (by rw [HY.out]; exact HO.out.any flatObject)) (by
          rw [List.length_append, List.length_take, List.length_cons, List.length_drop]
          have := HEL.out
          have := HKL.out
          omega) (fun g hg => by
          rcases hsm with e | e
          · exact .inl (by rw [← hg, e])
          · rw [e] at hg
            cases hg
            exact .inr (Nat.le_refl _))
      have hb0 : (Value.slice ao es.length c).ownBlock ≠ some w.heap.size := fun e => by
        have := HOW.out.role _ e
        rw [HNONE.out _ (Nat.le_refl _)] at this
        cases this
      have hb2 : (Value.slice ao es.length c).ownBlock ≠ some (w.heap.size + 2) := fun e => by
        have := HOW.out.role _ e
        rw [HNONE.out _ (by omega)] at this
        cases this
      have hws : w.heap.size + 3 ≤ W3.heap.size := Nat.le_trans HSS.out B3.out.size
      have bs4 := BS3.out.same (gr4.block _ (by omega) (fun e => hb0 e.symm))
      have bz4 := BZ3.out.same (gr4.block _ (by omega) (fun e => hb2 e.symm))
      have c4_ := bs4.cell 1 _ HV1.out
      have f4_ := bs4.frozen 1
      have hr4 := s4.rd.one
      obtain ⟨W5, hW5⟩ : ∃ W, W = w4.setCell ⟨w.heap.size, 1, none⟩ (.slice ao4 (es.length + 1) c4) := ⟨_, rfl⟩
      obtain ⟨cs5, hcs5⟩ : ∃ l, l = cs.set 1 (.slice ao4 (es.length + 1) c4) := ⟨_, rfl⟩
      have bs5 : Bx W5 w.heap.size 30 cs5 := by rw [hW5, hcs5]; exact bs4.set 1 _
      have bz5 : Bx W5 (w.heap.size + 2) 30 zsC := by rw [hW5]; exact bz4.other 1 _ (by omega)
      have hl5 : cs5.length = 19 := by rw [hcs5, List.length_set]; exact HL2.out
      rw [← hcs5] at s4 hr4
      have s5 : OwnS ρ4 (L + 128) B W5 cs5 (ds.set 1 (.sl ((dxs ds 1).take k ++ od :: (dxs ds 1).drop k))) := by rw [hW5]; exact s4.aside _ 1 _ ((u4.role _ (by omega)).trans HN3.out.1)
      have u5 : Upd ρ3 ρ4 B w.heap.size W3 W5 := by rw [hW5]; exact (u4.mono (by omega)).store _ _ _ (Nat.le_refl _)
      have RG5 := Lib.hid bs5.range
      have HI5 := Lib.hid (show (Try.prog.info? 30).map (·.size) = some cs5.length by rw [infoState, hl5])
      have HT5 := Lib.hid (show W5.there (w.heap.size + 2) 0 cs5.length by rw [hl5]; exact bz5.there)
      have HC5 := Lib.hid hr4
      have BE := Lib.hid (bz5.setAll cs5 hl5)
      have SE := Lib.hid (s5.asides (w.heap.size + 2) 0 cs5 ((u4.role _ (by omega)).trans HN3.out.2))
      have UE := Lib.hid ((U3.out.trans u5 (Nat.le_refl _)).stores (w.heap.size + 2) 0 cs5 (by omega))
      have HW5 := Lib.hid hW5
      have RG5' := RG5
      rw [hW5] at RG5
      have HT5' := HT5
      rw [hW5] at HT5
      clear r4 gr4 hsm s4 u4 hb0 hb2 hws bs4 bz4 hr4 hW5 hcs5 bs5 bz5 hl5 s5 u5 RG5' HT5'
      go_wp2_with (first | ((with_reducible refine wpList_load_mid rfl 30 (.tmp 2) rfl w.heap.size 0 ?_ cs5 _ RG5.out Try.underlying30 rfl HI5.out ?_); rfl) | ((with_reducible refine wpList_store_cs rfl 30 (.tmp 4) (.tmp 35) rfl (w.heap.size + 2) 0 cs5 ?_ ?_ HT5.out HI5.out HC5.out ?_); rfl; rfl))
      rw [← HW5.out]
      refine bodyPost_ret (results_cs Try.results39 (w.heap.size + 2) ?_ cs5 _ (Bx.range BE.out) Try.underlying30 rfl HI5.out) rfl ?_
      · rfl
      · exact ⟨cs5, rfl, ρ4, SE.out, UE.out⟩
  · obtain ⟨q, rfl⟩ : ∃ q : Nat, i = q := ⟨i.toNat, by omega⟩
    have hql : q < (dxs ds 1).length := by omega
    have hput : putT ds od = ds.set 1 (.sl ((dxs ds 1).set q od)) := by unfold putT putO; rw [← hi, if_neg hneg]; rfl
    rw [← hi] at HP
    rw [hput]
    obtain ⟨es, ro, he⟩ := ow.row
    have hel := he.len
    have hby := ow.bytes
    have HOW := Lib.hid ow
    have HES := Lib.hid he
    have HBY := Lib.hid hby
    have HEL := Lib.hid hel
    have hqe : q < es.length := by omega
    rcases ro.2 with ⟨_, h0⟩ | ⟨g, cap, cur, rfl, hBg, hg, hcap, hmax, hsz, htake⟩
    · omega
    have hblk := own_blkC ro rfl
    have hhd := hdC_of ro
    have HRO := Lib.hid ro
    have HBLK := Lib.hid hblk
    have HHD := Lib.hid hhd
    have HCAP := Lib.hid hcap
    have hρg : ρ0 g = .row 1 := HOW.out.role g rfl
    have hg1 : g ≠ w.heap.size := fun e => by rw [e, HNONE.out _ (Nat.le_refl _)] at hρg; cases hρg
    have hg2 : g ≠ w.heap.size + 2 := fun e => by rw [e, HNONE.out _ (by omega)] at hρg; cases hρg
    clear hi hneg hput hilt hel hby he ow htake hsz hmax hg hcap hblk hhd hρg ro hql
    have hq0 : (0 : Int) ≤ (q : Int) := by omega
    go_enter Try.func39, Try.ntmps39
    go_wp2_with ((with_reducible refine wpList_load_mid rfl 30 (.tmp 2) rfl w.heap.size 0 ?_ cs _ RG.out Try.underlying30 rfl HI.out ?_); rfl)
    rw [← HW0.out]
    refine HP.out.mono ?_
    rintro e w1 ⟨rfl, b1⟩
    have B1 := Lib.hid b1
    have c1 := (BS.out.old b1).cell 1 _ HV1.out
    have ROB := Lib.hid (BO.out.old b1).range
    have blk1 := HBLK.out.same (b1.block g HBLK.out.lt)
    have hth : w1.there g (q * 19) oc.length := by
      rw [← HY.out]
      exact blk_there blk1 q hqe y
    have HTH := Lib.hid hth
    obtain ⟨W2, hW2⟩ : ∃ W, W = w1.setCells g (q * 19) oc := ⟨_, rfl⟩
    have blk2 : BlkC 19 47 W2 g (es.set q y) := by
      have := BlkK.setCells Cl.len blk1 q hqe y
      rw [hW2, ← HY.out]
      exact this
    have hd2 : HdC B 47 19 W2 g cap := by rw [hW2]; exact (HHD.out.same (b1.block g HBLK.out.lt)).sets _ _ _
    have r2 := own_of blk2 hd2 (by rw [List.length_set]; exact HCAP.out)
    rw [List.length_set] at r2
    have gr2 : w1.grownBy W2 (some g) := by rw [hW2]; exact grown_sets _ _ _ (World.grownBy.refl _ _)
    have s1 := S0.out.old b1
    obtain ⟨ρ2, s2, u2⟩ := s1.setObjs _ (.slice (some ⟨g, 0, none⟩) es.length cap) HV1.out (Nat.le_add_right L 128) gr2 _ (es.set q y) ((dxs ds 1).set q od) r2 (List.length_set ..) ((es_any flatObject HES.out).set q y od (by rw [HY.out]; exact HO.out.any flatObject)) (by rw [List.length_set]; have := HBY.out; omega) (fun g' hg' => .inl hg')
    rw [set_same cs 1 _ HV1.out] at s2
    have bs2 : Bx W2 w.heap.size 30 cs := (BS.out.old b1).same (gr2.block _ (by have := b1.size; have := HS0.out; omega) (fun e => hg1 (Option.some.inj e).symm))
    have bz2 : Bx W2 (w.heap.size + 2) 30 zsC := (BZ.out.old b1).same (gr2.block _ (by have := b1.size; have := HS0.out; omega) (fun e => hg2 (Option.some.inj e).symm))
    have hl2 := HL2.out
    have hws : w.heap.size + 3 ≤ w1.heap.size := by have := b1.size; have := HS0.out; omega
    have htz : W2.there (w.heap.size + 2) 0 cs.length := by rw [hl2]; exact bz2.there
    rw [hW2] at htz
    have HTZ := Lib.hid htz
    have RG2 := Lib.hid bs2.range
    have BE := Lib.hid (bz2.setAll cs hl2)
    have SE := Lib.hid (s2.asides (w.heap.size + 2) 0 cs ((u2.role _ (by omega)).trans (HNONE.out _ (by omega))))
    have UE := Lib.hid (((U0.out.trans (Upd.of_below (B := B) b1 (fun _ _ => rfl)) (by have := HS0.out; omega)).trans u2 (by omega)).stores (w.heap.size + 2) 0 cs (by omega))
    have HW2 := Lib.hid hW2
    rw [hW2] at RG2
    clear htz b1 blk1 hth hW2 blk2 hd2 r2 gr2 s1 s2 u2 bs2 bz2 hl2 hws hg1 hg2
    go_wp2_with (first | ((with_reducible refine wpList_load_mid rfl 47 (.tmp 3) rfl (w.heap.size + 1) 0 ?_ oc _ ROB.out Try.underlying47 rfl HIO.out ?_); rfl) | ((with_reducible refine wpList_store_cs rfl 47 (.tmp 17) (.tmp 16) rfl g (q * 19) oc ?_ ?_ HTH.out HIO.out HOC.out ?_); rfl; rfl) | ((with_reducible refine wpList_load_mid rfl 30 (.tmp 2) rfl w.heap.size 0 ?_ cs _ RG2.out Try.underlying30 rfl HI.out ?_); rfl) | ((with_reducible refine wpList_store_cs rfl 30 (.tmp 4) (.tmp 18) rfl (w.heap.size + 2) 0 cs ?_ ?_ HTZ.out HI.out HCC.out ?_); rfl; rfl))
    rw [← HW2.out]
    refine bodyPost_ret (results_cs Try.results39 (w.heap.size + 2) ?_ cs _ (Bx.range BE.out) Try.underlying30 rfl HI.out) rfl ?_
    · rfl
    · exact ⟨cs, rfl, ρ2, SE.out, UE.out⟩
/-- Three boxes: a state, an object, the result's variable. -/
structure Bx3 (w W0 : World) (cs oc : List Value) : Prop where
  size : W0.heap.size = w.heap.size + 3
  bel : Below w.heap.size w W0
  st : Bx W0 w.heap.size 30 cs
  ob : Bx W0 (w.heap.size + 1) 47 oc
  rs : Bx W0 (w.heap.size + 2) 30 zsC
theorem bx3 (w : World) (cs oc : List Value) : Bx3 w (((w.alloc (.cells cs.toArray 30)).alloc (.cells oc.toArray 47)).alloc (.cells zsC.toArray 30)) cs oc := by
  have hs1 : (w.alloc (.cells cs.toArray 30)).heap.size = w.heap.size + 1 := by simp
  have hs2 : ((w.alloc (.cells cs.toArray 30)).alloc (.cells oc.toArray 47)).heap.size = w.heap.size + 2 := by simp
  have q1 := (Below.refl w.heap.size w).alloc (Nat.le_refl _) (.cells cs.toArray 30)
  have q2 := q1.alloc (by rw [hs1]; omega) (.cells oc.toArray 47)
  refine ⟨by simp, q2.alloc (by rw [hs2]; omega) _, ((Bx.new w cs 30).old ((Below.refl _ _).alloc (Nat.le_refl _) _)).old ((Below.refl _ _).alloc (Nat.le_refl _) _), ?_, ?_⟩
  · rw [← hs1]
    exact (Bx.new _ oc 47).old ((Below.refl _ _).alloc (Nat.le_refl _) _)
  · rw [← hs2]
    exact Bx.new _ _ _
theorem Bx.drew {w : World} {b : Nat} {t : TypeId} {cs : List Value} (h : Bx w b t cs) : Bx w.drew b t cs := h
set_option maxRecDepth 100000 in
set_option maxHeartbeats 8000000 in
theorem Put_prog (F : Nat → Prop) (L : Nat) (cs : List Value) (ds : List D) (oc : List Value) (od : List D) (w : World) (h : RdL F L w kState cs ds) (ho : RdL (fun _ => False) 0 w kObject oc od) (hL : L + 128 ≤ 140737488355328) :
    Calls Try.prog 22 #[.agg cs.toArray, .agg oc.toArray] w fun e w' => ∃ cs' F', e = .returned (.agg cs'.toArray) ∧ RdL F' (L + 128) w' kState cs' (putT ds od) ∧ Below w.heap.size w w' := by
  have hl := h.len.1
  rw [kState_len] at hl
  have hol := ho.len.1
  rw [kObject_len] at hol
  obtain ⟨W0, hW0⟩ : ∃ W, W = ((w.alloc (.cells cs.toArray 30)).alloc (.cells oc.toArray 47)).alloc (.cells #[.slice none 0 0, .slice none 0 0, .slice none 0 0, .slice none 0 0, .slice none 0 0, .slice none 0 0, .slice none 0 0, .int .i64 0, .int .i64 0, .int .i64 0, .bool false, .int .i64 0, .int .i64 0, .int .i64 0, .int .i64 0, .int .u64 0, .slice none 0 0, .int .i64 0, .int .i64 0] 30) := ⟨_, rfl⟩
  have X : Bx3 w W0 cs oc := by rw [hW0]; exact bx3 w cs oc
  have hr : RdL (fun b => F b ∧ b < w.heap.size) L W0.drew kState cs ds := ((h.imp (fun b hF hlt => ⟨hF, hlt⟩)).old X.bel).old (Below.refl _ _).drew
  have HC := Lib.hid (copy_prog _ L cs ds W0.drew hr (by omega))
  have RG := Lib.hid (show W0.drew.rangeAt w.heap.size 0 cs from X.st.drew.range)
  have HI := Lib.hid (show (Try.prog.info? 30).map (·.size) = some cs.length by rw [infoState, hl])
  have HIO := Lib.hid (show (Try.prog.info? 47).map (·.size) = some oc.length by rw [infoObject, hol])
  have XX := Lib.hid X
  have HO := Lib.hid ho
  have HW0 := Lib.hid hW0
  clear hW0 X hr h hl hol ho
  go_enter Try.func22, Try.ntmps22
  go_wp2_with fail
  rw [← HW0.out]
  refine wp_region_noPanic ?_
  refine wp_region_held_drew (S := fun wS => Bx wS (w.heap.size + 1) 47 oc) (by kernel_rfl) (XX.out.ob) (fun hHeld => ?_)
  refine wpAnyH_take (i := 2) (oi := ?oiU2x) (v := .agg oc.toArray) ?hiU2x (by kernel_rfl) (by kernel_rfl) (by kernel_rfl) ?hqU2x ?hyU2x (by assumption) ?restU2x
  case hiU2x => (simp only [List.getElem?_toArray, List.getElem?_cons_succ, List.getElem?_cons_zero] <;> rfl)
  case hqU2x => exact fun _ _ _ h => h
  case hyU2x => exact (yieldsIf_load_mid (by rfl) 47 (.tmp 3) rfl (w.heap.size + 1) 0 (by simp [Act.eval]) oc _ (fun _ h => Bx.range h) Try.underlying47 rfl HIO.out)
  try simp only [Act.put, List.setIfInBounds_toArray, List.set_cons_zero, List.set_cons_succ]
  refine wpAnyH_ready (rs := [0]) (by kernel_rfl) (by simp) ?_
  refine AllReadyH.cons (o := ?oiU0x) ?hiU0x (fun K hK => ?hsU0x) AllReadyH.nil
  case hiU0x => (simp only [List.getElem?_toArray, List.getElem?_cons_zero] <;> rfl)
  refine step_load_mid rfl 30 (.tmp 2) rfl w.heap.size 0 (by simp [Act.eval]) cs _ RG.out Try.underlying30 rfl HI.out ?_
  refine hK.out _ _ XX.out.ob.drew (fun hHeld0 => ?_)
  clear hHeld0
  clear hK K
  try simp only [Act.put, List.setIfInBounds_toArray, List.set_cons_zero, List.set_cons_succ]
  refine wpAnyH_ready (rs := [1]) (by kernel_rfl) (by simp) ?_
  refine AllReadyH.cons (o := ?oiU1x) ?hiU1x (fun K hK => ?hsU1x) AllReadyH.nil
  case hiU1x => (simp only [List.getElem?_toArray, List.getElem?_cons_succ, List.getElem?_cons_zero] <;> rfl)
  go_simp
  refine HC.out.mono ?_
  rintro e w1 ⟨cs1, rfl, ⟨ρ1, s1, hn1⟩, b1⟩
  have S1 := Lib.hid s1
  have HN1 := Lib.hid hn1
  have B1 := Lib.hid b1
  have OB1 := Lib.hid (XX.out.ob.drew.old b1)
  have RS1 := Lib.hid (XX.out.rs.drew.old b1)
  clear s1 hn1 b1
  refine hK.out _ _ OB1.out (fun hHeld1 => ?_)
  clear hK K
  try simp only [Act.put, List.setIfInBounds_toArray, List.set_cons_zero, List.set_cons_succ]
  have HP := Lib.hid (put_prog ρ1 L W0.drew.heap.size cs1 ds oc od w1 S1.out (HO.out.any flatObject) B1.out.size hL)
  have hs0 : W0.drew.heap.size = w.heap.size + 3 := XX.out.size
  have HS0 := Lib.hid hs0
  clear hs0
  refine wpAnyH_ready (rs := [3]) (by kernel_rfl) (by simp) ?_
  refine AllReadyH.cons (o := ?oiU3x) ?hiU3x (fun K hK => ?hsU3x) AllReadyH.nil
  case hiU3x => (simp only [List.getElem?_toArray, List.getElem?_cons_succ, List.getElem?_cons_zero] <;> rfl)
  go_simp
  refine HP.out.mono ?_
  rintro e w2 ⟨cs2, rfl, ρ2, s2, u2⟩
  have hb1 := B1.out.size
  have hs0 := HS0.out
  have none1 : ∀ b, b < w.heap.size + 3 → w.heap.size ≤ b → ρ1 b = .none := fun b hb hge => HN1.out b (by omega) (fun hF => by have := hF.2; omega)
  have OB2 := Lib.hid (OB1.out.same (u2.keep _ (by omega) (.inr (.inl (none1 _ (by omega) (by omega))))))
  have RS2 := Lib.hid (RS1.out.same (u2.keep _ (by omega) (.inr (.inl (none1 _ (by omega) (by omega))))))
  have N2 := Lib.hid (show ρ2 (w.heap.size + 2) = .none from (u2.role _ (by omega)).trans (none1 _ (by omega) (by omega)))
  have BL2 := Lib.hid (u2.below (A := w.heap.size) (XX.out.bel.trans ((Below.refl _ _).drew.trans (B1.out.mono (by omega)))) (by omega) (by omega))
  have hl2 := s2.len.1
  have HI2 := Lib.hid (show (Try.prog.info? 30).map (·.size) = some cs2.length by rw [infoState, hl2])
  have TH2 := Lib.hid (show w2.there (w.heap.size + 2) 0 cs2.length by rw [hl2]; exact RS2.out.there)
  have BE := Lib.hid (RS2.out.setAll cs2 hl2)
  have HC2 := Lib.hid s2.rd.one
  have S2 := Lib.hid s2
  clear s2 u2 hb1 hs0 none1 hl2
  refine hK.out _ _ OB2.out (fun hHeld3 => ?_)
  clear hK K
  try simp only [Act.put, List.setIfInBounds_toArray, List.set_cons_zero, List.set_cons_succ]
  refine wpAnyH_ready (rs := [4]) (by kernel_rfl) (by simp) ?_
  refine AllReadyH.cons (o := ?oiU4x) ?hiU4x (fun K hK => ?hsU4x) AllReadyH.nil
  case hiU4x => (simp only [List.getElem?_toArray, List.getElem?_cons_succ, List.getElem?_cons_zero] <;> rfl)
  refine step_store_mid rfl 30 (.tmp 4) (.tmp 8) rfl (w.heap.size + 2) 0 cs2 (by simp [Act.eval]) (by simp [Act.eval]) TH2.out HI2.out HC2.out ?_
  refine hK.out _ _ (OB2.out.same (heap_sets _ _ _ _ _ (by omega))) (fun hHeld4 => ?_)
  clear hK K
  try simp only [Act.put]
  refine wpAnyH_done (by kernel_rfl) ?_ _
  refine NoPanic.normal ?_
  go_wp2_with fail
  refine bodyPost_ret (results_cs Try.results22 (w.heap.size + 2) ?_ cs2 _ (Bx.range BE.out) Try.underlying30 rfl HI2.out) rfl ?_
  · rfl
  · exact ⟨cs2, _, rfl, (S2.out.asides _ 0 cs2 N2.out).rd, below_sets _ _ _ BL2.out _ (by omega)⟩
end Go.Proofs.Ytiebjkbofoppaaa
