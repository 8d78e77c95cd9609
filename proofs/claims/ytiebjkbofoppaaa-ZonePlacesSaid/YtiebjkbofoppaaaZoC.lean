/- Chapter 25: Set, remove of the program. -/
import Derived.Test.YtiebjkbofoppaaaZoB
namespace Go.Proofs.Ytiebjkbofoppaaa
open Go Go.RowKit Go.Sort Cg
/-- Two boxes: a state, the result's variable. -/
structure Bx2 (w W0 : World) (cs : List Value) : Prop where
  size : W0.heap.size = w.heap.size + 2
  bel : Below w.heap.size w W0
  st : Bx W0 w.heap.size 30 cs
  rs : Bx W0 (w.heap.size + 1) 30 zsC
theorem bx2 (w : World) (cs : List Value) : Bx2 w ((w.alloc (.cells cs.toArray 30)).alloc (.cells zsC.toArray 30)) cs := by
  have hs1 : (w.alloc (.cells cs.toArray 30)).heap.size = w.heap.size + 1 := by simp
  have q1 := (Below.refl w.heap.size w).alloc (Nat.le_refl _) (.cells cs.toArray 30)
  refine ⟨by simp, q1.alloc (by rw [hs1]; omega) _, (Bx.new w cs 30).old ((Below.refl _ _).alloc (Nat.le_refl _) _), ?_⟩
  rw [← hs1]
  exact Bx.new _ _ _
set_option maxRecDepth 100000 in
set_option maxHeartbeats 8000000 in
theorem set_prog (F : Nat → Prop) (L : Nat) (cs : List Value) (ds : List D) (z p : Int) (v : Value) (l : List (List D)) (w : World) (h : RdL F L w kState cs ds) (hv : RdC F L w kInts v (.sl l)) (hL : L ≤ 140737488355328) :
    Calls Try.prog 29 #[.agg cs.toArray, .int .i64 z, .int .i64 p, v] w fun e w' => ∃ cs' F', e = .returned (.agg cs'.toArray) ∧ RdL F' L w' kState cs' (setT ds z p l) ∧ Below w.heap.size w w' := by
  have hl := h.len.1
  rw [kState_len] at hl
  obtain ⟨W0, hW0⟩ : ∃ W, W = (w.alloc (.cells cs.toArray 30)).alloc (.cells #[.slice none 0 0, .slice none 0 0, .slice none 0 0, .slice none 0 0, .slice none 0 0, .slice none 0 0, .slice none 0 0, .int .i64 0, .int .i64 0, .int .i64 0, .bool false, .int .i64 0, .int .i64 0, .int .i64 0, .int .i64 0, .int .u64 0, .slice none 0 0, .int .i64 0, .int .i64 0] 30) := ⟨_, rfl⟩
  have X : Bx2 w W0 cs := by rw [hW0]; exact bx2 w cs
  have hr : RdL (fun b => F b ∧ b < w.heap.size) L W0 kState cs ds := (h.imp (fun b hF hlt => ⟨hF, hlt⟩)).old X.bel
  have HC := Lib.hid (copy_prog _ L cs ds W0 hr hL)
  have RG := Lib.hid (show ((w.alloc (.cells cs.toArray 30)).alloc (.cells #[.slice none 0 0, .slice none 0 0, .slice none 0 0, .slice none 0 0, .slice none 0 0, .slice none 0 0, .slice none 0 0, .int .i64 0, .int .i64 0, .int .i64 0, .bool false, .int .i64 0, .int .i64 0, .int .i64 0, .int .i64 0, .int .u64 0, .slice none 0 0, .int .i64 0, .int .i64 0] 30)).rangeAt w.heap.size 0 cs from (by have := X.st.range; rw [hW0] at this; exact this))
  have HI := Lib.hid (show (Try.prog.info? 30).map (·.size) = some cs.length by rw [infoState, hl])
  have XX := Lib.hid X
  have HV := Lib.hid hv
  have HW0 := Lib.hid hW0
  clear hW0 X hr h hl hv
  go_enter Try.func29, Try.ntmps29
  go_wp2_with ((with_reducible refine wpList_load_mid rfl 30 (.tmp 4) rfl w.heap.size 0 ?_ cs _ RG.out Try.underlying30 rfl HI.out ?_); rfl)
  rw [← HW0.out]
  refine HC.out.mono ?_
  rintro e w1 ⟨cs1, rfl, ⟨ρ1, s1, hn1⟩, b1⟩
  have hs0 := XX.out.size
  have st1 := XX.out.st.old b1
  have rs1 := XX.out.rs.old b1
  have hl1 := s1.len.1
  obtain ⟨W2, hW2⟩ : ∃ W, W = w1.setCells w.heap.size 0 cs1 := ⟨_, rfl⟩
  have hlc : cs1.length = cs.length := by have := XX.out.st.there; rw [hl1]; have hq := HI.out; rw [infoState] at hq; exact Option.some.inj hq
  have TH1 := Lib.hid (show w1.there w.heap.size 0 cs1.length by rw [hlc]; exact st1.there)
  have HI1 := Lib.hid (show (Try.prog.info? 30).map (·.size) = some cs1.length by rw [infoState, hl1])
  have HO1 := Lib.hid s1.rd.one
  have st2 : Bx W2 w.heap.size 30 cs1 := by rw [hW2]; exact st1.setAll cs1 hlc
  have rs2 : Bx W2 (w.heap.size + 1) 30 zsC := by rw [hW2]; exact rs1.same (heap_sets _ _ _ _ _ (by omega))
  have n0 : ρ1 w.heap.size = .none := hn1 _ (by omega) (fun hF => by have := hF.2; omega)
  have n1 : ρ1 (w.heap.size + 1) = .none := hn1 _ (by omega) (fun hF => by have := hF.2; omega)
  have s2 : OwnS ρ1 L W0.heap.size W2 cs1 ds := by rw [hW2]; exact s1.asides _ 0 cs1 n0
  have hb1 := b1.size
  have bel2 : Below w.heap.size w W2 := by rw [hW2]; exact below_sets _ _ _ (XX.out.bel.trans (b1.mono (by omega))) _ (Nat.le_refl _)
  have hz2 : W2.heap.size = w1.heap.size := by rw [hW2]; exact sets_size _ _ _ _
  obtain ⟨ao, n, c, hc0, hn, hnl, hx⟩ := s2.at_list w.heap.size st2 n0 z p
  have hplb : (dxs ds 0).length * 152 ≤ L := by obtain ⟨_, _, _, pl⟩ := s2.ply; exact pl.bytes
  have HL := Lib.hid (list_prog w.heap.size ao n c z p W2 (st2.cell 0 _ hc0) hn (by omega))
  have ST2 := Lib.hid st2
  have RS2 := Lib.hid rs2
  have N1 := Lib.hid n1
  have S2 := Lib.hid s2
  have BEL2 := Lib.hid bel2
  have HW2 := Lib.hid hW2
  have HS2 := Lib.hid (show w.heap.size + 2 ≤ W2.heap.size by omega)
  have HB := Lib.hid (show W0.heap.size ≤ W2.heap.size by omega)
  have HLEN := Lib.hid hl1
  clear hs0 st1 rs1 hl1 hlc st2 rs2 n0 n1 s2 hb1 bel2 hz2 hc0 hn hnl hplb s1 hn1 b1 hW2
  rcases hx with ⟨hp, _, hset⟩ | ⟨ab, oo, u, hp, A⟩
  · rw [hp] at HL
    have SET := Lib.hid (hset l)
    have RG2 := Lib.hid ST2.out.range
    have TH2 := Lib.hid (show W2.there (w.heap.size + 1) 0 cs1.length by rw [HLEN.out]; exact RS2.out.there)
    have BE := Lib.hid (RS2.out.setAll cs1 HLEN.out)
    clear hp hset
    go_wp2_with ((with_reducible refine wpList_store_cs rfl 30 (.tmp 4) (.tmp 11) rfl w.heap.size 0 cs1 ?_ ?_ TH1.out HI1.out HO1.out ?_); rfl; rfl)
    rw [← HW2.out]
    refine HL.out.mono ?_
    rintro e w3 ⟨rfl, rfl⟩
    go_wp2_with (first | ((with_reducible refine wpList_load_mid rfl 30 (.tmp 4) rfl w.heap.size 0 ?_ cs1 _ RG2.out Try.underlying30 rfl HI1.out ?_); rfl) | ((with_reducible refine wpList_store_cs rfl 30 (.tmp 8) (.tmp 21) rfl (w.heap.size + 1) 0 cs1 ?_ ?_ TH2.out HI1.out HO1.out ?_); rfl; rfl))
    refine bodyPost_ret (results_cs Try.results29 (w.heap.size + 1) ?_ cs1 _ (Bx.range BE.out) Try.underlying30 rfl HI1.out) rfl ?_
    · rfl
    · exact ⟨cs1, _, rfl, by rw [SET.out]; exact (S2.out.asides _ 0 cs1 N1.out).rd, below_sets _ _ _ BEL2.out _ (by omega)⟩
  · rw [hp] at HL
    have HCL := Lib.hid (clone_own F L v l W2 (HV.out.frame (Nat.le_refl _) BEL2.out.size (fun b _ hlt => BEL2.out.block b hlt) (fun _ h _ => h)) hL)
    have AL := Lib.hid A
    clear hp A
    go_wp2_with ((with_reducible refine wpList_store_cs rfl 30 (.tmp 4) (.tmp 11) rfl w.heap.size 0 cs1 ?_ ?_ TH1.out HI1.out HO1.out ?_); rfl; rfl)
    rw [← HW2.out]
    refine HL.out.mono ?_
    rintro e w3 ⟨rfl, rfl⟩
    go_wp2_with fail
    refine HCL.out.mono ?_
    rintro e w4 ⟨v', rfl, own, b4⟩
    obtain ⟨ao', m', c', rfl⟩ := own.form
    obtain ⟨es, ow, hes⟩ := own
    obtain ⟨ca, fa⟩ := AL.out.there w4 (below_grown b4)
    obtain ⟨ρ', cs', s', x', hro, hno, hu⟩ := AL.out.put w4 L (.slice ao' m' c') l (Nat.le_refl _) (below_grown b4) ⟨es, own_low ow HB.out, es_any (flat_ints 1) hes⟩ (by have := rd_bytes HV.out; exact this) (fun g hg => .inr (ow.lt g hg).1)
    obtain ⟨W5, hW5⟩ : ∃ W, W = w4.setCell ⟨ab, oo, none⟩ (.slice ao' m' c') := ⟨_, rfl⟩
    rw [← hW5] at s' x' hno hu
    have hs2 := HS2.out
    have rs5 : Bx W5 (w.heap.size + 1) 30 zsC := RS2.out.same (hno _ (by omega) (by omega) N1.out)
    have bel5 := (hu w.heap.size (by omega) (Nat.le_refl _)).below BEL2.out (by have := XX.out.size; omega) (Nat.le_refl _)
    have hl5 := s'.len.1
    have RG5 := Lib.hid (show (w4.setCell ⟨ab, oo, none⟩ (.slice ao' m' c')).rangeAt w.heap.size 0 cs' from (by rw [← hW5]; exact x'.range))
    have HI5 := Lib.hid (show (Try.prog.info? 30).map (·.size) = some cs'.length by rw [infoState, hl5])
    have TH5 := Lib.hid (show (w4.setCell ⟨ab, oo, none⟩ (.slice ao' m' c')).there (w.heap.size + 1) 0 cs'.length by rw [← hW5, hl5]; exact rs5.there)
    have HO5 := Lib.hid s'.rd.one
    have BE := Lib.hid (rs5.setAll cs' hl5)
    have S5 := Lib.hid s'
    have N5 := Lib.hid ((hro _ (by omega)).trans N1.out)
    have BEL5 := Lib.hid bel5
    have HW5 := Lib.hid hW5
    clear b4 es ow hes s' x' hro hno hu hW5 hs2 rs5 bel5 hl5
    go_wp2_with (first | ((with_reducible refine wpList_load_mid rfl 30 (.tmp 4) rfl w.heap.size 0 ?_ cs' _ RG5.out Try.underlying30 rfl HI5.out ?_); rfl) | ((with_reducible refine wpList_store_cs rfl 30 (.tmp 8) (.tmp 21) rfl (w.heap.size + 1) 0 cs' ?_ ?_ TH5.out HI5.out HO5.out ?_); rfl; rfl))
    rw [← HW5.out]
    refine bodyPost_ret (results_cs Try.results29 (w.heap.size + 1) ?_ cs' _ (Bx.range BE.out) Try.underlying30 rfl HI5.out) rfl ?_
    · rfl
    · exact ⟨cs', _, rfl, (S5.out.asides _ 0 cs' N5.out).rd, below_sets _ _ _ BEL5.out _ (by omega)⟩
theorem eraseAt_lt {α : Type} (xs : List α) (i : Nat) (h : i < xs.length) : (xs.take i ++ xs.drop (i + 1)).length = xs.length - 1 := by
  rw [List.length_append, List.length_take, List.length_drop]
  omega
/-- A state without an object. -/
def remA (ds od : List D) : List D := ds.set 1 (.sl ((dxs ds 1).take (fidx (fun o => dint o 0 == dint od 0) (dxs ds 1)).toNat ++ (dxs ds 1).drop ((fidx (fun o => dint o 0 == dint od 0) (dxs ds 1)).toNat + 1)))
def remB (ds od : List D) : List D := setT ds (dint od 4) (dint od 2) ((listT ds (dint od 4) (dint od 2)).filter (fun x => !(dint x 0 == dint od 0)))
def remC (ds od : List D) : List D := ds.set 4 (.sl ((dxs ds 4).filter (fun x => !(dint x 0 == dint od 0 && dint x 1 == 1))))
def removeT (ds od : List D) : List D := remC (remB (remA ds od) od) od
theorem OwnS.setStack {ρ : Nat → Role} {L B : Nat} {w w' : World} {cs : List Value} {ds : List D} (h : OwnS ρ L B w cs ds) (v v' : Value) (hv : cs[4]? = some v) (gr : w.grownBy w' v.ownBlock) (n : Nat) (es : List (Cl 94)) (xs' : List (List D)) (r : w'.ownsRow B 83 94 v' n (es.flatMap Subtype.val)) (hn : es.length = n) (hE : Es (fun b => ρ b = .cold) L w kItem es xs')
    (hby : xs'.length * 824 ≤ L) (hsame : ∀ g, v'.ownBlock = some g → v.ownBlock = some g ∨ w.heap.size ≤ g) : ∃ ρ', OwnS ρ' L B w' (cs.set 4 v') (ds.set 4 (.sl xs')) ∧ Upd ρ ρ' B w.heap.size w w' := by
  subst hn
  exact h.setRow 4 (by omega) (by omega) v v' hv (Nat.le_refl _) gr xs' ⟨es, r, hE⟩ hby hsame
theorem OwnS.stack {ρ : Nat → Role} {L B : Nat} {w : World} {cs : List Value} {ds : List D} (h : OwnS ρ L B w cs ds) : ∃ v, cs[4]? = some v ∧ OwnR ρ (.row 4) L B 94 83 kItem 824 w v (dxs ds 4) := by
  obtain ⟨v, a, _, b⟩ := h.row 4 (by omega) (by omega)
  exact ⟨v, a, b⟩
theorem kItem0 : kItem[0]? = some (.lit .int) ∧ kItem[1]? = some (.lit .int) := ⟨rfl, rfl⟩
set_option maxRecDepth 100000 in
set_option maxHeartbeats 8000000 in
theorem remove_prog (ρ : Nat → Role) (L B : Nat) (cs : List Value) (ds : List D) (oc : List Value) (od : List D) (w : World) (h : OwnS ρ L B w cs ds) (ho : RdL (fun _ => False) 0 w kObject oc od) (hB : B ≤ w.heap.size) (hL : L ≤ 140737488355328) (hhas : hasO (dint od 0) (dxs ds 1) = true) :
    Calls Try.prog 37 #[.agg cs.toArray, .agg oc.toArray] w fun e w' => ∃ cs', e = .returned (.agg cs'.toArray) ∧ (∃ ρ', OwnS ρ' L B w' cs' (removeT ds od) ∧ Upd ρ ρ' B w.heap.size w w') := by
  have hl := h.len.1
  have hol := ho.len.1
  rw [kObject_len] at hol
  obtain ⟨W0, hW0⟩ : ∃ W, W = ((w.alloc (.cells cs.toArray 30)).alloc (.cells oc.toArray 47)).alloc (.cells #[.slice none 0 0, .slice none 0 0, .slice none 0 0, .slice none 0 0, .slice none 0 0, .slice none 0 0, .slice none 0 0, .int .i64 0, .int .i64 0, .int .i64 0, .bool false, .int .i64 0, .int .i64 0, .int .i64 0, .int .i64 0, .int .u64 0, .slice none 0 0, .int .i64 0, .int .i64 0] 30) := ⟨_, rfl⟩
  have X : Bx3 w W0 cs oc := by rw [hW0]; exact bx3 w cs oc
  obtain ⟨ρ0, s0, hnone, hsame⟩ := h.new X.bel
  obtain ⟨v1, hv1, ow⟩ := s0.objs
  have hrd : RdL (fun b => ρ0 b ≠ .none) L W0 kState cs ds := s0.rd
  have HP := Lib.hid (place_prog _ L cs ds (dint od 0) W0 hrd hL)
  have RG := Lib.hid (show (((w.alloc (.cells cs.toArray 30)).alloc (.cells oc.toArray 47)).alloc (.cells #[.slice none 0 0, .slice none 0 0, .slice none 0 0, .slice none 0 0, .slice none 0 0, .slice none 0 0, .slice none 0 0, .int .i64 0, .int .i64 0, .int .i64 0, .bool false, .int .i64 0, .int .i64 0, .int .i64 0, .int .i64 0, .int .u64 0, .slice none 0 0, .int .i64 0, .int .i64 0] 30)).rangeAt w.heap.size 0 cs from (by have := X.st.range; rw [hW0] at this; exact this))
  have HI := Lib.hid (show (Try.prog.info? 30).map (·.size) = some cs.length by rw [infoState, hl])
  have co0 := X.ob.cell 0 _ (ho.int 0 rfl).1
  rw [hW0] at co0
  have U0 := Lib.hid (Upd.of_below (ρ := ρ) (B := B) X.bel hsame)
  have HB := Lib.hid hB
  have XX := Lib.hid X
  have S0 := Lib.hid s0
  have HNONE := Lib.hid hnone
  have HV1 := Lib.hid hv1
  have HO := Lib.hid ho
  have HLEN := Lib.hid hl
  have HW0 := Lib.hid hW0
  obtain ⟨i, hi, hil⟩ : ∃ i : Nat, fidx (fun o => dint o 0 == dint od 0) (dxs ds 1) = i ∧ i < (dxs ds 1).length := by
    rcases fidx_find (fun o => dint o 0 == dint od 0) (dxs ds 1) with ⟨_, e⟩ | ⟨i, e, hlt, _⟩
    · unfold hasO at hhas; rw [e] at hhas; cases hhas
    · exact ⟨i, e, hlt⟩
  rw [hi] at HP
  have HRA := Lib.hid (show remA ds od = ds.set 1 (.sl ((dxs ds 1).take i ++ (dxs ds 1).drop (i + 1))) by unfold remA; rw [hi]; rfl)
  obtain ⟨es, ro, he⟩ := ow.row
  have hel := he.len
  have HES := Lib.hid he
  have HEL := Lib.hid hel
  have HBY := Lib.hid ow.bytes
  have hie : i < es.length := by omega
  have hbig : es.length * 128 ≤ L := by rw [hel]; exact ow.bytes
  rcases ro.2 with ⟨_, h0⟩ | ⟨g, cap, cur, rfl, hBg, hg, hcap, hmax, hsz, htake⟩
  · omega
  have HBLK := Lib.hid (own_blkC ro rfl)
  have HHD := Lib.hid (hdC_of ro)
  have HCAP := Lib.hid hcap
  have HROLE := Lib.hid (show ρ0 g = .row 1 from ow.role g rfl)
  clear hi hil hel ow ro he htake hsz hmax hg hcap hBg h hl hol hW0 X s0 hnone hsame hv1 hrd hB ho hhas
  go_enter Try.func37, Try.ntmps37
  go_wp2_with ((with_reducible refine wpList_load_mid rfl 30 (.tmp 2) rfl w.heap.size 0 ?_ cs _ RG.out Try.underlying30 rfl HI.out ?_); rfl)
  rw [← HW0.out]
  refine HP.out.mono ?_
  rintro e w1 ⟨rfl, b1⟩
  have B1 := Lib.hid b1
  have c1 := (XX.out.st.old b1).cell 1 _ HV1.out
  have HD := Lib.hid (delete_obj B g es.length cap i es w1 (HBLK.out.same (b1.block g HBLK.out.lt)) (HHD.out.same (b1.block g HBLK.out.lt)) rfl hie HCAP.out)
  have hwr : IntKind.i64.wrap ((i : Int) + 1) = (i : Int) + 1 := IntWalk.i64_in _ (by omega)
  clear b1
  go_wp2_with fail
  refine HD.out.mono ?_
  rintro e w2 ⟨rfl, r2, gr2⟩
  have s1 := S0.out.old B1.out
  have hs0 := XX.out.size
  have hb1 := B1.out.size
  obtain ⟨ρ2, s2, u2⟩ := s1.setObjs _ (.slice (some ⟨g, 0, none⟩) (es.length - 1) cap) HV1.out (Nat.le_refl L) gr2 _ (es.take i ++ es.drop (i + 1)) ((dxs ds 1).take i ++ (dxs ds 1).drop (i + 1)) r2 (eraseAt_lt es i hie) (((es_any flatObject HES.out).take i).append ((es_any flatObject HES.out).drop (i + 1))) (by have e := HEL.out; have := HBY.out; rw [eraseAt_lt _ i (by omega)]; omega) (fun g' hg' => .inl hg')
  rw [← HRA.out] at s2
  obtain ⟨cs2, hcs2⟩ : ∃ l, l = cs.set 1 (.slice (some ⟨g, 0, none⟩) (es.length - 1) cap) := ⟨_, rfl⟩
  rw [← hcs2] at s2
  obtain ⟨W3, hW3⟩ : ∃ W, W = w2.setCell ⟨w.heap.size, 1, none⟩ (.slice (some ⟨g, 0, none⟩) (es.length - 1) cap) := ⟨_, rfl⟩
  have hg0 : ∀ b, ρ0 b = .none → some b ≠ (some g : Option Nat) := fun b hb e => by
    have := HROLE.out
    rw [← Option.some.inj e, hb] at this
    cases this
  have n0 := HNONE.out w.heap.size (Nat.le_refl _)
  have n1 := HNONE.out (w.heap.size + 1) (by omega)
  have n2 := HNONE.out (w.heap.size + 2) (by omega)
  have st2 := (XX.out.st.old B1.out).same (gr2.block _ (by omega) (hg0 _ n0))
  have ob2 := (XX.out.ob.old B1.out).same (gr2.block _ (by omega) (hg0 _ n1))
  have rs2 := (XX.out.rs.old B1.out).same (gr2.block _ (by omega) (hg0 _ n2))
  have c2 := st2.cell 1 _ HV1.out
  have f2 := st2.frozen 1
  have st3 : Bx W3 w.heap.size 30 cs2 := by rw [hW3, hcs2]; exact st2.set 1 _
  have ob3 : Bx W3 (w.heap.size + 1) 47 oc := by rw [hW3]; exact ob2.other 1 _ (by omega)
  have rs3 : Bx W3 (w.heap.size + 2) 30 zsC := by rw [hW3]; exact rs2.other 1 _ (by omega)
  have m0 : ρ2 w.heap.size = .none := (u2.role _ (by omega)).trans n0
  have m1 : ρ2 (w.heap.size + 1) = .none := (u2.role _ (by omega)).trans n1
  have m2 : ρ2 (w.heap.size + 2) = .none := (u2.role _ (by omega)).trans n2
  have s3 : OwnS ρ2 L B W3 cs2 (remA ds od) := by rw [hW3]; exact s2.aside _ 1 _ m0
  have u3 : Upd ρ ρ2 B w.heap.size w W3 := by
    rw [hW3]
    exact ((U0.out.trans (Upd.of_below (B := B) B1.out (fun _ _ => rfl)) (by omega)).trans u2 (by omega)).store _ _ _ (Nat.le_refl _)
  have hz3 : w.heap.size + 3 ≤ W3.heap.size := by have := gr2.size; rw [hW3]; simp only [World.setCell, Array.size_modify]; omega
  obtain ⟨ao, n, c, hc0, hn, hnl, hx⟩ := s3.at_list w.heap.size st3 m0 (dint od 4) (dint od 2)
  have hplb : (dxs (remA ds od) 0).length * 152 ≤ L := by obtain ⟨_, _, _, pl⟩ := s3.ply; exact pl.bytes
  have HL := Lib.hid (list_prog w.heap.size ao n c (dint od 4) (dint od 2) W3 (st3.cell 0 _ hc0) hn (by omega))
  have co4 := ob3.cell 4 _ (HO.out.int 4 rfl).1
  have co2 := ob3.cell 2 _ (HO.out.int 2 rfl).1
  rw [hW3] at co4 co2
  have ST3 := Lib.hid st3
  have OB3 := Lib.hid ob3
  have RS3 := Lib.hid rs3
  have M0 := Lib.hid m0
  have M1 := Lib.hid m1
  have M2 := Lib.hid m2
  have S3 := Lib.hid s3
  have U3 := Lib.hid u3
  have HZ3 := Lib.hid hz3
  have HW3 := Lib.hid hW3
  clear hie hbig r2 gr2 s1 hs0 hb1 s2 u2 hcs2 hW3 hg0 n0 n1 n2 st2 ob2 rs2 st3 ob3 rs3 m0 m1 m2 s3 u3 hz3 hc0 hn hnl hplb
  rcases hx with ⟨hp, _, hset⟩ | ⟨ab, oo, u, hp, A⟩
  · rw [hp] at HL
    have hrb : remB (remA ds od) od = remA ds od := hset _
    have HRT := Lib.hid (show removeT ds od = remC (remA ds od) od by unfold removeT; rw [hrb])
    obtain ⟨W6, hW6⟩ : ∃ W, W = W3 := ⟨_, rfl⟩
    obtain ⟨ρ6, hρ6⟩ : ∃ r, r = ρ2 := ⟨_, rfl⟩
    have S6 := Lib.hid (show OwnS ρ6 L B W6 cs2 (remA ds od) by rw [hW6, hρ6]; exact S3.out)
    have U6 := Lib.hid (show Upd ρ ρ6 B w.heap.size w W6 by rw [hW6, hρ6]; exact U3.out)
    have ST6 := Lib.hid (show Bx W6 w.heap.size 30 cs2 by rw [hW6]; exact ST3.out)
    have OB6 := Lib.hid (show Bx W6 (w.heap.size + 1) 47 oc by rw [hW6]; exact OB3.out)
    have RS6 := Lib.hid (show Bx W6 (w.heap.size + 2) 30 zsC by rw [hW6]; exact RS3.out)
    have N6 := Lib.hid (show ρ6 w.heap.size = .none ∧ ρ6 (w.heap.size + 1) = .none ∧ ρ6 (w.heap.size + 2) = .none by rw [hρ6]; exact ⟨M0.out, M1.out, M2.out⟩)
    have HZ6 := Lib.hid (show w.heap.size + 3 ≤ W6.heap.size by rw [hW6]; exact HZ3.out)
    have HW6 := Lib.hid hW6
    clear hp hset hrb hρ6 hW6
    go_wp2_with fail
    rw [← HW3.out]
    refine HL.out.mono ?_
    rintro e w4 ⟨rfl, rfl⟩
    obtain ⟨v4, hv4, ow4⟩ := S6.out.stack
    obtain ⟨es4, ro4, he4⟩ := ow4.row
    have ci6 := OB6.out.cell 0 _ (HO.out.int 0 rfl).1
    have HDF := Lib.hid (delfuncItem (fun b => ρ6 b ≠ .none) _ L L B v4 es4 _ (dint od 0) (w.heap.size + 1) W6 (ow4.rd (by decide) (fun b => ρ6 b ≠ .none) (fun b hb => by rcases hb with e | e <;> rw [e] <;> simp)) he4 hL ro4 ci6 (fun e => by have := ow4.role _ e; rw [N6.out.2.1] at this; cases this) _ rfl)
    have c64 := ST6.out.cell 4 _ hv4
    have HV4 := Lib.hid hv4
    have HES4 := Lib.hid he4
    have HBY4 := Lib.hid ow4.bytes
    have HROLE4 := Lib.hid ow4.role
    obtain ⟨ao4, m4, c4, rfl⟩ := own_sl ro4
    rw [HW6.out] at c64
    clear hv4 ow4 ro4 he4 ci6
    go_wp2_with fail
    rw [← HW6.out]
    refine HDF.out.mono ?_
    rintro e w7 ⟨ao7, m7, c7, rfl, hm7, r7, hsame7, gr7⟩
    obtain ⟨ρ8, s8, u8⟩ := S6.out.setStack _ (.slice ao7 m7 c7) HV4.out gr7 m7 (es4.filter (fun x => !(fun x : Cl 94 => cInt x.1 0 == dint od 0 && cInt x.1 1 == 1) x)) _ r7 hm7.symm (Es.filter (fun x => !(dint x 0 == dint od 0 && dint x 1 == 1)) _ HES4.out (fun j x d h1 h2 => by
      have hr := HES4.out.at_ j x d h1 h2
      dsimp only
      rw [cInt_of (hr.int 0 kItem0.1).1, cInt_of (hr.int 1 kItem0.2).1])) (Nat.le_trans (Nat.mul_le_mul_right _ (List.length_filter_le _ _)) HBY4.out) (fun g' hg' => .inl (hsame7 g' hg'))
    have hz6 := HZ6.out
    have nb : ∀ b, ρ6 b = .none → some b ≠ (Value.slice ao4 m4 c4).ownBlock := fun b hb e => by
      have := HROLE4.out b e.symm
      rw [hb] at this
      cases this
    have st7 := ST6.out.same (gr7.block _ (by omega) (nb _ N6.out.1))
    have rs7 := RS6.out.same (gr7.block _ (by omega) (nb _ N6.out.2.2))
    obtain ⟨cs8, hcs8⟩ : ∃ l, l = (cs2 : List Value).set 4 (.slice ao7 m7 c7) := ⟨_, rfl⟩
    rw [← hcs8] at s8
    obtain ⟨W8, hW8⟩ : ∃ W, W = w7.setCell ⟨w.heap.size, 4, none⟩ (.slice ao7 m7 c7) := ⟨_, rfl⟩
    have c74 := st7.cell 4 _ HV4.out
    have f74 := st7.frozen 4
    have st8 : Bx W8 w.heap.size 30 cs8 := by rw [hW8, hcs8]; exact st7.set 4 _
    have rs8 : Bx W8 (w.heap.size + 2) 30 zsC := by rw [hW8]; exact rs7.other 4 _ (by omega)
    have p0 : ρ8 w.heap.size = .none := (u8.role _ (by omega)).trans N6.out.1
    have p2 : ρ8 (w.heap.size + 2) = .none := (u8.role _ (by omega)).trans N6.out.2.2
    have s9 : OwnS ρ8 L B W8 cs8 (remC (remA ds od) od) := by rw [hW8]; exact s8.aside _ 4 _ p0
    have u9 : Upd ρ ρ8 B w.heap.size w W8 := by rw [hW8]; exact (U6.out.trans u8 (by omega)).store _ _ _ (Nat.le_refl _)
    have hl8 := s9.len.1
    have RG8 := Lib.hid st8.range
    rw [hW8] at RG8
    have HI8 := Lib.hid (show (Try.prog.info? 30).map (·.size) = some cs8.length by rw [infoState, hl8])
    have ht8 : W8.there (w.heap.size + 2) 0 cs8.length := by rw [hl8]; exact rs8.there
    rw [hW8] at ht8
    have TH8 := Lib.hid ht8
    have HO8 := Lib.hid s9.rd.one
    have BE := Lib.hid (rs8.setAll cs8 hl8)
    have S9 := Lib.hid (s9.asides _ 0 cs8 p2)
    have U9 := Lib.hid (u9.stores (w.heap.size + 2) 0 cs8 (by omega))
    have HW8 := Lib.hid hW8
    clear hm7 r7 hsame7 gr7 s8 u8 hz6 nb st7 rs7 hcs8 hW8 st8 rs8 p0 p2 s9 u9 hl8 ht8
    go_wp2_with (first | ((with_reducible refine wpList_load_mid rfl 30 (.tmp 2) rfl w.heap.size 0 ?_ cs8 _ RG8.out Try.underlying30 rfl HI8.out ?_); rfl) | ((with_reducible refine wpList_store_cs rfl 30 (.tmp 4) (.tmp 38) rfl (w.heap.size + 2) 0 cs8 ?_ ?_ TH8.out HI8.out HO8.out ?_); rfl; rfl))
    rw [← HW8.out]
    refine bodyPost_ret (results_cs Try.results37 (w.heap.size + 2) ?_ cs8 _ (Bx.range BE.out) Try.underlying30 rfl HI8.out) rfl ?_
    · rfl
    · exact ⟨cs8, rfl, ρ8, by rw [HRT.out]; exact S9.out, U9.out⟩
  · rw [hp] at HL
    obtain ⟨r, ow3⟩ := A.own
    have HX := Lib.hid (without_prog (fun b => ρ2 b ≠ .none ∨ ρ2 b = r) L u (listT (remA ds od) (dint od 4) (dint od 2)) (dint od 0) W3.drew ((ow3.rd (by decide) (fun b => ρ2 b ≠ .none ∨ ρ2 b = r) (fun b hb => by rcases hb with e | e; exact .inr e; exact .inl (by rw [e]; simp))).old (Below.refl _ _).drew) hL)
    have HRT := Lib.hid (show removeT ds od = remC (remB (remA ds od) od) od from rfl)
    have HBL := Lib.hid ow3.bytes
    have ca3 : W3.drew.cell? ⟨ab, oo, none⟩ = some u := A.cell
    have SX := Lib.hid (show W3.drew.cell? ⟨w.heap.size + 1, 0, none⟩ = some (.int .i64 (dint od 0)) from OB3.out.cell 0 _ (HO.out.int 0 rfl).1)
    have AL := Lib.hid A
    clear hp A ow3
    go_wp2_with fail
    rw [← HW3.out]
    refine HL.out.mono ?_
    rintro e w4 ⟨rfl, rfl⟩
    go_wp2_with fail
    refine wp_region_noPanic ?_
    refine wp_region_held_drew (S := fun wS => wS.cell? ⟨w.heap.size + 1, 0, none⟩ = some (.int .i64 (dint od 0))) (by kernel_rfl) (SX.out) (fun hHeld => ?_)
    refine wpAnyH_take (i := 0) (oi := ?oiR0x) (v := ?vR0x) ?hiR0x (by kernel_rfl) (by kernel_rfl) (by kernel_rfl) ?hqR0x ?hyR0x (by assumption) ?restR0x
    case hiR0x => (simp only [List.getElem?_toArray, List.getElem?_cons_zero] <;> rfl)
    case hqR0x => exact fun _ _ _ h => h
    case hyR0x => exact Or.inl ⟨by rfl, by (intro wS hSw; have s5 : wS.cell? ⟨w.heap.size + 1, 0, none⟩ = some (.int .i64 (dint od 0)) := hSw; go_simp; try with_reducible rfl)⟩
    try simp only [Act.put, List.setIfInBounds_toArray, List.set_cons_zero, List.set_cons_succ]
    refine wpAnyH_take (i := 1) (oi := ?oiR1x) (v := ?vR1x) ?hiR1x (by kernel_rfl) (by kernel_rfl) (by kernel_rfl) ?hqR1x ?hyR1x (by assumption) ?restR1x
    case hiR1x => (simp only [List.getElem?_toArray, List.getElem?_cons_succ, List.getElem?_cons_zero] <;> rfl)
    case hqR1x => exact fun _ _ _ h => h
    case hyR1x => exact Or.inl ⟨by rfl, by (intro wS hSw; have s5 : wS.cell? ⟨w.heap.size + 1, 0, none⟩ = some (.int .i64 (dint od 0)) := hSw; go_simp; try with_reducible rfl)⟩
    try simp only [Act.put, List.setIfInBounds_toArray, List.set_cons_zero, List.set_cons_succ]
    refine wpAnyH_take (i := 2) (oi := ?oiR2x) (v := ?vR2x) ?hiR2x (by kernel_rfl) (by kernel_rfl) (by kernel_rfl) ?hqR2x ?hyR2x (by assumption) ?restR2x
    case hiR2x => (simp only [List.getElem?_toArray, List.getElem?_cons_succ, List.getElem?_cons_zero] <;> rfl)
    case hqR2x => exact fun _ _ _ h => h
    case hyR2x => exact Or.inl ⟨by rfl, by (intro wS hSw; have s5 : wS.cell? ⟨w.heap.size + 1, 0, none⟩ = some (.int .i64 (dint od 0)) := hSw; go_simp; try with_reducible rfl)⟩
    try simp only [Act.put, List.setIfInBounds_toArray, List.set_cons_zero, List.set_cons_succ]
    refine wpAnyH_take (i := 4) (oi := ?oiR4x) (v := ?vR4x) ?hiR4x (by kernel_rfl) (by kernel_rfl) (by kernel_rfl) ?hqR4x ?hyR4x (by assumption) ?restR4x
    case hiR4x => (simp only [List.getElem?_toArray, List.getElem?_cons_succ, List.getElem?_cons_zero] <;> rfl)
    case hqR4x => exact fun _ _ _ h => h
    case hyR4x => exact Or.inl ⟨by rfl, by (intro wS hSw; have s5 : wS.cell? ⟨w.heap.size + 1, 0, none⟩ = some (.int .i64 (dint od 0)) := hSw; go_simp; try with_reducible rfl)⟩
    try simp only [Act.put, List.setIfInBounds_toArray, List.set_cons_zero, List.set_cons_succ]
    refine wpAnyH_take (i := 5) (oi := ?oiR5x) (v := ?vR5x) ?hiR5x (by kernel_rfl) (by kernel_rfl) (by kernel_rfl) ?hqR5x ?hyR5x (by assumption) ?restR5x
    case hiR5x => (simp only [List.getElem?_toArray, List.getElem?_cons_succ, List.getElem?_cons_zero] <;> rfl)
    case hqR5x => exact fun _ _ _ h => h
    case hyR5x => exact Or.inl ⟨by rfl, by (intro wS hSw; have s5 : wS.cell? ⟨w.heap.size + 1, 0, none⟩ = some (.int .i64 (dint od 0)) := hSw; go_simp; try with_reducible rfl)⟩
    try simp only [Act.put, List.setIfInBounds_toArray, List.set_cons_zero, List.set_cons_succ]
    refine wpAnyH_ready (rs := [3]) (by kernel_rfl) (by simp) ?_
    refine AllReadyH.cons (o := ?oiR3x) ?hiR3x (fun K hK => ?hsR3x) AllReadyH.nil
    case hiR3x => (simp only [List.getElem?_toArray, List.getElem?_cons_succ, List.getElem?_cons_zero] <;> rfl)
    go_simp
    refine hK.out _ _ SX.out (fun hHeld3 => ?_)
    clear hHeld3
    clear hK K
    try simp only [Act.put, List.setIfInBounds_toArray, List.set_cons_zero, List.set_cons_succ]
    refine wpAnyH_ready (rs := [6]) (by kernel_rfl) (by simp) ?_
    refine AllReadyH.cons (o := ?oiR6x) ?hiR6x (fun K hK => ?hsR6x) AllReadyH.nil
    case hiR6x => (simp only [List.getElem?_toArray, List.getElem?_cons_succ, List.getElem?_cons_zero] <;> rfl)
    go_simp
    refine HX.out.mono ?_
    rintro e w5 ⟨ao5, m5, c5, rfl, own5, b5⟩
    have b5 := (Below.refl w4.heap.size w4).drew.trans b5
    have S5 := Lib.hid (show w5.cell? ⟨w.heap.size + 1, 0, none⟩ = some (.int .i64 (dint od 0)) from (OB3.out.old b5).cell 0 _ (HO.out.int 0 rfl).1)
    obtain ⟨ca5, fa5⟩ := AL.out.there w5 (below_grown b5)
    have B5 := Lib.hid b5
    have OW5 := Lib.hid own5
    clear b5 own5 ca3
    refine hK.out _ _ S5.out (fun hHeld6 => ?_)
    clear hK K
    try simp only [Act.put, List.setIfInBounds_toArray, List.set_cons_zero, List.set_cons_succ]
    refine wpAnyH_take (i := 7) (oi := ?oiR7x) (v := ?vR7x) ?hiR7x (by kernel_rfl) (by kernel_rfl) (by kernel_rfl) ?hqR7x ?hyR7x (by assumption) ?restR7x
    case hiR7x => (simp only [List.getElem?_toArray, List.getElem?_cons_succ, List.getElem?_cons_zero] <;> rfl)
    case hqR7x => exact fun _ _ _ h => h
    case hyR7x => exact Or.inl ⟨by rfl, by (intro wS hSw; have s5 : wS.cell? ⟨w.heap.size + 1, 0, none⟩ = some (.int .i64 (dint od 0)) := hSw; go_simp; try with_reducible rfl)⟩
    try simp only [Act.put, List.setIfInBounds_toArray, List.set_cons_zero, List.set_cons_succ]
    refine wpAnyH_ready (rs := [8]) (by kernel_rfl) (by simp) ?_
    refine AllReadyH.cons (o := ?oiR8x) ?hiR8x (fun K hK => ?hsR8x) AllReadyH.nil
    case hiR8x => (simp only [List.getElem?_toArray, List.getElem?_cons_succ, List.getElem?_cons_zero] <;> rfl)
    go_simp
    obtain ⟨es5, ow5, hes5⟩ := OW5.out
    have hz3 := HZ3.out
    obtain ⟨ρ6, cs6, s6, x6, hro, hno, hu⟩ := AL.out.put w5 L (.slice ao5 m5 c5) ((listT (remA ds od) (dint od 4) (dint od 2)).filter (fun x => !(dint x 0 == dint od 0))) (Nat.le_refl _) (below_grown B5.out) ⟨es5, own_low ow5 (Nat.le_trans HB.out (Nat.le_trans (Nat.le_add_right _ 3) HZ3.out)), es_any (flat_ints 1) hes5⟩ (Nat.le_trans (Nat.mul_le_mul_right _ (List.length_filter_le _ _)) HBL.out) (fun g' hg' => .inr (ow5.lt g' hg').1)
    obtain ⟨W6, hW6⟩ : ∃ W, W = w5.setCell ⟨ab, oo, none⟩ (.slice ao5 m5 c5) := ⟨_, rfl⟩
    rw [← hW6] at s6 x6 hno hu
    have S6 := Lib.hid (show OwnS ρ6 L B W6 cs6 (remB (remA ds od) od) from s6)
    have U6 := Lib.hid (U3.out.trans (hu w.heap.size (by omega) (Nat.le_refl _)) (Nat.le_refl _))
    have ST6 := Lib.hid x6
    have OB6 := Lib.hid (OB3.out.same (hno _ (by omega) (by omega) M1.out))
    have RS6 := Lib.hid (RS3.out.same (hno _ (by omega) (by omega) M2.out))
    have N6 := Lib.hid (show ρ6 w.heap.size = .none ∧ ρ6 (w.heap.size + 1) = .none ∧ ρ6 (w.heap.size + 2) = .none from ⟨(hro _ (by omega)).trans M0.out, (hro _ (by omega)).trans M1.out, (hro _ (by omega)).trans M2.out⟩)
    have HZ6 := Lib.hid (show w.heap.size + 3 ≤ W6.heap.size from Nat.le_trans hz3 (hu w.heap.size (by omega) (Nat.le_refl _)).size)
    have HW6 := Lib.hid hW6
    have S6x := Lib.hid (show (w5.setCell ⟨ab, oo, none⟩ (.slice ao5 m5 c5)).cell? ⟨w.heap.size + 1, 0, none⟩ = some (.int .i64 (dint od 0)) from by rw [← hW6]; exact OB6.out.cell 0 _ (HO.out.int 0 rfl).1)
    clear ow5 hes5 hz3 s6 x6 hro hno hu hW6 ca5 fa5
    refine hK.out _ _ S6x.out (fun hHeld8 => ?_)
    clear hK K
    try simp only [Act.put, List.setIfInBounds_toArray, List.set_cons_zero, List.set_cons_succ]
    refine wpAnyH_done (by kernel_rfl) ?_ _
    refine NoPanic.normal ?_
    obtain ⟨v4, hv4, ow4⟩ := S6.out.stack
    obtain ⟨es4, ro4, he4⟩ := ow4.row
    have ci6 := OB6.out.cell 0 _ (HO.out.int 0 rfl).1
    have HDF := Lib.hid (delfuncItem (fun b => ρ6 b ≠ .none) _ L L B v4 es4 _ (dint od 0) (w.heap.size + 1) W6 (ow4.rd (by decide) (fun b => ρ6 b ≠ .none) (fun b hb => by rcases hb with e | e <;> rw [e] <;> simp)) he4 hL ro4 ci6 (fun e => by have := ow4.role _ e; rw [N6.out.2.1] at this; cases this) _ rfl)
    have c64 := ST6.out.cell 4 _ hv4
    have HV4 := Lib.hid hv4
    have HES4 := Lib.hid he4
    have HBY4 := Lib.hid ow4.bytes
    have HROLE4 := Lib.hid ow4.role
    obtain ⟨ao4, m4, c4, rfl⟩ := own_sl ro4
    rw [HW6.out] at c64
    clear hv4 ow4 ro4 he4 ci6
    go_wp2_with fail
    rw [← HW6.out]
    refine HDF.out.mono ?_
    rintro e w7 ⟨ao7, m7, c7, rfl, hm7, r7, hsame7, gr7⟩
    obtain ⟨ρ8, s8, u8⟩ := S6.out.setStack _ (.slice ao7 m7 c7) HV4.out gr7 m7 (es4.filter (fun x => !(fun x : Cl 94 => cInt x.1 0 == dint od 0 && cInt x.1 1 == 1) x)) _ r7 hm7.symm (Es.filter (fun x => !(dint x 0 == dint od 0 && dint x 1 == 1)) _ HES4.out (fun j x d h1 h2 => by
      have hr := HES4.out.at_ j x d h1 h2
      dsimp only
      rw [cInt_of (hr.int 0 kItem0.1).1, cInt_of (hr.int 1 kItem0.2).1])) (Nat.le_trans (Nat.mul_le_mul_right _ (List.length_filter_le _ _)) HBY4.out) (fun g' hg' => .inl (hsame7 g' hg'))
    have hz6 := HZ6.out
    have nb : ∀ b, ρ6 b = .none → some b ≠ (Value.slice ao4 m4 c4).ownBlock := fun b hb e => by
      have := HROLE4.out b e.symm
      rw [hb] at this
      cases this
    have st7 := ST6.out.same (gr7.block _ (by omega) (nb _ N6.out.1))
    have rs7 := RS6.out.same (gr7.block _ (by omega) (nb _ N6.out.2.2))
    obtain ⟨cs8, hcs8⟩ : ∃ l, l = (cs6 : List Value).set 4 (.slice ao7 m7 c7) := ⟨_, rfl⟩
    rw [← hcs8] at s8
    obtain ⟨W8, hW8⟩ : ∃ W, W = w7.setCell ⟨w.heap.size, 4, none⟩ (.slice ao7 m7 c7) := ⟨_, rfl⟩
    have c74 := st7.cell 4 _ HV4.out
    have f74 := st7.frozen 4
    have st8 : Bx W8 w.heap.size 30 cs8 := by rw [hW8, hcs8]; exact st7.set 4 _
    have rs8 : Bx W8 (w.heap.size + 2) 30 zsC := by rw [hW8]; exact rs7.other 4 _ (by omega)
    have p0 : ρ8 w.heap.size = .none := (u8.role _ (by omega)).trans N6.out.1
    have p2 : ρ8 (w.heap.size + 2) = .none := (u8.role _ (by omega)).trans N6.out.2.2
    have s9 : OwnS ρ8 L B W8 cs8 (remC (remB (remA ds od) od) od) := by rw [hW8]; exact s8.aside _ 4 _ p0
    have u9 : Upd ρ ρ8 B w.heap.size w W8 := by rw [hW8]; exact (U6.out.trans u8 (by omega)).store _ _ _ (Nat.le_refl _)
    have hl8 := s9.len.1
    have RG8 := Lib.hid st8.range
    rw [hW8] at RG8
    have HI8 := Lib.hid (show (Try.prog.info? 30).map (·.size) = some cs8.length by rw [infoState, hl8])
    have ht8 : W8.there (w.heap.size + 2) 0 cs8.length := by rw [hl8]; exact rs8.there
    rw [hW8] at ht8
    have TH8 := Lib.hid ht8
    have HO8 := Lib.hid s9.rd.one
    have BE := Lib.hid (rs8.setAll cs8 hl8)
    have S9 := Lib.hid (s9.asides _ 0 cs8 p2)
    have U9 := Lib.hid (u9.stores (w.heap.size + 2) 0 cs8 (by omega))
    have HW8 := Lib.hid hW8
    clear hm7 r7 hsame7 gr7 s8 u8 hz6 nb st7 rs7 hcs8 hW8 st8 rs8 p0 p2 s9 u9 hl8 ht8
    go_wp2_with (first | ((with_reducible refine wpList_load_mid rfl 30 (.tmp 2) rfl w.heap.size 0 ?_ cs8 _ RG8.out Try.underlying30 rfl HI8.out ?_); rfl) | ((with_reducible refine wpList_store_cs rfl 30 (.tmp 4) (.tmp 38) rfl (w.heap.size + 2) 0 cs8 ?_ ?_ TH8.out HI8.out HO8.out ?_); rfl; rfl))
    rw [← HW8.out]
    refine bodyPost_ret (results_cs Try.results37 (w.heap.size + 2) ?_ cs8 _ (Bx.range BE.out) Try.underlying30 rfl HI8.out) rfl ?_
    · rfl
    · exact ⟨cs8, rfl, ρ8, by rw [HRT.out]; exact S9.out, U9.out⟩
end Go.Proofs.Ytiebjkbofoppaaa
