/- Chapter 25: Make of the program. -/
import Derived.Test.YtiebjkbofoppaaaZoD
namespace Go.Proofs.Ytiebjkbofoppaaa
open Go Go.RowKit Go.Sort Cg
theorem dint_ne (ds : List D) (i j : Nat) (d : D) (h : j ≠ i) : dint (ds.set i d) j = dint ds j := by
  unfold dint
  rw [List.getElem?_set_ne (fun e => h e.symm)]
def dI (n : Int) : D := .lit (.int .i64 n)
def tokC (id card player stamp : Int) : List Value := ((newO id card player 0 stamp).set 5 (.bool true)).set 7 (.bool true)
theorem tokC_rd (id card player stamp : Int) (w : World) : RdL (fun _ => False) 0 w kObject (tokC id card player stamp) ((tokC id card player stamp).map .lit) := lits_rd w _ _ rfl rfl
/-- The state with one more list element. -/
def makeA (ds : List D) (card player : Int) : List D := putT ds ((tokC (dint ds 13) card player (dint ds 14)).map .lit)
def makeB (ds : List D) (card player : Int) : List D := setT (makeA ds card player) 0 0 (listT (makeA ds card player) 0 0 ++ [[dI (dint ds 13)]])
def makeT (ds : List D) (card player : Int) : List D := ((makeB ds card player).set 13 (dI (dint ds 13 + 1))).set 14 (dI (dint ds 14 + 1))
theorem makeB_13 (ds : List D) (card player : Int) (c : Nat) (hc : 5 ≤ c) : dint (makeB ds card player) c = dint ds c := by
  have e : makeB ds card player = (makeA ds card player).set 2 (.sl (listT (makeA ds card player) 0 0 ++ [[dI (dint ds 13)]])) := rfl
  rw [e, dint_ne _ _ _ _ (by omega)]
  exact dint_ne _ _ _ _ (by omega)
/-- One number behind a list of the call's own. -/
theorem snoc_es {F : Nat → Prop} {L : Nat} {w : World} {es : List (Cl 1)} {xs : List (List D)} (h : Es F L w (kI 1) es xs) (n : Int) : ∃ y : Cl 1, y.1 = [.int .i64 n] ∧ Es F L w (kI 1) (es ++ [y]) (xs ++ [[dI n]]) := by
  refine ⟨⟨[.int .i64 n], rfl, fun u hu => by rw [List.mem_singleton.1 hu]; rfl⟩, rfl, h.append ⟨rfl, fun j vs ds h1 h2 => ?_⟩⟩
  rcases j with _ | j
  · obtain rfl := Option.some.inj h1
    obtain rfl := Option.some.inj h2
    exact .cons (.lit ⟨n, rfl⟩) .nil
  · cases h1
set_option maxRecDepth 100000 in
set_option maxHeartbeats 8000000 in
theorem make_prog (F : Nat → Prop) (L : Nat) (cs : List Value) (ds : List D) (card player : Int) (w : World) (h : RdL F L w kState cs ds) (hL : L + 136 ≤ 140737488355328) (h13 : IntKind.i64.wrap (dint ds 13 + 1) = dint ds 13 + 1) (h14 : IntKind.i64.wrap (dint ds 14 + 1) = dint ds 14 + 1) :
    Calls Try.prog 18 #[.agg cs.toArray, .int .i64 card, .int .i64 player] w fun e w' => ∃ cs' F', e = .returned (.tuple #[.agg cs'.toArray, .int .i64 (dint ds 13)]) ∧ RdL F' (L + 128 + 8) w' kState cs' (makeT ds card player) ∧ Below w.heap.size w w' := by
  have hl := h.len.1
  rw [kState_len] at hl
  obtain ⟨W0, hW0⟩ : ∃ W, W = (w.alloc (.cells cs.toArray 30)).alloc (.cells #[.slice none 0 0, .slice none 0 0, .slice none 0 0, .slice none 0 0, .slice none 0 0, .slice none 0 0, .slice none 0 0, .int .i64 0, .int .i64 0, .int .i64 0, .bool false, .int .i64 0, .int .i64 0, .int .i64 0, .int .i64 0, .int .u64 0, .slice none 0 0, .int .i64 0, .int .i64 0] 30) := ⟨_, rfl⟩
  have X : Bx2 w W0 cs := by rw [hW0]; exact bx2 w cs
  have hr : RdL (fun b => F b ∧ b < w.heap.size) L W0 kState cs ds := (h.imp (fun b hF hlt => ⟨hF, hlt⟩)).old X.bel
  have HC := Lib.hid (copy_prog _ L cs ds W0 hr (by omega))
  have RG := Lib.hid (show ((w.alloc (.cells cs.toArray 30)).alloc (.cells #[.slice none 0 0, .slice none 0 0, .slice none 0 0, .slice none 0 0, .slice none 0 0, .slice none 0 0, .slice none 0 0, .int .i64 0, .int .i64 0, .int .i64 0, .bool false, .int .i64 0, .int .i64 0, .int .i64 0, .int .i64 0, .int .u64 0, .slice none 0 0, .int .i64 0, .int .i64 0] 30)).rangeAt w.heap.size 0 cs from (by have := X.st.range; rw [hW0] at this; exact this))
  have HI := Lib.hid (show (Try.prog.info? 30).map (·.size) = some cs.length by rw [infoState, hl])
  have XX := Lib.hid X
  have HW0 := Lib.hid hW0
  have HLN := Lib.hid hl
  clear hW0 X hr h hl
  go_enter Try.func18, Try.ntmps18
  go_wp2_with ((with_reducible refine wpList_load_mid rfl 30 (.tmp 3) rfl w.heap.size 0 ?_ cs _ RG.out Try.underlying30 rfl HI.out ?_); rfl)
  rw [← HW0.out]
  refine HC.out.mono ?_
  rintro e w1 ⟨cs1, rfl, ⟨ρ1, s1, hn1⟩, b1⟩
  have hs0 := XX.out.size
  have st1 := XX.out.st.old b1
  have rs1 := XX.out.rs.old b1
  have hl1 := s1.len.1
  have hlc : cs1.length = cs.length := by rw [hl1, HLN.out]
  have hb1 := b1.size
  obtain ⟨W2, hW2⟩ : ∃ W, W = w1.setCells w.heap.size 0 cs1 := ⟨_, rfl⟩
  have TH1 := Lib.hid (show w1.there w.heap.size 0 cs1.length by rw [hlc]; exact st1.there)
  have HI1 := Lib.hid (show (Try.prog.info? 30).map (·.size) = some cs1.length by rw [infoState, hl1])
  have HO1 := Lib.hid s1.rd.one
  have st2 : Bx W2 w.heap.size 30 cs1 := by rw [hW2]; exact st1.setAll cs1 hlc
  have rs2 : Bx W2 (w.heap.size + 1) 30 zsC := by rw [hW2]; exact rs1.same (heap_sets _ _ _ _ _ (by omega))
  have n0 : ρ1 w.heap.size = .none := hn1 _ (by omega) (fun hF => by have := hF.2; omega)
  have n1 : ρ1 (w.heap.size + 1) = .none := hn1 _ (by omega) (fun hF => by have := hF.2; omega)
  have s2 : OwnS ρ1 L W0.heap.size W2 cs1 ds := by rw [hW2]; exact s1.asides _ 0 cs1 n0
  have bel2 : Below w.heap.size w W2 := by rw [hW2]; exact below_sets _ _ _ (XX.out.bel.trans (b1.mono (by omega))) _ (Nat.le_refl _)
  have hz2 : W2.heap.size = w1.heap.size := by rw [hW2]; exact sets_size _ _ _ _
  have c13 := st2.cell 13 _ (s2.rd.int 13 rfl).1
  have c14 := st2.cell 14 _ (s2.rd.int 14 rfl).1
  rw [hW2] at c13 c14
  have HNEW := Lib.hid (new_prog (dint ds 13) card player 0 (dint ds 14) W2)
  obtain ⟨nl, hnl⟩ : ∃ nl, nl = newO (dint ds 13) card player 0 (dint ds 14) := ⟨_, rfl⟩
  rw [← hnl] at HNEW
  have HNL := Lib.hid hnl
  have ST2 := Lib.hid st2
  have RS2 := Lib.hid rs2
  have N0 := Lib.hid n0
  have N1 := Lib.hid n1
  have S2 := Lib.hid s2
  have BEL2 := Lib.hid bel2
  have HS2 := Lib.hid (show w.heap.size + 2 ≤ W2.heap.size by omega)
  have HB := Lib.hid (show W0.heap.size ≤ W2.heap.size ∧ w.heap.size ≤ W0.heap.size by omega)
  have HLEN := Lib.hid hl1
  have HW2 := Lib.hid hW2
  clear hs0 st1 rs1 hl1 hlc st2 rs2 n0 n1 s2 hb1 bel2 hz2 s1 hn1 b1 hnl hW2
  go_wp2_with ((with_reducible refine wpList_store_cs rfl 30 (.tmp 3) (.tmp 10) rfl w.heap.size 0 cs1 ?_ ?_ TH1.out HI1.out HO1.out ?_); rfl; rfl)
  rw [← HW2.out]
  refine HNEW.out.mono ?_
  rintro e w3 ⟨rfl, b3⟩
  have hnn : nl.length = 19 := by rw [HNL.out]; rfl
  have hs2 := HS2.out
  have hs3 := b3.size
  obtain ⟨W4, hW4⟩ : ∃ W, W = w3.alloc (.cells #[.int .i64 0, .int .i64 0, .int .i64 0, .int .i64 0, .int .i64 0, .bool false, .bool false, .bool false, .bool false, .int .i64 0, .int .i64 0, .int .i64 0, .int .i64 0, .int .i64 0, .int .i64 0, .int .i64 0, .bool false, .int .i64 0, .int .i64 0] 47) := ⟨_, rfl⟩
  have nz : Bx W4 w3.heap.size 47 zObjC.1 := by rw [hW4]; exact Bx.new w3 zObjC.1 _
  have b4 : Below w3.heap.size w3 W4 := by rw [hW4]; exact (Below.refl _ _).alloc (Nat.le_refl _) _
  have ht : W4.there w3.heap.size 0 nl.length := by rw [hnn]; exact nz.there
  rw [hW4] at ht
  have THN := Lib.hid ht
  have HIN := Lib.hid (show (Try.prog.info? 47).map (·.size) = some nl.length by rw [infoObject, hnn])
  have HON := Lib.hid (show ∀ u ∈ nl, u.oneCell' = true by rw [HNL.out]; exact newO_one _ _ _ _ _)
  have nx := nz.setAll nl hnn
  have f5 := nx.frozen 5
  have f7 := nx.frozen 7
  have k5 := nx.cell 5 (.bool false) (by rw [HNL.out]; rfl)
  have k7 := nx.cell 7 (.bool false) (by rw [HNL.out]; rfl)
  obtain ⟨W5, hW5⟩ : ∃ W, W = ((W4.setCells w3.heap.size 0 nl).setCell ⟨w3.heap.size, 5, none⟩ (.bool true)).setCell ⟨w3.heap.size, 7, none⟩ (.bool true) := ⟨_, rfl⟩
  obtain ⟨ol, hol⟩ : ∃ ol, ol = (nl.set 5 (.bool true)).set 7 (.bool true) := ⟨_, rfl⟩
  have hot : ol = tokC (dint ds 13) card player (dint ds 14) := by rw [hol, HNL.out]; rfl
  have ox : Bx W5 w3.heap.size 47 ol := by rw [hW5, hol]; exact (nx.set 5 _).set 7 _
  have b5 : Below W2.heap.size W2 W5 := by
    rw [hW5]
    exact below_set (below_set (below_sets _ _ _ (b3.trans (b4.mono hs3)) _ hs3) _ _ _ hs3) _ _ _ hs3
  rw [hW4] at k5 k7 f5 f7
  obtain ⟨ρ5, s5, hnone5, hsame5⟩ := S2.out.new b5
  have st5 := ST2.out.old b5
  have hlo : ol.length = 19 := by rw [hol]; simp only [List.length_set]; exact hnn
  have rg5 := ox.range
  have rs5 := st5.range
  rw [hW5, hW4] at rg5 rs5
  have RG5 := Lib.hid rg5
  have RT5 := Lib.hid rs5
  have HIO := Lib.hid (show (Try.prog.info? 47).map (·.size) = some ol.length by rw [infoObject, hlo])
  have hb5 := b5.size
  have hmlt : w3.heap.size < W5.heap.size := ox.lt
  have HP := Lib.hid (put_prog ρ5 L W0.heap.size cs1 ds ol _ W5 s5 (by rw [hot]; exact tokC_rd _ _ _ _ _) (by have := HB.out; omega) (by omega))
  have ST5 := Lib.hid st5
  have RS5 := Lib.hid (RS2.out.old b5)
  have OX5 := Lib.hid ox
  have N5 := Lib.hid (show ρ5 w.heap.size = .none ∧ ρ5 (w.heap.size + 1) = .none ∧ ρ5 w3.heap.size = .none from ⟨(hsame5 _ (by omega)).trans N0.out, (hsame5 _ (by omega)).trans N1.out, hnone5 _ hs3⟩)
  have BEL5 := Lib.hid (BEL2.out.trans (b5.mono BEL2.out.size))
  have HS5 := Lib.hid (show w.heap.size + 2 ≤ w3.heap.size ∧ w3.heap.size < W5.heap.size ∧ W0.heap.size ≤ W5.heap.size by have := HB.out; omega)
  have HOT := Lib.hid hot
  have HW5 := Lib.hid (show W5 = _ by rw [hW5, hW4])
  clear b3 hnn hs2 hs3 hW4 nz b4 ht nx hW5 hol hot ox b5 s5 hnone5 hsame5 st5 hlo rg5 rs5 hb5 hmlt c13 c14
  go_wp2_with (first | ((with_reducible refine wpList_store_cs rfl 47 (.tmp 8) (.tmp 17) rfl w3.heap.size 0 nl ?_ ?_ THN.out HIN.out HON.out ?_); rfl; rfl) | ((with_reducible refine wpList_load_mid rfl 30 (.tmp 3) rfl w.heap.size 0 ?_ cs1 _ RT5.out Try.underlying30 rfl HI1.out ?_); rfl) | ((with_reducible refine wpList_load_mid rfl 47 (.tmp 8) rfl w3.heap.size 0 ?_ ol _ RG5.out Try.underlying47 rfl HIO.out ?_); rfl))
  rw [← HW5.out]
  refine HP.out.mono ?_
  rintro e w6 ⟨cs6, rfl, ρ6, s6, u6⟩
  have h5 := HS5.out
  have h6 := u6.size
  have st6 := ST5.out.same (u6.keep _ (by omega) (.inr (.inl N5.out.1)))
  have rs6 := RS5.out.same (u6.keep _ (by omega) (.inr (.inl N5.out.2.1)))
  have ox6 := OX5.out.same (u6.keep _ (by omega) (.inr (.inl N5.out.2.2)))
  have q0 : ρ6 w.heap.size = .none := (u6.role _ (by omega)).trans N5.out.1
  have q1 : ρ6 (w.heap.size + 1) = .none := (u6.role _ (by omega)).trans N5.out.2.1
  have q2 : ρ6 w3.heap.size = .none := (u6.role _ (by omega)).trans N5.out.2.2
  have hl6 := s6.len.1
  have hl61 : cs6.length = cs1.length := by rw [hl6, HLEN.out]
  obtain ⟨W7, hW7⟩ : ∃ W, W = w6.setCells w.heap.size 0 cs6 := ⟨_, rfl⟩
  have TH6 := Lib.hid (show w6.there w.heap.size 0 cs6.length by rw [hl61]; exact st6.there)
  have HI6 := Lib.hid (show (Try.prog.info? 30).map (·.size) = some cs6.length by rw [infoState, hl6])
  have HO6 := Lib.hid s6.rd.one
  have st7 : Bx W7 w.heap.size 30 cs6 := by rw [hW7]; exact st6.setAll cs6 hl61
  have rs7 : Bx W7 (w.heap.size + 1) 30 zsC := by rw [hW7]; exact rs6.same (heap_sets _ _ _ _ _ (by omega))
  have ox7 : Bx W7 w3.heap.size 47 ol := by rw [hW7]; exact ox6.same (heap_sets _ _ _ _ _ (by omega))
  have s7 : OwnS ρ6 (L + 128) W0.heap.size W7 cs6 (makeA ds card player) := by
    rw [hW7]
    exact s6.asides _ 0 cs6 q0
  have bel7 : Below w.heap.size w W7 := by rw [hW7]; exact below_sets _ _ _ (u6.below BEL5.out HB.out.2 (by omega)) _ (Nat.le_refl _)
  have hz7 : W7.heap.size = w6.heap.size := by rw [hW7]; exact sets_size _ _ _ _
  obtain ⟨W8, hW8⟩ : ∃ W, W = W7.alloc (.cells #[.int .i64 (dint ds 13)] 3) := ⟨_, rfl⟩
  have b8 : Below W7.heap.size W7 W8 := by rw [hW8]; exact (Below.refl _ _).alloc (Nat.le_refl _) _
  obtain ⟨ρ8, s8, hnone8, hsame8⟩ := s7.new b8
  have st8 := st7.old b8
  have ox8 := ox7.old b8
  obtain ⟨v2, A8⟩ := s8.atBox w.heap.size st8 ((hsame8 _ (by omega)).trans q0) 2 (by omega) (by omega) 0 0 rfl (fun _ => rfl)
  obtain ⟨r8, ow8⟩ := A8.own
  obtain ⟨es, row8, hes8⟩ := ow8.row
  have HBY := Lib.hid ow8.bytes
  have hel := hes8.len
  have c72 : W7.cell? ⟨w.heap.size, 2, none⟩ = some v2 := by
    have := A8.cell
    rw [World.cell?_of_block (b8.block _ (by show w.heap.size < _; omega))] at this
    exact this
  have co0 := ox7.cell 0 (.int .i64 (dint ds 13)) (by rw [HOT.out]; rfl)
  rw [hW7] at c72 co0
  have hcn : ∀ (j : Nat) (u : Value), ([.int .i64 (dint ds 13)] : List Value)[j]? = some u → W8.cell? (Addr.add ⟨W7.heap.size, 0, none⟩ j) = some u := fun j u hj => by
    rw [hW8, Addr.add_lit, Nat.zero_add]
    rw [cell_of_row _ _ j _ _ _ (heap_alloc_new W7 _)]
    rw [List.getElem?_toArray]
    exact hj
  have hby8 := ow8.bytes
  obtain ⟨zi, hEi⟩ := elemint
  have HEI := Lib.hid hEi
  have ROW8 := Lib.hid row8
  have HES8 := Lib.hid hes8
  have HEL := Lib.hid hel
  have HBG := Lib.hid (show (es.length + 1) * 8 ≤ 140737488355328 by omega)
  have HMX := Lib.hid (show es.length + 1 ≤ maxLen by simp only [maxLen]; omega)
  have HBS := Lib.hid (show W0.heap.size ≤ W8.heap.size by have := b8.size; omega)
  have HCN := Lib.hid hcn
  have HW8 := Lib.hid (show W8 = _ by rw [hW8, hW7])
  have HW7 := Lib.hid hW7
  have A8' := Lib.hid A8
  have S8' := Lib.hid s8
  have OX8 := Lib.hid ox8
  have ST8 := Lib.hid st8
  have C13 := Lib.hid (show cs6[13]? = some (.int .i64 (dint ds 13)) by have := (s8.rd.int 13 rfl).1; rw [show dint (makeA ds card player) 13 = dint ds 13 from dint_ne _ _ _ _ (by omega)] at this; exact this)
  have C14 := Lib.hid (show cs6[14]? = some (.int .i64 (dint ds 14)) by have := (s8.rd.int 14 rfl).1; rw [show dint (makeA ds card player) 14 = dint ds 14 from dint_ne _ _ _ _ (by omega)] at this; exact this)
  have HNB := Lib.hid (show ∀ b, ρ8 b = .none → v2.ownBlock ≠ some b from fun b hb => A8.nb b hb)
  have RS8 := Lib.hid (rs7.old b8)
  have N8 := Lib.hid (show ρ8 w.heap.size = .none ∧ ρ8 (w.heap.size + 1) = .none ∧ ρ8 w3.heap.size = .none from ⟨(hsame8 _ (by omega)).trans q0, (hsame8 _ (by omega)).trans q1, (hsame8 _ (by omega)).trans q2⟩)
  have BEL8 := Lib.hid (bel7.trans (b8.mono (by omega)))
  have HS8 := Lib.hid (show w.heap.size + 2 ≤ w3.heap.size ∧ w3.heap.size < W8.heap.size by have := b8.size; omega)
  have HZ7 := Lib.hid (show W7.heap.size = w6.heap.size by rw [hW7]; exact sets_size _ _ _ _)
  obtain ⟨p2, n2, k2, rfl⟩ := own_sl row8
  obtain ⟨hn2, _⟩ := own_cap row8
  subst hn2
  have ROWL := Lib.hid (show ((w6.setCells w.heap.size 0 cs6).alloc (.cells #[.int .i64 (dint ds 13)] 3)).ownsRow W0.heap.size 3 1 (.slice p2 es.length k2) es.length (es.flatMap Subtype.val) from by rw [← HW8.out]; exact ROW8.out)
  have HCNL := Lib.hid (show ∀ (j : Nat) (u : Value), ([.int .i64 (dint ds 13)] : List Value)[j]? = some u → ((w6.setCells w.heap.size 0 cs6).alloc (.cells #[.int .i64 (dint ds 13)] 3)).cell? (Addr.add ⟨(w6.setCells w.heap.size 0 cs6).heap.size, 0, none⟩ j) = some u from by rw [← HW8.out, ← HW7.out]; exact HCN.out)
  have HBSL := Lib.hid (show W0.heap.size ≤ ((w6.setCells w.heap.size 0 cs6).alloc (.cells #[.int .i64 (dint ds 13)] 3)).heap.size from by rw [← HW8.out]; exact HBS.out)
  clear h5 h6 st6 rs6 ox6 q0 q1 q2 hl6 hl61 st7 rs7 ox7 s7 bel7 hz7 b8 hnone8 hsame8 st8 ox8 ow8 row8 hes8 hel hcn hby8 hEi hW8 hW7 A8 s8 s6 u6
  go_wp2_with (first | ((with_reducible refine wpList_store_cs rfl 30 (.tmp 3) (.tmp 22) rfl w.heap.size 0 cs6 ?_ ?_ TH6.out HI6.out HO6.out ?_); rfl; rfl) | (at_builtin; refine wpList_append_own2 rfl (.tmp 24) (.tmp 27) 24 rfl W0.heap.size HEI.out (.slice p2 es.length k2) es.length (es.flatMap Subtype.val) rfl ROWL.out ⟨(w6.setCells w.heap.size 0 cs6).heap.size, 0, none⟩ 1 1 [.int .i64 (dint ds 13)] rfl rfl HCNL.out (fun u hu => by rw [List.mem_singleton.1 hu]; rfl) HMX.out HBG.out HBSL.out (by decide) ?_; intro v9 w9 own9 gr9 fr9; rw [← HW8.out] at gr9 fr9; obtain ⟨p9, n9, k9, rfl⟩ := own_sl own9; obtain ⟨ca9, fa9⟩ := A8'.out.there w9 gr9; have st9 := ST8.out.same (gr9.block _ (by have := HS8.out; omega) (fun e => HNB.out _ N8.out.1 e.symm)); have c13 := st9.cell 13 _ C13.out; have c14 := st9.cell 14 _ C14.out; have f13 := st9.frozen 13; have f14 := st9.frozen 14; have O9 := Lib.hid own9; have G9 := Lib.hid gr9; have F9 := Lib.hid fr9; clear own9 gr9 fr9 st9))
  obtain ⟨y, hy, hes9⟩ := snoc_es HES8.out (dint ds 13)
  have h8 := HS8.out
  obtain ⟨ρ9, cs9, s9, x9, hro, hno, hu⟩ := A8'.out.put w9 (L + 128 + 8) (.slice p9 n9 k9) (listT (makeA ds card player) 0 0 ++ [[dI (dint ds 13)]]) (by omega) G9.out ⟨es ++ [y], by
    rw [List.length_append, List.flatMap_append]
    have e : [y].flatMap Subtype.val = [.int .i64 (dint ds 13)] := by rw [List.flatMap_cons, hy]; rfl
    rw [e]
    exact O9.out, hes9.frame (by omega) (Nat.le_refl _) (fun _ _ _ => rfl) (fun _ h _ => h)⟩ (by rw [List.length_append]; have := HBY.out; simp only [List.length_singleton]; omega) (fun g hg => by
    rcases F9.out with e | e
    · exact .inl (by rw [← hg, e])
    · rw [e] at hg
      cases hg
      exact .inr (Nat.le_refl _))
  have s9 : OwnS ρ9 (L + 128 + 8) W0.heap.size _ cs9 (makeB ds card player) := s9
  have q0 : ρ9 w.heap.size = .none := (hro _ (by omega)).trans N8.out.1
  have q1 : ρ9 (w.heap.size + 1) = .none := (hro _ (by omega)).trans N8.out.2.1
  have s10 := (s9.aside w.heap.size 13 (.int .i64 (dint ds 13 + 1)) q0).setLit 13 (by omega) .int rfl (.int .i64 (dint ds 13 + 1)) ⟨_, rfl⟩
  have s11 := (s10.aside w.heap.size 14 (.int .i64 (dint ds 14 + 1)) q0).setLit 14 (by omega) .int rfl (.int .i64 (dint ds 14 + 1)) ⟨_, rfl⟩
  have x11 := (x9.set 13 (.int .i64 (dint ds 13 + 1))).set 14 (.int .i64 (dint ds 14 + 1))
  obtain ⟨cs11, hcs11⟩ : ∃ l, l = (cs9.set 13 (.int .i64 (dint ds 13 + 1))).set 14 (.int .i64 (dint ds 14 + 1)) := ⟨_, rfl⟩
  rw [← hcs11] at s11 x11
  have ox9 := OX8.out.same (hno _ (by omega) (by omega) N8.out.2.2)
  have rs9 := RS8.out.same (hno _ (by omega) (by omega) N8.out.2.1)
  have ox11 := (ox9.other 13 (.int .i64 (dint ds 13 + 1)) (show w.heap.size ≠ w3.heap.size by omega)).other 14 (.int .i64 (dint ds 14 + 1)) (show w.heap.size ≠ w3.heap.size by omega)
  have rs11 := (rs9.other 13 (.int .i64 (dint ds 13 + 1)) (show w.heap.size ≠ w.heap.size + 1 by omega)).other 14 (.int .i64 (dint ds 14 + 1)) (show w.heap.size ≠ w.heap.size + 1 by omega)
  have bel9 := (hu w.heap.size (by omega) (Nat.le_refl _)).below BEL8.out HB.out.2 (Nat.le_refl _)
  have bel11 := below_set (below_set bel9 w.heap.size 13 (.int .i64 (dint ds 13 + 1)) (Nat.le_refl _)) w.heap.size 14 (.int .i64 (dint ds 14 + 1)) (Nat.le_refl _)
  obtain ⟨W11, hW11⟩ : ∃ W, W = ((w9.setCell ⟨w.heap.size, 2, none⟩ (.slice p9 n9 k9)).setCell ⟨w.heap.size, 13, none⟩ (.int .i64 (dint ds 13 + 1))).setCell ⟨w.heap.size, 14, none⟩ (.int .i64 (dint ds 14 + 1)) := ⟨_, rfl⟩
  rw [← hW11] at s11 x11 ox11 rs11 bel11 ⊢
  have hl11 := s11.len.1
  have SS0 := Lib.hid (show Bx W11 w.heap.size 30 cs11 ∧ Bx W11 w3.heap.size 47 ol from ⟨x11, ox11⟩)
  have HI11 := Lib.hid (show (Try.prog.info? 30).map (·.size) = some cs11.length by rw [infoState, hl11])
  have TH11 := Lib.hid (show W11.drew.there (w.heap.size + 1) 0 cs11.length by rw [hl11]; exact rs11.drew.there)
  have HO11 := Lib.hid s11.rd.one
  have BE := Lib.hid (rs11.drew.setAll cs11 hl11)
  have SF := Lib.hid ((s11.old (Below.refl _ _).drew).asides (w.heap.size + 1) 0 cs11 q1)
  have BF := Lib.hid (below_sets cs11 0 W11.drew bel11.drew (w.heap.size + 1) (Nat.le_succ _))
  have SS1 := Lib.hid (show Bx (W11.drew.setCells (w.heap.size + 1) 0 cs11) w.heap.size 30 cs11 ∧ Bx (W11.drew.setCells (w.heap.size + 1) 0 cs11) w3.heap.size 47 ol from ⟨x11.drew.same (heap_sets _ _ _ _ _ (by omega)), ox11.drew.same (heap_sets _ _ _ _ _ (by omega))⟩)
  have HC0 := Lib.hid (show ol[0]? = some (.int .i64 (dint ds 13)) by rw [HOT.out]; rfl)
  clear hes9 hy h8 s9 x9 hro hno hu q0 q1 s10 s11 x11 hcs11 ox9 rs9 ox11 rs11 bel9 bel11 hW11 hl11 ca9 fa9 c13 c14 f13 f14
  refine wp_region_noPanic ?_
  refine wp_region_held_drew (S := fun wS => Bx wS w.heap.size 30 cs11 ∧ Bx wS w3.heap.size 47 ol) (by kernel_rfl) (SS0.out) (fun hHeld => ?_)
  refine wpAnyH_take (i := 0) (oi := ?oiK0x) (v := .agg cs11.toArray) ?hiK0x (by kernel_rfl) (by kernel_rfl) (by kernel_rfl) ?hqK0x ?hyK0x (by assumption) ?restK0x
  case hiK0x => (simp only [List.getElem?_toArray, List.getElem?_cons_zero] <;> rfl)
  case hqK0x => exact fun _ _ _ h => h
  case hyK0x => exact (yieldsIf_load_mid (by rfl) 30 (.tmp 3) rfl w.heap.size 0 (by simp [Act.eval]) cs11 _ (fun _ h => Bx.range h.1) Try.underlying30 rfl HI11.out)
  try simp only [Act.put, List.setIfInBounds_toArray, List.set_cons_zero, List.set_cons_succ]
  refine wpAnyH_take (i := 1) (oi := ?oiK1x) (v := ?vK1x) ?hiK1x (by kernel_rfl) (by kernel_rfl) (by kernel_rfl) ?hqK1x ?hyK1x (by assumption) ?restK1x
  case hiK1x => (simp only [List.getElem?_toArray, List.getElem?_cons_succ, List.getElem?_cons_zero] <;> rfl)
  case hqK1x => exact fun _ _ _ h => h
  case hyK1x => exact Or.inl ⟨by rfl, by (intro wS hSw; have s5 := Bx.cell hSw.2 0 _ HC0.out; go_simp; try with_reducible rfl)⟩
  try simp only [Act.put, List.setIfInBounds_toArray, List.set_cons_zero, List.set_cons_succ]
  refine wpAnyH_take (i := 2) (oi := ?oiK2x) (v := ?vK2x) ?hiK2x (by kernel_rfl) (by kernel_rfl) (by kernel_rfl) ?hqK2x ?hyK2x (by assumption) ?restK2x
  case hiK2x => (simp only [List.getElem?_toArray, List.getElem?_cons_succ, List.getElem?_cons_zero] <;> rfl)
  case hqK2x => exact fun _ _ _ h => h
  case hyK2x => exact Or.inl ⟨by rfl, by (intro wS hSw; have s5 := Bx.cell hSw.2 0 _ HC0.out; go_simp; try with_reducible rfl)⟩
  try simp only [Act.put, List.setIfInBounds_toArray, List.set_cons_zero, List.set_cons_succ]
  refine wpAnyH_ready (rs := [3]) (by kernel_rfl) (by simp) ?_
  refine AllReadyH.cons (o := ?oiK3x) ?hiK3x (fun K hK => ?hsK3x) AllReadyH.nil
  case hiK3x => (simp only [List.getElem?_toArray, List.getElem?_cons_succ, List.getElem?_cons_zero] <;> rfl)
  refine step_store_mid rfl 30 (.tmp 6) (.tmp 38) rfl (w.heap.size + 1) 0 cs11 (by simp [Act.eval]) (by simp [Act.eval]) TH11.out HI11.out HO11.out ?_
  refine hK.out _ _ SS1.out (fun hHeld3 => ?_)
  clear hK K
  try simp only [Act.put]
  refine wpAnyH_take (i := 4) (oi := ?oiK4x) (v := ?vK4x) ?hiK4x (by kernel_rfl) (by kernel_rfl) (by kernel_rfl) ?hqK4x ?hyK4x (by assumption) ?restK4x
  case hiK4x => (simp only [List.getElem?_toArray, List.getElem?_cons_succ, List.getElem?_cons_zero] <;> rfl)
  case hqK4x => exact fun _ _ _ h => h
  case hyK4x => exact Or.inl ⟨by rfl, by (intro wS hSw; have s5 := Bx.cell hSw.2 0 _ HC0.out; go_simp; try with_reducible rfl)⟩
  try simp only [Act.put, List.setIfInBounds_toArray, List.set_cons_zero, List.set_cons_succ]
  refine wpAnyH_done (by kernel_rfl) ?_ _
  refine NoPanic.normal ?_
  go_wp2_with fail
  refine bodyPost_ret (results_cs2 Try.results18 (w.heap.size + 1) ?_ (.int .i64 (dint ds 13)) ?_ cs11 _ (Bx.range BE.out) Try.underlying30 rfl HI11.out) rfl ?_
  · rfl
  · rfl
  · exact ⟨cs11, _, rfl, SF.out.rd, BF.out⟩
end Go.Proofs.Ytiebjkbofoppaaa
