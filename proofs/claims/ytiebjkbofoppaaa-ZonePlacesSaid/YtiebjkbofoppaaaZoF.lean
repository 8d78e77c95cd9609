/- Chapter 25: Move of the program. -/
import Derived.Test.YtiebjkbofoppaaaZoE
namespace Go.Proofs.Ytiebjkbofoppaaa
open Go Go.RowKit Go.Sort Cg
theorem below_grownBy {w w1 w2 : World} {r : Option Nat} (hb : Below w.heap.size w w1) (g : w1.grownBy w2 r) : w.grownBy w2 r :=
  ⟨g.os.trans hb.os, g.tape.trans hb.tape, g.output.trans hb.output, Nat.le_trans hb.size g.size, fun k hk hr => (g.block k (Nat.lt_of_lt_of_le hk hb.size) hr).trans (hb.block k hk)⟩
theorem step_append_own2 {P : Program} {ops : Array Oper} {o : Oper} {a : Act} {w : World} {K : Act → World → Prop} {Q : Exit → Act → World → Prop} {E : Prop} (hgd : o.guard = none) (s x : Operand) (t : TypeId)
    (ho : o.op = .call { callee := .builtin .append, args := #[s, x], argTypes := #[t, t] })
    (base : Nat) {e : TypeId} {z : Value} {k bytes : Nat} (hE : ElemIs P t e z k bytes)
    (v : Value) (n : Nat) (xs : List Value) (hs : a.eval s = v) (hown : w.ownsRow base e k v n xs)
    (ad : Addr) (m c : Nat) (news : List Value) (hx : a.eval x = .slice (some ad) m c) (hl : news.length = m * k) (hnews : ∀ j u, news[j]? = some u → w.cell? (ad.add j) = some u) (h1 : ∀ u ∈ news, u.oneCell' = true)
    (h63 : n + m ≤ maxLen) (hbytes : (n + m) * bytes ≤ 140737488355328) (hbase : base ≤ w.heap.size) (hm : 0 < m)
    (h : ∀ v' w', w'.ownsRow base e k v' (n + m) (xs ++ news) → w.grownBy w' v.ownBlock → (v'.ownBlock = v.ownBlock ∨ v'.ownBlock = some w.heap.size) → K (a.put o.dst v') w') :
    if Region.wanted o (yielded ops a.tmps) = true then Oper.wp P o a w K Q else E := by
  have hw : Region.wanted o (yielded ops a.tmps) = true := by simp [Region.wanted, hgd]
  rw [if_pos hw]
  obtain ⟨v', w', hr, h2, h3, h4⟩ := run_append_own2 w base t o.type e hE v n xs hown ad m c news hl hnews h1 h63 hbytes hbase hm
  exact Lib.wp_append_run w s x t t ho v _ hs hx v' w' hr (h v' w' h2 h3 h4)
def mvR (ds : List D) (id : Int) : List D := removeT ds (findO id (dxs ds 1))
def mvC (ds : List D) (id z control : Int) : List Value := movedC (findO id (dxs ds 1)) (dint ds 13) z control (dint ds 14)
def mvP (ds : List D) (id z control : Int) : List D := putT (mvR ds id) ((mvC ds id z control).map .lit)
def mvN (ds : List D) (id z control : Int) : List D := ((mvP ds id z control).set 13 (dI (dint ds 13 + 1))).set 14 (dI (dint ds 14 + 1))
def mvO (ds : List D) (id : Int) : Int := dint (findO id (dxs ds 1)) 2
def mvL (ds : List D) (id z control : Int) (bottom : Bool) : List D := setT (mvN ds id z control) z (mvO ds id) (if (z == 2 && !bottom) = true then [dI (dint ds 13)] :: listT (mvN ds id z control) z (mvO ds id) else listT (mvN ds id z control) z (mvO ds id) ++ [[dI (dint ds 13)]])
def moveT (ds : List D) (id z control : Int) (bottom : Bool) : List D × Int :=
  if hasO id (dxs ds 1) = true ∧ 0 ≤ z ∧ z ≤ 5 then
    if dbool (findO id (dxs ds 1)) 5 = true ∧ z ≠ 0 ∧ z ≠ 5 then (mvR ds id, 0) else (mvL ds id z control bottom, dint ds 13)
  else (ds, 0)
theorem setT_keep (ds : List D) (z p : Int) (l : List (List D)) (c : Nat) (hc : 5 ≤ c) : (setT ds z p l)[c]? = ds[c]? := by
  unfold setT
  split
  · rw [List.getElem?_set_ne (by omega)]
  split
  · rw [List.getElem?_set_ne (by omega)]
  split
  · rfl
  split
  · rw [List.getElem?_set_ne (by omega)]
  · rfl
theorem removeT_keep (ds od : List D) (c : Nat) (hc : 5 ≤ c) : (removeT ds od)[c]? = ds[c]? := by
  unfold removeT remC remB
  rw [List.getElem?_set_ne (by omega), setT_keep _ _ _ _ c hc]
  unfold remA
  rw [List.getElem?_set_ne (by omega)]
theorem dint_of {ds ds' : List D} {c : Nat} (h : ds[c]? = ds'[c]?) : dint ds c = dint ds' c := by unfold dint; rw [h]
theorem cons_es {F : Nat → Prop} {L : Nat} {w : World} {es : List (Cl 1)} {xs : List (List D)} (h : Es F L w (kI 1) es xs) (n : Int) : ∃ y : Cl 1, y.1 = [.int .i64 n] ∧ Es F L w (kI 1) (y :: es) ([dI n] :: xs) := by
  refine ⟨⟨[.int .i64 n], rfl, fun u hu => by rw [List.mem_singleton.1 hu]; rfl⟩, rfl, ?_⟩
  have := es_ins h 0 ⟨[.int .i64 n], rfl, fun u hu => by rw [List.mem_singleton.1 hu]; rfl⟩ [dI n] (.cons (.lit ⟨n, rfl⟩) .nil)
  simpa using this
theorem listPtr5 (b : Nat) (ao : Option Addr) (n : Nat) (p : Int) : listPtr b ao n 5 p = none := by
  unfold listPtr
  simp only [show ((5 : Int) == 0) = false from rfl, show ((5 : Int) == 4) = false from rfl, show ((5 : Int) == 1) = false from rfl, show ((5 : Int) == 2) = false from rfl, show ((5 : Int) == 3) = false from rfl, Bool.false_eq_true, if_false]
  split
  · rfl
  split <;> rfl
set_option maxRecDepth 100000 in
set_option maxHeartbeats 8000000 in
theorem move_prog (F : Nat → Prop) (L : Nat) (cs : List Value) (ds : List D) (id z control : Int) (bottom : Bool) (w : World) (h : RdL F L w kState cs ds) (hL : L + 136 ≤ 140737488355328) (h13 : IntKind.i64.wrap (dint ds 13 + 1) = dint ds 13 + 1) (h14 : IntKind.i64.wrap (dint ds 14 + 1) = dint ds 14 + 1) :
    Calls Try.prog 15 #[.agg cs.toArray, .int .i64 id, .int .i64 z, .int .i64 control, .bool bottom] w fun e w' => ∃ cs' F', e = .returned (.tuple #[.agg cs'.toArray, .int .i64 (moveT ds id z control bottom).2]) ∧ RdL F' (L + 128 + 8) w' kState cs' (moveT ds id z control bottom).1 ∧ Below w.heap.size w w' := by
  have hl := h.len.1
  rw [kState_len] at hl
  obtain ⟨W0, hW0⟩ : ∃ W, W = (w.alloc (.cells cs.toArray 30)).alloc (.cells #[.slice none 0 0, .slice none 0 0, .slice none 0 0, .slice none 0 0, .slice none 0 0, .slice none 0 0, .slice none 0 0, .int .i64 0, .int .i64 0, .int .i64 0, .bool false, .int .i64 0, .int .i64 0, .int .i64 0, .int .i64 0, .int .u64 0, .slice none 0 0, .int .i64 0, .int .i64 0] 30) := ⟨_, rfl⟩
  have X : Bx2 w W0 cs := by rw [hW0]; exact bx2 w cs
  have HR := Lib.hid (show RdL (fun b => F b ∧ b < w.heap.size) L W0 kState cs ds from (h.imp (fun b hF hlt => ⟨hF, hlt⟩)).old X.bel)
  have HF := Lib.hid (find_prog _ L cs ds id W0 HR.out (by omega))
  have RG := Lib.hid (show ((w.alloc (.cells cs.toArray 30)).alloc (.cells #[.slice none 0 0, .slice none 0 0, .slice none 0 0, .slice none 0 0, .slice none 0 0, .slice none 0 0, .slice none 0 0, .int .i64 0, .int .i64 0, .int .i64 0, .bool false, .int .i64 0, .int .i64 0, .int .i64 0, .int .i64 0, .int .u64 0, .slice none 0 0, .int .i64 0, .int .i64 0] 30)).rangeAt w.heap.size 0 cs from (by have := X.st.range; rw [hW0] at this; exact this))
  have HI := Lib.hid (show (Try.prog.info? 30).map (·.size) = some cs.length by rw [infoState, hl])
  have XX := Lib.hid X
  have HW0 := Lib.hid hW0
  have HLN := Lib.hid hl
  clear hW0 X h hl
  cases hh : hasO id (dxs ds 1)
  · rw [hh] at HF
    have hmv : moveT ds id z control bottom = (ds, 0) := by unfold moveT; rw [if_neg (fun hx => by rw [hh] at hx; cases hx.1)]
    rw [hmv]
    clear hmv
    go_enter Try.func15, Try.ntmps15
    go_wp2_with ((with_reducible refine wpList_load_mid rfl 30 (.tmp 5) rfl w.heap.size 0 ?_ cs _ RG.out Try.underlying30 rfl HI.out ?_); rfl)
    rw [← HW0.out]
    refine HF.out.mono ?_
    rintro e w1 ⟨oc, rfl, ro, b1⟩
    have hs0 := XX.out.size
    have hb1 := b1.size
    have hol := ro.len.1
    rw [kObject_len] at hol
    obtain ⟨W1, hW1⟩ : ∃ W, W = w1.alloc (.cells #[.int .i64 0, .int .i64 0, .int .i64 0, .int .i64 0, .int .i64 0, .bool false, .bool false, .bool false, .bool false, .int .i64 0, .int .i64 0, .int .i64 0, .int .i64 0, .int .i64 0, .int .i64 0, .int .i64 0, .bool false, .int .i64 0, .int .i64 0] 47) := ⟨_, rfl⟩
    have oz : Bx W1 w1.heap.size 47 zObjC.1 := by rw [hW1]; exact Bx.new w1 zObjC.1 _
    have ht := oz.there
    have hz19 : zObjC.1.length = oc.length := by rw [hol]; rfl
    rw [hz19, hW1] at ht
    have THO := Lib.hid ht
    have HIO := Lib.hid (show (Try.prog.info? 47).map (·.size) = some oc.length by rw [infoObject, hol])
    have HOO := Lib.hid ro.one
    obtain ⟨W2, hW2⟩ : ∃ W, W = W1.setCells w1.heap.size 0 oc := ⟨_, rfl⟩
    have ox2 : Bx W2 w1.heap.size 47 oc := by rw [hW2]; exact oz.setAll oc hz19.symm
    have bb : Below W0.heap.size W0 W2 := by
      rw [hW2]
      exact below_sets _ _ _ (b1.trans (show Below W0.heap.size w1 W1 by rw [hW1]; exact (Below.refl _ _).alloc hb1 _)) _ hb1
    have st2 := XX.out.st.old bb
    have rg2 := st2.range
    rw [hW2, hW1] at rg2
    have RG2 := Lib.hid rg2
    have hb2 := bb.size
    have hm1 : w1.heap.size < W2.heap.size := ox2.lt
    have HC := Lib.hid (copy_prog _ L cs ds W2 (HR.out.old bb) (by omega))
    have ST2 := Lib.hid st2
    have RS2 := Lib.hid (XX.out.rs.old bb)
    have OX2 := Lib.hid ox2
    have RO := Lib.hid ro
    have BEL2 := Lib.hid (XX.out.bel.trans (bb.mono XX.out.bel.size))
    have HS2 := Lib.hid (show w.heap.size + 2 ≤ w1.heap.size ∧ w1.heap.size < W2.heap.size by omega)
    have HW2 := Lib.hid (show W2 = _ by rw [hW2, hW1])
    clear hs0 hb1 b1 hol hW1 oz ht hz19 hW2 ox2 bb st2 rg2 hb2 hm1 ro
    go_wp2_with (first | ((with_reducible refine wpList_store_cs rfl 47 (.tmp 12) (.tmp 20) rfl w1.heap.size 0 oc ?_ ?_ THO.out HIO.out HOO.out ?_); rfl; rfl) | ((with_reducible refine wpList_load_mid rfl 30 (.tmp 5) rfl w.heap.size 0 ?_ cs _ RG2.out Try.underlying30 rfl HI.out ?_); rfl))
    rw [← HW2.out]
    refine HC.out.mono ?_
    rintro e w3 ⟨cs3, rfl, ⟨ρ3, s3, hn3⟩, b3⟩
    have h2 := HS2.out
    have hb3 := b3.size
    have st3 := ST2.out.old b3
    have hl3 := s3.len.1
    have hl31 : cs3.length = cs.length := by rw [hl3, HLN.out]
    obtain ⟨W4, hW4⟩ : ∃ W, W = w3.setCells w.heap.size 0 cs3 := ⟨_, rfl⟩
    have TH3 := Lib.hid (show w3.there w.heap.size 0 cs3.length by rw [hl31]; exact st3.there)
    have HI3 := Lib.hid (show (Try.prog.info? 30).map (·.size) = some cs3.length by rw [infoState, hl3])
    have HO3 := Lib.hid s3.rd.one
    have n0 : ρ3 w.heap.size = .none := hn3 _ (by omega) (fun hF => by have := hF.2; omega)
    have n1 : ρ3 (w.heap.size + 1) = .none := hn3 _ (by omega) (fun hF => by have := hF.2; omega)
    have n2 : ρ3 w1.heap.size = .none := hn3 _ (by omega) (fun hF => by have := hF.2; omega)
    have ST4 := Lib.hid (show Bx W4 w.heap.size 30 cs3 by rw [hW4]; exact st3.setAll cs3 hl31)
    have RS4 := Lib.hid (show Bx W4 (w.heap.size + 1) 30 zsC by rw [hW4]; exact (RS2.out.old b3).same (heap_sets _ _ _ _ _ (by omega)))
    have OX4 := Lib.hid (show Bx W4 w1.heap.size 47 oc by rw [hW4]; exact (OX2.out.old b3).same (heap_sets _ _ _ _ _ (by omega)))
    have S4 := Lib.hid (show OwnS ρ3 L W2.heap.size W4 cs3 ds by rw [hW4]; exact s3.asides _ 0 cs3 n0)
    have BEL4 := Lib.hid (show Below w.heap.size w W4 by rw [hW4]; exact below_sets _ _ _ (BEL2.out.trans (b3.mono (by omega))) _ (Nat.le_refl _))
    have N4 := Lib.hid (show ρ3 w.heap.size = .none ∧ ρ3 (w.heap.size + 1) = .none ∧ ρ3 w1.heap.size = .none from ⟨n0, n1, n2⟩)
    have HS4 := Lib.hid (show w.heap.size + 2 ≤ w1.heap.size ∧ w1.heap.size < W4.heap.size ∧ W2.heap.size ≤ W4.heap.size ∧ w.heap.size ≤ W2.heap.size by rw [hW4, sets_size]; omega)
    have HL3 := Lib.hid hl3
    have rg4 := ST4.out.range
    rw [hW4] at rg4
    have RG4 := Lib.hid rg4
    have HW4 := Lib.hid hW4
    clear h2 hb3 st3 hl3 hl31 n0 n1 n2 rg4 s3 hn3 b3 hW4
    have th4 : W4.there (w.heap.size + 1) 0 cs3.length := by rw [HL3.out]; exact RS4.out.there
    rw [HW4.out] at th4
    have TH4 := Lib.hid th4
    have BE := Lib.hid (RS4.out.setAll cs3 HL3.out)
    clear th4
    go_wp2_with (first | ((with_reducible refine wpList_store_cs rfl 30 (.tmp 5) (.tmp 23) rfl w.heap.size 0 cs3 ?_ ?_ TH3.out HI3.out HO3.out ?_); rfl; rfl) | ((with_reducible refine wpList_load_mid rfl 30 (.tmp 5) rfl w.heap.size 0 ?_ cs3 _ RG4.out Try.underlying30 rfl HI3.out ?_); rfl) | ((with_reducible refine wpList_store_cs rfl 30 (.tmp 10) (.tmp 34) rfl (w.heap.size + 1) 0 cs3 ?_ ?_ TH4.out HI3.out HO3.out ?_); rfl; rfl))
    rw [← HW4.out]
    refine bodyPost_ret (results_cs2 Try.results15 (w.heap.size + 1) ?_ (.int .i64 0) ?_ cs3 _ (Bx.range BE.out) Try.underlying30 rfl HI3.out) rfl ?_
    · rfl
    · rfl
    · exact ⟨cs3, _, rfl, ((S4.out.asides _ 0 cs3 N4.out.2.1).rd).frame (by omega) (Nat.le_refl _) (fun _ _ _ => rfl) (fun _ h _ => h), below_sets _ _ _ BEL4.out _ (Nat.le_succ _)⟩
  · rw [hh] at HF
    by_cases hz0 : z < 0
    · have hz0d : decide (z < 0) = true := decide_eq_true hz0
      have hmv : moveT ds id z control bottom = (ds, 0) := by unfold moveT; rw [if_neg (fun hx => by have := hx.2.1; omega)]
      rw [hmv]
      clear hmv
      go_enter Try.func15, Try.ntmps15
      go_wp2_with ((with_reducible refine wpList_load_mid rfl 30 (.tmp 5) rfl w.heap.size 0 ?_ cs _ RG.out Try.underlying30 rfl HI.out ?_); rfl)
      rw [← HW0.out]
      refine HF.out.mono ?_
      rintro e w1 ⟨oc, rfl, ro, b1⟩
      have hs0 := XX.out.size
      have hb1 := b1.size
      have hol := ro.len.1
      rw [kObject_len] at hol
      obtain ⟨W1, hW1⟩ : ∃ W, W = w1.alloc (.cells #[.int .i64 0, .int .i64 0, .int .i64 0, .int .i64 0, .int .i64 0, .bool false, .bool false, .bool false, .bool false, .int .i64 0, .int .i64 0, .int .i64 0, .int .i64 0, .int .i64 0, .int .i64 0, .int .i64 0, .bool false, .int .i64 0, .int .i64 0] 47) := ⟨_, rfl⟩
      have oz : Bx W1 w1.heap.size 47 zObjC.1 := by rw [hW1]; exact Bx.new w1 zObjC.1 _
      have ht := oz.there
      have hz19 : zObjC.1.length = oc.length := by rw [hol]; rfl
      rw [hz19, hW1] at ht
      have THO := Lib.hid ht
      have HIO := Lib.hid (show (Try.prog.info? 47).map (·.size) = some oc.length by rw [infoObject, hol])
      have HOO := Lib.hid ro.one
      obtain ⟨W2, hW2⟩ : ∃ W, W = W1.setCells w1.heap.size 0 oc := ⟨_, rfl⟩
      have ox2 : Bx W2 w1.heap.size 47 oc := by rw [hW2]; exact oz.setAll oc hz19.symm
      have bb : Below W0.heap.size W0 W2 := by
        rw [hW2]
        exact below_sets _ _ _ (b1.trans (show Below W0.heap.size w1 W1 by rw [hW1]; exact (Below.refl _ _).alloc hb1 _)) _ hb1
      have st2 := XX.out.st.old bb
      have rg2 := st2.range
      rw [hW2, hW1] at rg2
      have RG2 := Lib.hid rg2
      have hb2 := bb.size
      have hm1 : w1.heap.size < W2.heap.size := ox2.lt
      have HC := Lib.hid (copy_prog _ L cs ds W2 (HR.out.old bb) (by omega))
      have ST2 := Lib.hid st2
      have RS2 := Lib.hid (XX.out.rs.old bb)
      have OX2 := Lib.hid ox2
      have RO := Lib.hid ro
      have BEL2 := Lib.hid (XX.out.bel.trans (bb.mono XX.out.bel.size))
      have HS2 := Lib.hid (show w.heap.size + 2 ≤ w1.heap.size ∧ w1.heap.size < W2.heap.size by omega)
      have HW2 := Lib.hid (show W2 = _ by rw [hW2, hW1])
      clear hs0 hb1 b1 hol hW1 oz ht hz19 hW2 ox2 bb st2 rg2 hb2 hm1 ro
      go_wp2_with (first | ((with_reducible refine wpList_store_cs rfl 47 (.tmp 12) (.tmp 20) rfl w1.heap.size 0 oc ?_ ?_ THO.out HIO.out HOO.out ?_); rfl; rfl) | ((with_reducible refine wpList_load_mid rfl 30 (.tmp 5) rfl w.heap.size 0 ?_ cs _ RG2.out Try.underlying30 rfl HI.out ?_); rfl))
      rw [← HW2.out]
      refine HC.out.mono ?_
      rintro e w3 ⟨cs3, rfl, ⟨ρ3, s3, hn3⟩, b3⟩
      have h2 := HS2.out
      have hb3 := b3.size
      have st3 := ST2.out.old b3
      have hl3 := s3.len.1
      have hl31 : cs3.length = cs.length := by rw [hl3, HLN.out]
      obtain ⟨W4, hW4⟩ : ∃ W, W = w3.setCells w.heap.size 0 cs3 := ⟨_, rfl⟩
      have TH3 := Lib.hid (show w3.there w.heap.size 0 cs3.length by rw [hl31]; exact st3.there)
      have HI3 := Lib.hid (show (Try.prog.info? 30).map (·.size) = some cs3.length by rw [infoState, hl3])
      have HO3 := Lib.hid s3.rd.one
      have n0 : ρ3 w.heap.size = .none := hn3 _ (by omega) (fun hF => by have := hF.2; omega)
      have n1 : ρ3 (w.heap.size + 1) = .none := hn3 _ (by omega) (fun hF => by have := hF.2; omega)
      have n2 : ρ3 w1.heap.size = .none := hn3 _ (by omega) (fun hF => by have := hF.2; omega)
      have ST4 := Lib.hid (show Bx W4 w.heap.size 30 cs3 by rw [hW4]; exact st3.setAll cs3 hl31)
      have RS4 := Lib.hid (show Bx W4 (w.heap.size + 1) 30 zsC by rw [hW4]; exact (RS2.out.old b3).same (heap_sets _ _ _ _ _ (by omega)))
      have OX4 := Lib.hid (show Bx W4 w1.heap.size 47 oc by rw [hW4]; exact (OX2.out.old b3).same (heap_sets _ _ _ _ _ (by omega)))
      have S4 := Lib.hid (show OwnS ρ3 L W2.heap.size W4 cs3 ds by rw [hW4]; exact s3.asides _ 0 cs3 n0)
      have BEL4 := Lib.hid (show Below w.heap.size w W4 by rw [hW4]; exact below_sets _ _ _ (BEL2.out.trans (b3.mono (by omega))) _ (Nat.le_refl _))
      have N4 := Lib.hid (show ρ3 w.heap.size = .none ∧ ρ3 (w.heap.size + 1) = .none ∧ ρ3 w1.heap.size = .none from ⟨n0, n1, n2⟩)
      have HS4 := Lib.hid (show w.heap.size + 2 ≤ w1.heap.size ∧ w1.heap.size < W4.heap.size ∧ W2.heap.size ≤ W4.heap.size ∧ w.heap.size ≤ W2.heap.size by rw [hW4, sets_size]; omega)
      have HL3 := Lib.hid hl3
      have rg4 := ST4.out.range
      rw [hW4] at rg4
      have RG4 := Lib.hid rg4
      have HW4 := Lib.hid hW4
      clear h2 hb3 st3 hl3 hl31 n0 n1 n2 rg4 s3 hn3 b3 hW4
      have th4 : W4.there (w.heap.size + 1) 0 cs3.length := by rw [HL3.out]; exact RS4.out.there
      rw [HW4.out] at th4
      have TH4 := Lib.hid th4
      have BE := Lib.hid (RS4.out.setAll cs3 HL3.out)
      clear th4
      go_wp2_with (first | ((with_reducible refine wpList_store_cs rfl 30 (.tmp 5) (.tmp 23) rfl w.heap.size 0 cs3 ?_ ?_ TH3.out HI3.out HO3.out ?_); rfl; rfl) | ((with_reducible refine wpList_load_mid rfl 30 (.tmp 5) rfl w.heap.size 0 ?_ cs3 _ RG4.out Try.underlying30 rfl HI3.out ?_); rfl) | ((with_reducible refine wpList_store_cs rfl 30 (.tmp 10) (.tmp 34) rfl (w.heap.size + 1) 0 cs3 ?_ ?_ TH4.out HI3.out HO3.out ?_); rfl; rfl))
      rw [← HW4.out]
      refine bodyPost_ret (results_cs2 Try.results15 (w.heap.size + 1) ?_ (.int .i64 0) ?_ cs3 _ (Bx.range BE.out) Try.underlying30 rfl HI3.out) rfl ?_
      · rfl
      · rfl
      · exact ⟨cs3, _, rfl, ((S4.out.asides _ 0 cs3 N4.out.2.1).rd).frame (by omega) (Nat.le_refl _) (fun _ _ _ => rfl) (fun _ h _ => h), below_sets _ _ _ BEL4.out _ (Nat.le_succ _)⟩
    · by_cases hz5 : 5 < z
      · have hmv : moveT ds id z control bottom = (ds, 0) := by unfold moveT; rw [if_neg (fun hx => by have := hx.2.2; omega)]
        rw [hmv]
        clear hmv
        go_enter Try.func15, Try.ntmps15
        go_wp2_with ((with_reducible refine wpList_load_mid rfl 30 (.tmp 5) rfl w.heap.size 0 ?_ cs _ RG.out Try.underlying30 rfl HI.out ?_); rfl)
        rw [← HW0.out]
        refine HF.out.mono ?_
        rintro e w1 ⟨oc, rfl, ro, b1⟩
        have hs0 := XX.out.size
        have hb1 := b1.size
        have hol := ro.len.1
        rw [kObject_len] at hol
        obtain ⟨W1, hW1⟩ : ∃ W, W = w1.alloc (.cells #[.int .i64 0, .int .i64 0, .int .i64 0, .int .i64 0, .int .i64 0, .bool false, .bool false, .bool false, .bool false, .int .i64 0, .int .i64 0, .int .i64 0, .int .i64 0, .int .i64 0, .int .i64 0, .int .i64 0, .bool false, .int .i64 0, .int .i64 0] 47) := ⟨_, rfl⟩
        have oz : Bx W1 w1.heap.size 47 zObjC.1 := by rw [hW1]; exact Bx.new w1 zObjC.1 _
        have ht := oz.there
        have hz19 : zObjC.1.length = oc.length := by rw [hol]; rfl
        rw [hz19, hW1] at ht
        have THO := Lib.hid ht
        have HIO := Lib.hid (show (Try.prog.info? 47).map (·.size) = some oc.length by rw [infoObject, hol])
        have HOO := Lib.hid ro.one
        obtain ⟨W2, hW2⟩ : ∃ W, W = W1.setCells w1.heap.size 0 oc := ⟨_, rfl⟩
        have ox2 : Bx W2 w1.heap.size 47 oc := by rw [hW2]; exact oz.setAll oc hz19.symm
        have bb : Below W0.heap.size W0 W2 := by
          rw [hW2]
          exact below_sets _ _ _ (b1.trans (show Below W0.heap.size w1 W1 by rw [hW1]; exact (Below.refl _ _).alloc hb1 _)) _ hb1
        have st2 := XX.out.st.old bb
        have rg2 := st2.range
        rw [hW2, hW1] at rg2
        have RG2 := Lib.hid rg2
        have hb2 := bb.size
        have hm1 : w1.heap.size < W2.heap.size := ox2.lt
        have HC := Lib.hid (copy_prog _ L cs ds W2 (HR.out.old bb) (by omega))
        have ST2 := Lib.hid st2
        have RS2 := Lib.hid (XX.out.rs.old bb)
        have OX2 := Lib.hid ox2
        have RO := Lib.hid ro
        have BEL2 := Lib.hid (XX.out.bel.trans (bb.mono XX.out.bel.size))
        have HS2 := Lib.hid (show w.heap.size + 2 ≤ w1.heap.size ∧ w1.heap.size < W2.heap.size by omega)
        have HW2 := Lib.hid (show W2 = _ by rw [hW2, hW1])
        clear hs0 hb1 b1 hol hW1 oz ht hz19 hW2 ox2 bb st2 rg2 hb2 hm1 ro
        go_wp2_with (first | ((with_reducible refine wpList_store_cs rfl 47 (.tmp 12) (.tmp 20) rfl w1.heap.size 0 oc ?_ ?_ THO.out HIO.out HOO.out ?_); rfl; rfl) | ((with_reducible refine wpList_load_mid rfl 30 (.tmp 5) rfl w.heap.size 0 ?_ cs _ RG2.out Try.underlying30 rfl HI.out ?_); rfl))
        rw [← HW2.out]
        refine HC.out.mono ?_
        rintro e w3 ⟨cs3, rfl, ⟨ρ3, s3, hn3⟩, b3⟩
        have h2 := HS2.out
        have hb3 := b3.size
        have st3 := ST2.out.old b3
        have hl3 := s3.len.1
        have hl31 : cs3.length = cs.length := by rw [hl3, HLN.out]
        obtain ⟨W4, hW4⟩ : ∃ W, W = w3.setCells w.heap.size 0 cs3 := ⟨_, rfl⟩
        have TH3 := Lib.hid (show w3.there w.heap.size 0 cs3.length by rw [hl31]; exact st3.there)
        have HI3 := Lib.hid (show (Try.prog.info? 30).map (·.size) = some cs3.length by rw [infoState, hl3])
        have HO3 := Lib.hid s3.rd.one
        have n0 : ρ3 w.heap.size = .none := hn3 _ (by omega) (fun hF => by have := hF.2; omega)
        have n1 : ρ3 (w.heap.size + 1) = .none := hn3 _ (by omega) (fun hF => by have := hF.2; omega)
        have n2 : ρ3 w1.heap.size = .none := hn3 _ (by omega) (fun hF => by have := hF.2; omega)
        have ST4 := Lib.hid (show Bx W4 w.heap.size 30 cs3 by rw [hW4]; exact st3.setAll cs3 hl31)
        have RS4 := Lib.hid (show Bx W4 (w.heap.size + 1) 30 zsC by rw [hW4]; exact (RS2.out.old b3).same (heap_sets _ _ _ _ _ (by omega)))
        have OX4 := Lib.hid (show Bx W4 w1.heap.size 47 oc by rw [hW4]; exact (OX2.out.old b3).same (heap_sets _ _ _ _ _ (by omega)))
        have S4 := Lib.hid (show OwnS ρ3 L W2.heap.size W4 cs3 ds by rw [hW4]; exact s3.asides _ 0 cs3 n0)
        have BEL4 := Lib.hid (show Below w.heap.size w W4 by rw [hW4]; exact below_sets _ _ _ (BEL2.out.trans (b3.mono (by omega))) _ (Nat.le_refl _))
        have N4 := Lib.hid (show ρ3 w.heap.size = .none ∧ ρ3 (w.heap.size + 1) = .none ∧ ρ3 w1.heap.size = .none from ⟨n0, n1, n2⟩)
        have HS4 := Lib.hid (show w.heap.size + 2 ≤ w1.heap.size ∧ w1.heap.size < W4.heap.size ∧ W2.heap.size ≤ W4.heap.size ∧ w.heap.size ≤ W2.heap.size by rw [hW4, sets_size]; omega)
        have HL3 := Lib.hid hl3
        have rg4 := ST4.out.range
        rw [hW4] at rg4
        have RG4 := Lib.hid rg4
        have HW4 := Lib.hid hW4
        clear h2 hb3 st3 hl3 hl31 n0 n1 n2 rg4 s3 hn3 b3 hW4
        have th4 : W4.there (w.heap.size + 1) 0 cs3.length := by rw [HL3.out]; exact RS4.out.there
        rw [HW4.out] at th4
        have TH4 := Lib.hid th4
        have BE := Lib.hid (RS4.out.setAll cs3 HL3.out)
        clear th4
        go_wp2_with (first | ((with_reducible refine wpList_store_cs rfl 30 (.tmp 5) (.tmp 23) rfl w.heap.size 0 cs3 ?_ ?_ TH3.out HI3.out HO3.out ?_); rfl; rfl) | ((with_reducible refine wpList_load_mid rfl 30 (.tmp 5) rfl w.heap.size 0 ?_ cs3 _ RG4.out Try.underlying30 rfl HI3.out ?_); rfl) | ((with_reducible refine wpList_store_cs rfl 30 (.tmp 10) (.tmp 34) rfl (w.heap.size + 1) 0 cs3 ?_ ?_ TH4.out HI3.out HO3.out ?_); rfl; rfl))
        rw [← HW4.out]
        refine bodyPost_ret (results_cs2 Try.results15 (w.heap.size + 1) ?_ (.int .i64 0) ?_ cs3 _ (Bx.range BE.out) Try.underlying30 rfl HI3.out) rfl ?_
        · rfl
        · rfl
        · exact ⟨cs3, _, rfl, ((S4.out.asides _ 0 cs3 N4.out.2.1).rd).frame (by omega) (Nat.le_refl _) (fun _ _ _ => rfl) (fun _ h _ => h), below_sets _ _ _ BEL4.out _ (Nat.le_succ _)⟩
      · cases ht : dbool (findO id (dxs ds 1)) 5
        · have hmv : moveT ds id z control bottom = (mvL ds id z control bottom, dint ds 13) := by unfold moveT; rw [if_pos ⟨hh, by omega, by omega⟩, if_neg (fun hx => by rw [ht] at hx; cases hx.1)]
          rw [hmv]
          dsimp only
          clear hmv
          go_enter Try.func15, Try.ntmps15
          go_wp2_with ((with_reducible refine wpList_load_mid rfl 30 (.tmp 5) rfl w.heap.size 0 ?_ cs _ RG.out Try.underlying30 rfl HI.out ?_); rfl)
          rw [← HW0.out]
          refine HF.out.mono ?_
          rintro e w1 ⟨oc, rfl, ro, b1⟩
          have hs0 := XX.out.size
          have hb1 := b1.size
          have hol := ro.len.1
          rw [kObject_len] at hol
          obtain ⟨W1, hW1⟩ : ∃ W, W = w1.alloc (.cells #[.int .i64 0, .int .i64 0, .int .i64 0, .int .i64 0, .int .i64 0, .bool false, .bool false, .bool false, .bool false, .int .i64 0, .int .i64 0, .int .i64 0, .int .i64 0, .int .i64 0, .int .i64 0, .int .i64 0, .bool false, .int .i64 0, .int .i64 0] 47) := ⟨_, rfl⟩
          have oz : Bx W1 w1.heap.size 47 zObjC.1 := by rw [hW1]; exact Bx.new w1 zObjC.1 _
          have ht := oz.there
          have hz19 : zObjC.1.length = oc.length := by rw [hol]; rfl
          rw [hz19, hW1] at ht
          have THO := Lib.hid ht
          have HIO := Lib.hid (show (Try.prog.info? 47).map (·.size) = some oc.length by rw [infoObject, hol])
          have HOO := Lib.hid ro.one
          obtain ⟨W2, hW2⟩ : ∃ W, W = W1.setCells w1.heap.size 0 oc := ⟨_, rfl⟩
          have ox2 : Bx W2 w1.heap.size 47 oc := by rw [hW2]; exact oz.setAll oc hz19.symm
          have bb : Below W0.heap.size W0 W2 := by
            rw [hW2]
            exact below_sets _ _ _ (b1.trans (show Below W0.heap.size w1 W1 by rw [hW1]; exact (Below.refl _ _).alloc hb1 _)) _ hb1
          have st2 := XX.out.st.old bb
          have rg2 := st2.range
          rw [hW2, hW1] at rg2
          have RG2 := Lib.hid rg2
          have hb2 := bb.size
          have hm1 : w1.heap.size < W2.heap.size := ox2.lt
          have HC := Lib.hid (copy_prog _ L cs ds W2 (HR.out.old bb) (by omega))
          have ST2 := Lib.hid st2
          have RS2 := Lib.hid (XX.out.rs.old bb)
          have OX2 := Lib.hid ox2
          have RO := Lib.hid ro
          have BEL2 := Lib.hid (XX.out.bel.trans (bb.mono XX.out.bel.size))
          have HS2 := Lib.hid (show w.heap.size + 2 ≤ w1.heap.size ∧ w1.heap.size < W2.heap.size by omega)
          have HW2 := Lib.hid (show W2 = _ by rw [hW2, hW1])
          clear hs0 hb1 b1 hol hW1 oz ht hz19 hW2 ox2 bb st2 rg2 hb2 hm1 ro
          go_wp2_with (first | ((with_reducible refine wpList_store_cs rfl 47 (.tmp 12) (.tmp 20) rfl w1.heap.size 0 oc ?_ ?_ THO.out HIO.out HOO.out ?_); rfl; rfl) | ((with_reducible refine wpList_load_mid rfl 30 (.tmp 5) rfl w.heap.size 0 ?_ cs _ RG2.out Try.underlying30 rfl HI.out ?_); rfl))
          rw [← HW2.out]
          refine HC.out.mono ?_
          rintro e w3 ⟨cs3, rfl, ⟨ρ3, s3, hn3⟩, b3⟩
          have h2 := HS2.out
          have hb3 := b3.size
          have st3 := ST2.out.old b3
          have hl3 := s3.len.1
          have hl31 : cs3.length = cs.length := by rw [hl3, HLN.out]
          obtain ⟨W4, hW4⟩ : ∃ W, W = w3.setCells w.heap.size 0 cs3 := ⟨_, rfl⟩
          have TH3 := Lib.hid (show w3.there w.heap.size 0 cs3.length by rw [hl31]; exact st3.there)
          have HI3 := Lib.hid (show (Try.prog.info? 30).map (·.size) = some cs3.length by rw [infoState, hl3])
          have HO3 := Lib.hid s3.rd.one
          have n0 : ρ3 w.heap.size = .none := hn3 _ (by omega) (fun hF => by have := hF.2; omega)
          have n1 : ρ3 (w.heap.size + 1) = .none := hn3 _ (by omega) (fun hF => by have := hF.2; omega)
          have n2 : ρ3 w1.heap.size = .none := hn3 _ (by omega) (fun hF => by have := hF.2; omega)
          have ST4 := Lib.hid (show Bx W4 w.heap.size 30 cs3 by rw [hW4]; exact st3.setAll cs3 hl31)
          have RS4 := Lib.hid (show Bx W4 (w.heap.size + 1) 30 zsC by rw [hW4]; exact (RS2.out.old b3).same (heap_sets _ _ _ _ _ (by omega)))
          have OX4 := Lib.hid (show Bx W4 w1.heap.size 47 oc by rw [hW4]; exact (OX2.out.old b3).same (heap_sets _ _ _ _ _ (by omega)))
          have S4 := Lib.hid (show OwnS ρ3 L W2.heap.size W4 cs3 ds by rw [hW4]; exact s3.asides _ 0 cs3 n0)
          have BEL4 := Lib.hid (show Below w.heap.size w W4 by rw [hW4]; exact below_sets _ _ _ (BEL2.out.trans (b3.mono (by omega))) _ (Nat.le_refl _))
          have N4 := Lib.hid (show ρ3 w.heap.size = .none ∧ ρ3 (w.heap.size + 1) = .none ∧ ρ3 w1.heap.size = .none from ⟨n0, n1, n2⟩)
          have HS4 := Lib.hid (show w.heap.size + 2 ≤ w1.heap.size ∧ w1.heap.size < W4.heap.size ∧ W2.heap.size ≤ W4.heap.size ∧ w.heap.size ≤ W2.heap.size by rw [hW4, sets_size]; omega)
          have HL3 := Lib.hid hl3
          have rg4 := ST4.out.range
          rw [hW4] at rg4
          have RG4 := Lib.hid rg4
          have HW4 := Lib.hid hW4
          clear h2 hb3 st3 hl3 hl31 n0 n1 n2 rg4 s3 hn3 b3 hW4
          have rgo := OX4.out.range
          rw [HW4.out] at rgo
          have RGO4 := Lib.hid rgo
          have HRM := Lib.hid (remove_prog ρ3 L W2.heap.size cs3 ds oc (findO id (dxs ds 1)) W4 S4.out (RO.out.any flatObject) (by have := HS4.out; omega) (by omega) (by
            have e : dint (findO id (dxs ds 1)) 0 = id := by
              unfold findO
              cases hf : (dxs ds 1).find? (fun o => dint o 0 == id) with
              | none => unfold hasO at hh; rw [hf] at hh; cases hh
              | some x => have := List.find?_some hf; exact eq_of_beq this
            rw [e]; exact hh))
          clear rgo
          go_wp2_with (first | ((with_reducible refine wpList_store_cs rfl 30 (.tmp 5) (.tmp 23) rfl w.heap.size 0 cs3 ?_ ?_ TH3.out HI3.out HO3.out ?_); rfl; rfl) | ((with_reducible refine wpList_load_mid rfl 30 (.tmp 5) rfl w.heap.size 0 ?_ cs3 _ RG4.out Try.underlying30 rfl HI3.out ?_); rfl) | ((with_reducible refine wpList_load_mid rfl 47 (.tmp 12) rfl w1.heap.size 0 ?_ oc _ RGO4.out Try.underlying47 rfl HIO.out ?_); rfl))
          rw [← HW4.out]
          refine HRM.out.mono ?_
          rintro e w5 ⟨cs5, rfl, ρ5, s5, u5⟩
          have s5 : OwnS ρ5 L W2.heap.size w5 cs5 (mvR ds id) := s5
          have h4 := HS4.out
          have h5 := u5.size
          have st5 := ST4.out.same (u5.keep _ (by omega) (.inr (.inl N4.out.1)))
          have rs5 := RS4.out.same (u5.keep _ (by omega) (.inr (.inl N4.out.2.1)))
          have ox5 := OX4.out.same (u5.keep _ (by omega) (.inr (.inl N4.out.2.2)))
          have q0 : ρ5 w.heap.size = .none := (u5.role _ (by omega)).trans N4.out.1
          have q1 : ρ5 (w.heap.size + 1) = .none := (u5.role _ (by omega)).trans N4.out.2.1
          have q2 : ρ5 w1.heap.size = .none := (u5.role _ (by omega)).trans N4.out.2.2
          have hl5 := s5.len.1
          have hl53 : cs5.length = cs3.length := by rw [hl5, HL3.out]
          obtain ⟨W6, hW6⟩ : ∃ W, W = w5.setCells w.heap.size 0 cs5 := ⟨_, rfl⟩
          have TH5 := Lib.hid (show w5.there w.heap.size 0 cs5.length by rw [hl53]; exact st5.there)
          have HI5 := Lib.hid (show (Try.prog.info? 30).map (·.size) = some cs5.length by rw [infoState, hl5])
          have HO5 := Lib.hid s5.rd.one
          have ST6 := Lib.hid (show Bx W6 w.heap.size 30 cs5 by rw [hW6]; exact st5.setAll cs5 hl53)
          have RS6 := Lib.hid (show Bx W6 (w.heap.size + 1) 30 zsC by rw [hW6]; exact rs5.same (heap_sets _ _ _ _ _ (by omega)))
          have OX6 := Lib.hid (show Bx W6 w1.heap.size 47 oc by rw [hW6]; exact ox5.same (heap_sets _ _ _ _ _ (by omega)))
          have S6 := Lib.hid (show OwnS ρ5 L W2.heap.size W6 cs5 (mvR ds id) by rw [hW6]; exact s5.asides _ 0 cs5 q0)
          have BEL6 := Lib.hid (show Below w.heap.size w W6 by rw [hW6]; exact below_sets _ _ _ (u5.below BEL4.out h4.2.2.2 (by omega)) _ (Nat.le_refl _))
          have N6 := Lib.hid (show ρ5 w.heap.size = .none ∧ ρ5 (w.heap.size + 1) = .none ∧ ρ5 w1.heap.size = .none from ⟨q0, q1, q2⟩)
          have HS6 := Lib.hid (show w.heap.size + 2 ≤ w1.heap.size ∧ w1.heap.size < W6.heap.size ∧ W2.heap.size ≤ W6.heap.size ∧ w.heap.size ≤ W2.heap.size by rw [hW6, sets_size]; omega)
          have HL5 := Lib.hid hl5
          have rg6 := ST6.out.range
          have co5 := OX6.out.cell 5 _ (RO.out.bool 5 rfl).1
          rw [ht] at co5
          have rgo := OX6.out.range
          rw [hW6] at rg6 co5 rgo
          have RG6 := Lib.hid rg6
          have RGO6 := Lib.hid rgo
          have HW6 := Lib.hid hW6
          clear h4 h5 st5 rs5 ox5 q0 q1 q2 hl5 hl53 rg6 rgo s5 u5 hW6
          have c13 := ST6.out.cell 13 _ (S6.out.rd.int 13 rfl).1
          have c14 := ST6.out.cell 14 _ (S6.out.rd.int 14 rfl).1
          have e13 : dint (mvR ds id) 13 = dint ds 13 := dint_of (removeT_keep _ _ 13 (by omega))
          have e14 : dint (mvR ds id) 14 = dint ds 14 := dint_of (removeT_keep _ _ 14 (by omega))
          rw [e13, HW6.out] at c13
          rw [e14, HW6.out] at c14
          have HMV := Lib.hid (moved_prog oc (findO id (dxs ds 1)) (dint ds 13) z control (dint ds 14) W6 (RO.out.any flatObject))
          obtain ⟨ml, hml⟩ : ∃ ml, ml = mvC ds id z control := ⟨_, rfl⟩
          have hml2 : movedC (findO id (dxs ds 1)) (dint ds 13) z control (dint ds 14) = ml := hml.symm
          rw [hml2] at HMV
          have HML := Lib.hid hml
          clear e13 e14 hml hml2
          go_wp2_with (first | ((with_reducible refine wpList_store_cs rfl 30 (.tmp 5) (.tmp 37) rfl w.heap.size 0 cs5 ?_ ?_ TH5.out HI5.out HO5.out ?_); rfl; rfl) | ((with_reducible refine wpList_load_mid rfl 47 (.tmp 12) rfl w1.heap.size 0 ?_ oc _ RGO6.out Try.underlying47 rfl HIO.out ?_); rfl))
          rw [← HW6.out]
          refine HMV.out.mono ?_
          rintro e w7 ⟨rfl, b7⟩
          clear c13 c14 co5
          have hmn : ml.length = 19 := by rw [HML.out]; rfl
          have h6 := HS6.out
          have h7 := b7.size
          obtain ⟨W7, hW7⟩ : ∃ W, W = w7.alloc (.cells #[.int .i64 0, .int .i64 0, .int .i64 0, .int .i64 0, .int .i64 0, .bool false, .bool false, .bool false, .bool false, .int .i64 0, .int .i64 0, .int .i64 0, .int .i64 0, .int .i64 0, .int .i64 0, .int .i64 0, .bool false, .int .i64 0, .int .i64 0] 47) := ⟨_, rfl⟩
          have mz : Bx W7 w7.heap.size 47 zObjC.1 := by rw [hW7]; exact Bx.new w7 zObjC.1 _
          have b7' : Below w7.heap.size w7 W7 := by rw [hW7]; exact (Below.refl _ _).alloc (Nat.le_refl _) _
          have ht7 : W7.there w7.heap.size 0 ml.length := by rw [hmn]; exact mz.there
          rw [hW7] at ht7
          have THM := Lib.hid ht7
          have HIM := Lib.hid (show (Try.prog.info? 47).map (·.size) = some ml.length by rw [infoObject, hmn])
          have hmr : RdL (fun _ => False) 0 w7 kObject ml ((mvC ds id z control).map .lit) := by rw [HML.out]; exact movedC_rd _ _ _ _ _ _
          have HOM := Lib.hid hmr.one
          obtain ⟨W8, hW8⟩ : ∃ W, W = W7.setCells w7.heap.size 0 ml := ⟨_, rfl⟩
          have mx8 : Bx W8 w7.heap.size 47 ml := by rw [hW8]; exact mz.setAll ml hmn
          have b8 : Below W6.heap.size W6 W8 := by rw [hW8]; exact below_sets _ _ _ (b7.trans (b7'.mono h7)) _ h7
          obtain ⟨ρ8, s8, hnone8, hsame8⟩ := S6.out.new b8
          have hm8 : w7.heap.size < W8.heap.size := mx8.lt
          have ST8 := Lib.hid (ST6.out.old b8)
          have RS8 := Lib.hid (RS6.out.old b8)
          have MX8 := Lib.hid mx8
          have HP := Lib.hid (put_prog ρ8 L W2.heap.size cs5 (mvR ds id) ml _ W8 s8 (hmr.any flatObject) (by omega) (by omega))
          have N8 := Lib.hid (show ρ8 w.heap.size = .none ∧ ρ8 (w.heap.size + 1) = .none ∧ ρ8 w7.heap.size = .none from ⟨(hsame8 _ (by omega)).trans N6.out.1, (hsame8 _ (by omega)).trans N6.out.2.1, hnone8 _ h7⟩)
          have BEL8 := Lib.hid (BEL6.out.trans (b8.mono (by omega)))
          have HS8 := Lib.hid (show w.heap.size + 2 ≤ w7.heap.size ∧ w7.heap.size < W8.heap.size ∧ W2.heap.size ≤ W8.heap.size ∧ w.heap.size ≤ W2.heap.size by omega)
          have rg8 := ST8.out.range
          have rgm := mx8.range
          rw [hW8, hW7] at rg8 rgm
          have RG8 := Lib.hid rg8
          have RGM := Lib.hid rgm
          have HW8 := Lib.hid (show W8 = _ by rw [hW8, hW7])
          clear hmn h6 h7 b7 hW7 mz b7' ht7 hmr hW8 mx8 b8 s8 hnone8 hsame8 hm8 rg8 rgm
          go_wp2_with (first | ((with_reducible refine wpList_store_cs rfl 47 (.tmp 14) (.tmp 56) rfl w7.heap.size 0 ml ?_ ?_ THM.out HIM.out HOM.out ?_); rfl; rfl) | ((with_reducible refine wpList_load_mid rfl 30 (.tmp 5) rfl w.heap.size 0 ?_ cs5 _ RG8.out Try.underlying30 rfl HI5.out ?_); rfl) | ((with_reducible refine wpList_load_mid rfl 47 (.tmp 14) rfl w7.heap.size 0 ?_ ml _ RGM.out Try.underlying47 rfl HIM.out ?_); rfl))
          rw [← HW8.out]
          refine HP.out.mono ?_
          rintro e w9 ⟨cs9, rfl, ρ9, s9, u9⟩
          have s9 : OwnS ρ9 (L + 128) W2.heap.size w9 cs9 (mvP ds id z control) := s9
          have h8 := HS8.out
          have h9 := u9.size
          have st9 := ST8.out.same (u9.keep _ (by omega) (.inr (.inl N8.out.1)))
          have rs9 := RS8.out.same (u9.keep _ (by omega) (.inr (.inl N8.out.2.1)))
          have mx9 := MX8.out.same (u9.keep _ (by omega) (.inr (.inl N8.out.2.2)))
          have q0 : ρ9 w.heap.size = .none := (u9.role _ (by omega)).trans N8.out.1
          have q1 : ρ9 (w.heap.size + 1) = .none := (u9.role _ (by omega)).trans N8.out.2.1
          have q2 : ρ9 w7.heap.size = .none := (u9.role _ (by omega)).trans N8.out.2.2
          have hl9 := s9.len.1
          have hl95 : cs9.length = cs5.length := by rw [hl9, HL5.out]
          have TH9 := Lib.hid (show w9.there w.heap.size 0 cs9.length by rw [hl95]; exact st9.there)
          have HI9 := Lib.hid (show (Try.prog.info? 30).map (·.size) = some cs9.length by rw [infoState, hl9])
          have HO9 := Lib.hid s9.rd.one
          obtain ⟨W10, hW10⟩ : ∃ W, W = w9.setCells w.heap.size 0 cs9 := ⟨_, rfl⟩
          have st10 : Bx W10 w.heap.size 30 cs9 := by rw [hW10]; exact st9.setAll cs9 hl95
          have s10 : OwnS ρ9 (L + 128) W2.heap.size W10 cs9 (mvP ds id z control) := by rw [hW10]; exact s9.asides _ 0 cs9 q0
          have e13 : dint (mvP ds id z control) 13 = dint ds 13 := (dint_ne _ _ _ _ (by omega)).trans (dint_of (removeT_keep _ _ 13 (by omega)))
          have e14 : dint (mvP ds id z control) 14 = dint ds 14 := (dint_ne _ _ _ _ (by omega)).trans (dint_of (removeT_keep _ _ 14 (by omega)))
          have c13 := st10.cell 13 _ (s10.rd.int 13 rfl).1
          have c14 := st10.cell 14 _ (s10.rd.int 14 rfl).1
          have f13 := st10.frozen 13
          have f14 := st10.frozen 14
          rw [e13, hW10] at c13
          rw [e14, hW10] at c14
          rw [hW10] at f13 f14
          obtain ⟨cs12, hcs12⟩ : ∃ l, l = (cs9.set 13 (.int .i64 (dint ds 13 + 1))).set 14 (.int .i64 (dint ds 14 + 1)) := ⟨_, rfl⟩
          obtain ⟨W12, hW12⟩ : ∃ W, W = (W10.setCell ⟨w.heap.size, 13, none⟩ (.int .i64 (dint ds 13 + 1))).setCell ⟨w.heap.size, 14, none⟩ (.int .i64 (dint ds 14 + 1)) := ⟨_, rfl⟩
          have st12 : Bx W12 w.heap.size 30 cs12 := by rw [hW12, hcs12]; exact (st10.set 13 _).set 14 _
          have rs12 : Bx W12 (w.heap.size + 1) 30 zsC := by rw [hW12, hW10]; exact ((rs9.same (heap_sets _ _ _ _ _ (by omega))).other 13 _ (by omega)).other 14 _ (by omega)
          have mx12 : Bx W12 w7.heap.size 47 ml := by rw [hW12, hW10]; exact ((mx9.same (heap_sets _ _ _ _ _ (by omega))).other 13 _ (by omega)).other 14 _ (by omega)
          have s12 : OwnS ρ9 (L + 128) W2.heap.size W12 cs12 (mvN ds id z control) := by
            rw [hW12, hcs12]
            exact (((s10.aside w.heap.size 13 (.int .i64 (dint ds 13 + 1)) q0).setLit 13 (by omega) .int rfl (.int .i64 (dint ds 13 + 1)) ⟨_, rfl⟩).aside w.heap.size 14 (.int .i64 (dint ds 14 + 1)) q0).setLit 14 (by omega) .int rfl (.int .i64 (dint ds 14 + 1)) ⟨_, rfl⟩
          have bel12 : Below w.heap.size w W12 := by
            rw [hW12, hW10]
            exact below_set (below_set (below_sets _ _ _ (u9.below BEL8.out h8.2.2.2 (by omega)) _ (Nat.le_refl _)) _ _ _ (Nat.le_refl _)) _ _ _ (Nat.le_refl _)
          have hz12 : W12.heap.size = w9.heap.size := by rw [hW12, hW10]; simp only [World.setCell, Array.size_modify, sets_size]
          have co2 := mx12.cell 2 (.int .i64 (mvO ds id)) (by rw [HML.out]; rfl)
          rw [hW12, hW10] at co2
          obtain ⟨ao, nn, cc, hc0, hn, hnl, hx⟩ := s12.at_list w.heap.size st12 q0 z (mvO ds id)
          have hplb : (dxs (mvN ds id z control) 0).length * 152 ≤ L + 128 := by obtain ⟨_, _, _, pl⟩ := s12.ply; exact pl.bytes
          have HLS := Lib.hid (list_prog w.heap.size ao nn cc z (mvO ds id) W12 (st12.cell 0 _ hc0) hn (by omega))
          have ST12 := Lib.hid st12
          have RS12 := Lib.hid rs12
          have MX12 := Lib.hid mx12
          have S12 := Lib.hid s12
          have BEL12 := Lib.hid bel12
          have N12 := Lib.hid (show ρ9 w.heap.size = .none ∧ ρ9 (w.heap.size + 1) = .none ∧ ρ9 w7.heap.size = .none from ⟨q0, q1, q2⟩)
          have HS12 := Lib.hid (show w.heap.size + 2 ≤ w7.heap.size ∧ w7.heap.size < W12.heap.size ∧ W2.heap.size ≤ W12.heap.size ∧ w.heap.size ≤ W2.heap.size by omega)
          have HW12 := Lib.hid (show W12 = _ by rw [hW12, hW10])
          clear h8 h9 st9 rs9 mx9 q0 q1 q2 hl9 hl95 hW10 st10 s10 e13 e14 hcs12 hW12 st12 rs12 mx12 s12 bel12 hz12 hc0 hn hnl hplb s9 u9
          rcases hx with ⟨hp, _, hset⟩ | ⟨ab, oo, v, hp, A⟩
          · rw [hp] at HLS
            have hLN : mvL ds id z control bottom = mvN ds id z control := hset _
            have STF := ST12
            have RSF := RS12
            have MXF := MX12
            have SF_ := Lib.hid (show OwnS ρ9 (L + 128 + 8) W2.heap.size W12 cs12 (mvL ds id z control bottom) by rw [hLN]; exact S12.out.frame (by omega) (Nat.le_refl _) (fun _ _ _ => rfl) (fun _ _ => rfl))
            have BELF := BEL12
            have NF := Lib.hid N12.out.2.1
            clear hp hset hLN
            go_wp2_with ((with_reducible refine wpList_store_cs rfl 30 (.tmp 5) (.tmp 59) rfl w.heap.size 0 cs9 ?_ ?_ TH9.out HI9.out HO9.out ?_); rfl; rfl)
            rw [← HW12.out]
            refine HLS.out.mono ?_
            rintro e w13 ⟨rfl, rfl⟩
            obtain ⟨WF, hWF⟩ : ∃ W, W = w13 := ⟨_, rfl⟩
            rw [← hWF] at STF RSF MXF SF_ BELF ⊢
            clear hWF c13 c14 f13 f14 co2
            go_wp2_with fail
            have h12 := HS12.out
            have hlF := SF_.out.len.1
            have SS0 := Lib.hid (show Bx WF w.heap.size 30 cs12 ∧ Bx WF w7.heap.size 47 ml from ⟨STF.out, MXF.out⟩)
            have HIF := Lib.hid (show (Try.prog.info? 30).map (·.size) = some cs12.length by rw [infoState, hlF])
            have THF := Lib.hid (show WF.drew.there (w.heap.size + 1) 0 cs12.length by rw [hlF]; exact RSF.out.drew.there)
            have HOF := Lib.hid SF_.out.rd.one
            have BE := Lib.hid (RSF.out.drew.setAll cs12 hlF)
            have SE := Lib.hid ((SF_.out.old (Below.refl _ _).drew).asides (w.heap.size + 1) 0 cs12 NF.out)
            have BF := Lib.hid (below_sets cs12 0 WF.drew BELF.out.drew (w.heap.size + 1) (Nat.le_succ _))
            have SS1 := Lib.hid (show Bx (WF.drew.setCells (w.heap.size + 1) 0 cs12) w.heap.size 30 cs12 ∧ Bx (WF.drew.setCells (w.heap.size + 1) 0 cs12) w7.heap.size 47 ml from ⟨STF.out.drew.same (heap_sets _ _ _ _ _ (by omega)), MXF.out.drew.same (heap_sets _ _ _ _ _ (by omega))⟩)
            have HC0 := Lib.hid (show ml[0]? = some (.int .i64 (dint ds 13)) by rw [HML.out]; rfl)
            clear h12 hlF
            refine wp_region_noPanic ?_
            refine wp_region_held_drew (S := fun wS => Bx wS w.heap.size 30 cs12 ∧ Bx wS w7.heap.size 47 ml) (by kernel_rfl) (SS0.out) (fun hHeld => ?_)
            refine wpAnyH_take (i := 0) (oi := ?oiT16a0x) (v := .agg cs12.toArray) ?hiT16a0x (by kernel_rfl) (by kernel_rfl) (by kernel_rfl) ?hqT16a0x ?hyT16a0x (by assumption) ?restT16a0x
            case hiT16a0x => (simp only [List.getElem?_toArray, List.getElem?_cons_zero] <;> rfl)
            case hqT16a0x => exact fun _ _ _ h => h
            case hyT16a0x => exact (yieldsIf_load_mid (by rfl) 30 (.tmp 5) rfl w.heap.size 0 (by simp [Act.eval]) cs12 _ (fun _ h => Bx.range h.1) Try.underlying30 rfl HIF.out)
            try simp only [Act.put, List.setIfInBounds_toArray, List.set_cons_zero, List.set_cons_succ]
            refine wpAnyH_take (i := 1) (oi := ?oiT16a1x) (v := ?vT16a1x) ?hiT16a1x (by kernel_rfl) (by kernel_rfl) (by kernel_rfl) ?hqT16a1x ?hyT16a1x (by assumption) ?restT16a1x
            case hiT16a1x => (simp only [List.getElem?_toArray, List.getElem?_cons_succ, List.getElem?_cons_zero] <;> rfl)
            case hqT16a1x => exact fun _ _ _ h => h
            case hyT16a1x => exact Or.inl ⟨by rfl, by (intro wS hSw; have s5 := Bx.cell hSw.2 0 _ HC0.out; go_simp; try with_reducible rfl)⟩
            try simp only [Act.put, List.setIfInBounds_toArray, List.set_cons_zero, List.set_cons_succ]
            refine wpAnyH_take (i := 2) (oi := ?oiT16a2x) (v := ?vT16a2x) ?hiT16a2x (by kernel_rfl) (by kernel_rfl) (by kernel_rfl) ?hqT16a2x ?hyT16a2x (by assumption) ?restT16a2x
            case hiT16a2x => (simp only [List.getElem?_toArray, List.getElem?_cons_succ, List.getElem?_cons_zero] <;> rfl)
            case hqT16a2x => exact fun _ _ _ h => h
            case hyT16a2x => exact Or.inl ⟨by rfl, by (intro wS hSw; have s5 := Bx.cell hSw.2 0 _ HC0.out; go_simp; try with_reducible rfl)⟩
            try simp only [Act.put, List.setIfInBounds_toArray, List.set_cons_zero, List.set_cons_succ]
            refine wpAnyH_ready (rs := [3]) (by kernel_rfl) (by simp) ?_
            refine AllReadyH.cons (o := ?oiT16a3x) ?hiT16a3x (fun K hK => ?hsT16a3x) AllReadyH.nil
            case hiT16a3x => (simp only [List.getElem?_toArray, List.getElem?_cons_succ, List.getElem?_cons_zero] <;> rfl)
            refine step_store_mid rfl 30 (.tmp 10) (.tmp 98) rfl (w.heap.size + 1) 0 cs12 (by simp [Act.eval]) (by simp [Act.eval]) THF.out HIF.out HOF.out ?_
            refine hK.out _ _ SS1.out (fun hHeld3 => ?_)
            clear hK K
            try simp only [Act.put]
            refine wpAnyH_take (i := 4) (oi := ?oiT16a4x) (v := ?vT16a4x) ?hiT16a4x (by kernel_rfl) (by kernel_rfl) (by kernel_rfl) ?hqT16a4x ?hyT16a4x (by assumption) ?restT16a4x
            case hiT16a4x => (simp only [List.getElem?_toArray, List.getElem?_cons_succ, List.getElem?_cons_zero] <;> rfl)
            case hqT16a4x => exact fun _ _ _ h => h
            case hyT16a4x => exact Or.inl ⟨by rfl, by (intro wS hSw; have s5 := Bx.cell hSw.2 0 _ HC0.out; go_simp; try with_reducible rfl)⟩
            try simp only [Act.put, List.setIfInBounds_toArray, List.set_cons_zero, List.set_cons_succ]
            refine wpAnyH_done (by kernel_rfl) ?_ _
            refine NoPanic.normal ?_
            go_wp2_with fail
            refine bodyPost_ret (results_cs2 Try.results15 (w.heap.size + 1) ?_ (.int .i64 (dint ds 13)) ?_ cs12 _ (Bx.range BE.out) Try.underlying30 rfl HIF.out) rfl ?_
            · rfl
            · rfl
            · exact ⟨cs12, _, rfl, SE.out.rd, BF.out⟩
          · cases h2 : z == 2
            · have hzb : (z == 2 && !bottom) = false := by rw [h2]; rfl
              rw [hp] at HLS
              obtain ⟨lx, hlx⟩ : ∃ lx, lx = listT (mvN ds id z control) z (mvO ds id) := ⟨_, rfl⟩
              have AL := Lib.hid A
              obtain ⟨r, ow⟩ := A.own
              rw [← hlx] at ow
              obtain ⟨es, row, hes⟩ := ow.row
              have hby := ow.bytes
              have HBY := Lib.hid hby
              have hel := hes.len
              obtain ⟨pu, nu, ku, rfl⟩ := own_sl row
              obtain ⟨hnu, _⟩ := own_cap row
              subst hnu
              obtain ⟨Wd, hWd⟩ : ∃ W, W = W12.drew := ⟨_, rfl⟩
              obtain ⟨WA, hWA⟩ : ∃ W, W = Wd.alloc (.cells #[.int .i64 (dint ds 13)] 3) := ⟨_, rfl⟩
              have bd : Below W12.heap.size W12 Wd := by rw [hWd]; exact (Below.refl _ _).drew
              have ba : Below W12.heap.size W12 WA := by rw [hWA]; exact bd.alloc bd.size _
              have hzd : Wd.heap.size = W12.heap.size := by rw [hWd]; rfl
              have hza : WA.heap.size = W12.heap.size + 1 := by rw [hWA]; simp [hzd]
              have cad := (AL.out.there Wd (below_grown bd)).1
              have caa := (AL.out.there WA (below_grown ba)).1
              have MXD := Lib.hid (MX12.out.old bd)
              have MXA := Lib.hid (MX12.out.old ba)
              have bn : Bx WA Wd.heap.size 3 [.int .i64 (dint ds 13)] := by rw [hWA]; exact Bx.new Wd _ _
              obtain ⟨y, hy, hesy⟩ := snoc_es hes (dint ds 13)
              have rowA := own_block row ba
              have HLV := Lib.hid (show mvL ds id z control bottom = setT (mvN ds id z control) z (mvO ds id) (lx ++ [[dI (dint ds 13)]]) by unfold mvL; rw [hzb, ← hlx]; rfl)
              have HES := Lib.hid hesy
              have HY := Lib.hid hy
              have HEL := Lib.hid hel
              have ROWA := Lib.hid rowA
              have hBS : W2.heap.size ≤ WA.heap.size := by have := HS12.out; omega
              have BA := Lib.hid ba
              have HZA := Lib.hid hza
              have HZD := Lib.hid hzd
              have HC0 := Lib.hid (show ml[0]? = some (.int .i64 (dint ds 13)) by rw [HML.out]; rfl)
              have HBS := Lib.hid hBS
              have HWD := Lib.hid hWd
              have HWA := Lib.hid hWA
              obtain ⟨zi, hEi⟩ := elemint
              have HEI := Lib.hid hEi
              have HBG := Lib.hid (show (es.length + 1) * 8 ≤ 140737488355328 by omega)
              have HMX := Lib.hid (show es.length + 1 ≤ maxLen by simp only [maxLen]; omega)
              have HCN := Lib.hid (show ∀ (j : Nat) (u : Value), ([.int .i64 (dint ds 13)] : List Value)[j]? = some u → WA.cell? (Addr.add ⟨Wd.heap.size, 0, none⟩ j) = some u from fun j u hj => by rw [Addr.add_lit, Nat.zero_add]; exact bn.cell j u hj)
              clear hEi
              clear hWd hWA hp A ow row hes hby hel bd ba hzd hza bn hy hesy rowA hBS hlx
              go_wp2_with ((with_reducible refine wpList_store_cs rfl 30 (.tmp 5) (.tmp 59) rfl w.heap.size 0 cs9 ?_ ?_ TH9.out HI9.out HO9.out ?_); rfl; rfl)
              rw [← HW12.out]
              refine HLS.out.mono ?_
              rintro e w13 ⟨rfl, rfl⟩
              clear c13 c14 f13 f14 co2
              go_wp2_with fail
              refine wp_region_noPanic ?_
              refine wp_region_held_drew (S := fun wS => Bx wS w7.heap.size 47 ml) (by kernel_rfl) (by rw [← HWD.out]; exact MXD.out) (fun hHeld => ?_)
              rw [← HWD.out]
              refine wpAnyH_take (i := 0) (oi := ?oiT1a0x) (v := ?vT1a0x) ?hiT1a0x (by kernel_rfl) (by kernel_rfl) (by kernel_rfl) ?hqT1a0x ?hyT1a0x (by assumption) ?restT1a0x
              case hiT1a0x => (simp only [List.getElem?_toArray, List.getElem?_cons_zero] <;> rfl)
              case hqT1a0x => exact fun _ _ _ h => h
              case hyT1a0x => exact Or.inl ⟨by rfl, by (intro wS hSw; have s5 := Bx.cell hSw 0 _ HC0.out; go_simp; try with_reducible rfl)⟩
              try simp only [Act.put, List.setIfInBounds_toArray, List.set_cons_zero, List.set_cons_succ]
              refine wpAnyH_take (i := 1) (oi := ?oiT1a1x) (v := ?vT1a1x) ?hiT1a1x (by kernel_rfl) (by kernel_rfl) (by kernel_rfl) ?hqT1a1x ?hyT1a1x (by assumption) ?restT1a1x
              case hiT1a1x => (simp only [List.getElem?_toArray, List.getElem?_cons_succ, List.getElem?_cons_zero] <;> rfl)
              case hqT1a1x => exact fun _ _ _ h => h
              case hyT1a1x => exact Or.inl ⟨by rfl, by (intro wS hSw; have s5 := Bx.cell hSw 0 _ HC0.out; go_simp; try with_reducible rfl)⟩
              try simp only [Act.put, List.setIfInBounds_toArray, List.set_cons_zero, List.set_cons_succ]
              refine wpAnyH_take (i := 2) (oi := ?oiT1a2x) (v := ?vT1a2x) ?hiT1a2x (by kernel_rfl) (by kernel_rfl) (by kernel_rfl) ?hqT1a2x ?hyT1a2x (by assumption) ?restT1a2x
              case hiT1a2x => (simp only [List.getElem?_toArray, List.getElem?_cons_succ, List.getElem?_cons_zero] <;> rfl)
              case hqT1a2x => exact fun _ _ _ h => h
              case hyT1a2x => exact Or.inl ⟨by rfl, by (intro wS hSw; have s5 := Bx.cell hSw 0 _ HC0.out; go_simp; try with_reducible rfl)⟩
              try simp only [Act.put, List.setIfInBounds_toArray, List.set_cons_zero, List.set_cons_succ]
              refine wpAnyH_take (i := 4) (oi := ?oiT1a4x) (v := ?vT1a4x) ?hiT1a4x (by kernel_rfl) (by kernel_rfl) (by kernel_rfl) ?hqT1a4x ?hyT1a4x (by assumption) ?restT1a4x
              case hiT1a4x => (simp only [List.getElem?_toArray, List.getElem?_cons_succ, List.getElem?_cons_zero] <;> rfl)
              case hqT1a4x => exact fun _ _ _ h => h
              case hyT1a4x => exact Or.inl ⟨by rfl, by (intro wS hSw; have s5 := Bx.cell hSw 0 _ HC0.out; go_simp; try with_reducible rfl)⟩
              try simp only [Act.put, List.setIfInBounds_toArray, List.set_cons_zero, List.set_cons_succ]
              refine wpAnyH_take (i := 5) (oi := ?oiT1a5x) (v := ?vT1a5x) ?hiT1a5x (by kernel_rfl) (by kernel_rfl) (by kernel_rfl) ?hqT1a5x ?hyT1a5x (by assumption) ?restT1a5x
              case hiT1a5x => (simp only [List.getElem?_toArray, List.getElem?_cons_succ, List.getElem?_cons_zero] <;> rfl)
              case hqT1a5x => exact fun _ _ _ h => h
              case hyT1a5x => exact Or.inl ⟨by rfl, by (intro wS hSw; have s5 := Bx.cell hSw 0 _ HC0.out; go_simp; try with_reducible rfl)⟩
              try simp only [Act.put, List.setIfInBounds_toArray, List.set_cons_zero, List.set_cons_succ]
              refine wpAnyH_ready (rs := [3, 6]) (by kernel_rfl) (by simp) ?_
              refine AllReadyH.cons (o := ?oaT1a) ?haT1a (fun K hK => ?saT1a) (AllReadyH.cons (o := ?obT1a) ?hbT1a (fun K hK => ?sbT1a) AllReadyH.nil)
              case haT1a => (simp only [List.getElem?_toArray, List.getElem?_cons_succ, List.getElem?_cons_zero] <;> rfl)
              case hbT1a => (simp only [List.getElem?_toArray, List.getElem?_cons_succ, List.getElem?_cons_zero] <;> rfl)
              case saT1a =>
                go_simp
                refine hK.out _ _ MXD.out (fun hHeld3 => ?_)
                clear hK K
                try simp only [Act.put, List.setIfInBounds_toArray, List.set_cons_zero, List.set_cons_succ]
                refine wpAnyH_ready (rs := [6]) (by kernel_rfl) (by simp) ?_
                refine AllReadyH.cons (o := ?oiT2a6x) ?hiT2a6x (fun K hK => ?hsT2a6x) AllReadyH.nil
                case hiT2a6x => (simp only [List.getElem?_toArray, List.getElem?_cons_succ, List.getElem?_cons_zero] <;> rfl)
                go_simp
                rw [← HWA.out]
                refine hK.out _ _ MXA.out (fun hHeld6 => ?_)
                clear hK K
                try simp only [Act.put, List.setIfInBounds_toArray, List.set_cons_zero, List.set_cons_succ]
                refine wpAnyH_ready (rs := [7]) (by kernel_rfl) (by simp) ?_
                refine AllReadyH.cons (o := ?oiT2a7x) ?hiT2a7x (fun K hK => ?hsT2a7x) AllReadyH.nil
                case hiT2a7x => (simp only [List.getElem?_toArray, List.getElem?_cons_succ, List.getElem?_cons_zero] <;> rfl)
                refine step_append_own2 rfl (.tmp 92) (.tmp 95) 24 rfl W2.heap.size HEI.out (.slice pu es.length ku) es.length (es.flatMap Subtype.val) rfl ROWA.out ⟨Wd.heap.size, 0, none⟩ 1 1 [.int .i64 (dint ds 13)] rfl rfl HCN.out (fun u hu => by rw [List.mem_singleton.1 hu]; rfl) HMX.out HBG.out HBS.out (by decide) ?_
                intro v9 w14 own9 gr9 fr9
                obtain ⟨p9, n9, k9, rfl⟩ := own_sl own9
                obtain ⟨ca9, fa9⟩ := AL.out.there w14 (below_grownBy BA.out gr9)
                have O9 := Lib.hid own9
                have G9 := Lib.hid gr9
                have F9 := Lib.hid fr9
                have S9 := Lib.hid (MXA.out.same (gr9.block _ (by have := HS12.out; have := HZA.out; omega) (fun e => AL.out.nb _ N12.out.2.2 e.symm)))
                clear own9 gr9 fr9
                refine hK.out _ _ S9.out (fun hHeld7 => ?_)
                clear hK K
                try simp only [Act.put, List.setIfInBounds_toArray, List.set_cons_zero, List.set_cons_succ]
                refine wpAnyH_take (i := 8) (oi := ?oiT2a8x) (v := ?vT2a8x) ?hiT2a8x (by kernel_rfl) (by kernel_rfl) (by kernel_rfl) ?hqT2a8x ?hyT2a8x (by assumption) ?restT2a8x
                case hiT2a8x => (simp only [List.getElem?_toArray, List.getElem?_cons_succ, List.getElem?_cons_zero] <;> rfl)
                case hqT2a8x => exact fun _ _ _ h => h
                case hyT2a8x => exact Or.inl ⟨by rfl, by (intro wS hSw; have s5 := Bx.cell hSw 0 _ HC0.out; go_simp; try with_reducible rfl)⟩
                try simp only [Act.put, List.setIfInBounds_toArray, List.set_cons_zero, List.set_cons_succ]
                refine wpAnyH_ready (rs := [9]) (by kernel_rfl) (by simp) ?_
                refine AllReadyH.cons (o := ?oiT2a9x) ?hiT2a9x (fun K hK => ?hsT2a9x) AllReadyH.nil
                case hiT2a9x => (simp only [List.getElem?_toArray, List.getElem?_cons_succ, List.getElem?_cons_zero] <;> rfl)
                go_simp
                have h12 := HS12.out
                obtain ⟨ρF, csF, sF, xF, hro, hno, hu⟩ := AL.out.put w14 (L + 128 + 8) (.slice p9 n9 k9) (lx ++ [[dI (dint ds 13)]]) (by omega) (below_grownBy BA.out G9.out) ⟨es ++ [y], (by rw [List.length_append, List.flatMap_append, show [y].flatMap Subtype.val = [.int .i64 (dint ds 13)] by rw [List.flatMap_cons, HY.out]; rfl]; exact O9.out), HES.out.frame (by omega) (Nat.le_refl _) (fun _ _ _ => rfl) (fun _ h _ => h)⟩ (by simp only [List.length_append, List.length_singleton]; have := HBY.out; omega) (fun g hg => by
                  rcases F9.out with e | e
                  · exact .inl (by rw [← hg, e])
                  · rw [e] at hg
                    cases hg
                    exact .inr (by have := HZA.out; omega))
                obtain ⟨WF, hWF⟩ : ∃ W, W = w14.setCell ⟨ab, oo, none⟩ (.slice p9 n9 k9) := ⟨_, rfl⟩
                rw [← hWF] at sF xF hno hu
                have SF_ := Lib.hid (show OwnS ρF (L + 128 + 8) W2.heap.size WF csF (mvL ds id z control bottom) by rw [HLV.out]; exact sF)
                have STF := Lib.hid xF
                have RSF := Lib.hid (RS12.out.same (hno _ (by omega) (by omega) N12.out.2.1))
                have MXF := Lib.hid (MX12.out.same (hno _ (by omega) (by omega) N12.out.2.2))
                have BELF := Lib.hid ((hu w.heap.size (by omega) (Nat.le_refl _)).below BEL12.out h12.2.2.2 (Nat.le_refl _))
                have NF := Lib.hid ((hro _ (by omega)).trans N12.out.2.1)
                have HWF := Lib.hid hWF
                have SX := Lib.hid (show Bx (w14.setCell ⟨ab, oo, none⟩ (.slice p9 n9 k9)) w7.heap.size 47 ml from by rw [← hWF]; exact MXF.out)
                clear h12 sF xF hro hno hu hWF ca9 fa9
                refine hK.out _ _ SX.out (fun hHeld9 => ?_)
                clear hK K
                try simp only [Act.put, List.setIfInBounds_toArray, List.set_cons_zero, List.set_cons_succ]
                refine wpAnyH_done (by kernel_rfl) ?_ _
                refine NoPanic.normal ?_
                rw [← HWF.out]
                go_wp2_with fail
                have h12 := HS12.out
                have hlF := SF_.out.len.1
                have SS0 := Lib.hid (show Bx WF w.heap.size 30 csF ∧ Bx WF w7.heap.size 47 ml from ⟨STF.out, MXF.out⟩)
                have HIF := Lib.hid (show (Try.prog.info? 30).map (·.size) = some csF.length by rw [infoState, hlF])
                have THF := Lib.hid (show WF.drew.there (w.heap.size + 1) 0 csF.length by rw [hlF]; exact RSF.out.drew.there)
                have HOF := Lib.hid SF_.out.rd.one
                have BE := Lib.hid (RSF.out.drew.setAll csF hlF)
                have SE := Lib.hid ((SF_.out.old (Below.refl _ _).drew).asides (w.heap.size + 1) 0 csF NF.out)
                have BF := Lib.hid (below_sets csF 0 WF.drew BELF.out.drew (w.heap.size + 1) (Nat.le_succ _))
                have SS1 := Lib.hid (show Bx (WF.drew.setCells (w.heap.size + 1) 0 csF) w.heap.size 30 csF ∧ Bx (WF.drew.setCells (w.heap.size + 1) 0 csF) w7.heap.size 47 ml from ⟨STF.out.drew.same (heap_sets _ _ _ _ _ (by omega)), MXF.out.drew.same (heap_sets _ _ _ _ _ (by omega))⟩)
                have HC0 := Lib.hid (show ml[0]? = some (.int .i64 (dint ds 13)) by rw [HML.out]; rfl)
                clear h12 hlF
                refine wp_region_noPanic ?_
                refine wp_region_held_drew (S := fun wS => Bx wS w.heap.size 30 csF ∧ Bx wS w7.heap.size 47 ml) (by kernel_rfl) (SS0.out) (fun hHeld => ?_)
                refine wpAnyH_take (i := 0) (oi := ?oiT4a0x) (v := .agg csF.toArray) ?hiT4a0x (by kernel_rfl) (by kernel_rfl) (by kernel_rfl) ?hqT4a0x ?hyT4a0x (by assumption) ?restT4a0x
                case hiT4a0x => (simp only [List.getElem?_toArray, List.getElem?_cons_zero] <;> rfl)
                case hqT4a0x => exact fun _ _ _ h => h
                case hyT4a0x => exact (yieldsIf_load_mid (by rfl) 30 (.tmp 5) rfl w.heap.size 0 (by simp [Act.eval]) csF _ (fun _ h => Bx.range h.1) Try.underlying30 rfl HIF.out)
                try simp only [Act.put, List.setIfInBounds_toArray, List.set_cons_zero, List.set_cons_succ]
                refine wpAnyH_take (i := 1) (oi := ?oiT4a1x) (v := ?vT4a1x) ?hiT4a1x (by kernel_rfl) (by kernel_rfl) (by kernel_rfl) ?hqT4a1x ?hyT4a1x (by assumption) ?restT4a1x
                case hiT4a1x => (simp only [List.getElem?_toArray, List.getElem?_cons_succ, List.getElem?_cons_zero] <;> rfl)
                case hqT4a1x => exact fun _ _ _ h => h
                case hyT4a1x => exact Or.inl ⟨by rfl, by (intro wS hSw; have s5 := Bx.cell hSw.2 0 _ HC0.out; go_simp; try with_reducible rfl)⟩
                try simp only [Act.put, List.setIfInBounds_toArray, List.set_cons_zero, List.set_cons_succ]
                refine wpAnyH_take (i := 2) (oi := ?oiT4a2x) (v := ?vT4a2x) ?hiT4a2x (by kernel_rfl) (by kernel_rfl) (by kernel_rfl) ?hqT4a2x ?hyT4a2x (by assumption) ?restT4a2x
                case hiT4a2x => (simp only [List.getElem?_toArray, List.getElem?_cons_succ, List.getElem?_cons_zero] <;> rfl)
                case hqT4a2x => exact fun _ _ _ h => h
                case hyT4a2x => exact Or.inl ⟨by rfl, by (intro wS hSw; have s5 := Bx.cell hSw.2 0 _ HC0.out; go_simp; try with_reducible rfl)⟩
                try simp only [Act.put, List.setIfInBounds_toArray, List.set_cons_zero, List.set_cons_succ]
                refine wpAnyH_ready (rs := [3]) (by kernel_rfl) (by simp) ?_
                refine AllReadyH.cons (o := ?oiT4a3x) ?hiT4a3x (fun K hK => ?hsT4a3x) AllReadyH.nil
                case hiT4a3x => (simp only [List.getElem?_toArray, List.getElem?_cons_succ, List.getElem?_cons_zero] <;> rfl)
                refine step_store_mid rfl 30 (.tmp 10) (.tmp 98) rfl (w.heap.size + 1) 0 csF (by simp [Act.eval]) (by simp [Act.eval]) THF.out HIF.out HOF.out ?_
                refine hK.out _ _ SS1.out (fun hHeld3 => ?_)
                clear hK K
                try simp only [Act.put]
                refine wpAnyH_take (i := 4) (oi := ?oiT4a4x) (v := ?vT4a4x) ?hiT4a4x (by kernel_rfl) (by kernel_rfl) (by kernel_rfl) ?hqT4a4x ?hyT4a4x (by assumption) ?restT4a4x
                case hiT4a4x => (simp only [List.getElem?_toArray, List.getElem?_cons_succ, List.getElem?_cons_zero] <;> rfl)
                case hqT4a4x => exact fun _ _ _ h => h
                case hyT4a4x => exact Or.inl ⟨by rfl, by (intro wS hSw; have s5 := Bx.cell hSw.2 0 _ HC0.out; go_simp; try with_reducible rfl)⟩
                try simp only [Act.put, List.setIfInBounds_toArray, List.set_cons_zero, List.set_cons_succ]
                refine wpAnyH_done (by kernel_rfl) ?_ _
                refine NoPanic.normal ?_
                go_wp2_with fail
                refine bodyPost_ret (results_cs2 Try.results15 (w.heap.size + 1) ?_ (.int .i64 (dint ds 13)) ?_ csF _ (Bx.range BE.out) Try.underlying30 rfl HIF.out) rfl ?_
                · rfl
                · rfl
                · exact ⟨csF, _, rfl, SE.out.rd, BF.out⟩
              case sbT1a =>
                go_simp
                rw [← HWA.out]
                refine hK.out _ _ MXA.out (fun hHeld6 => ?_)
                clear hK K
                try simp only [Act.put, List.setIfInBounds_toArray, List.set_cons_zero, List.set_cons_succ]
                refine wpAnyH_ready (rs := [3]) (by kernel_rfl) (by simp) ?_
                refine AllReadyH.cons (o := ?oiT3a3x) ?hiT3a3x (fun K hK => ?hsT3a3x) AllReadyH.nil
                case hiT3a3x => (simp only [List.getElem?_toArray, List.getElem?_cons_succ, List.getElem?_cons_zero] <;> rfl)
                go_simp
                refine hK.out _ _ MXA.out (fun hHeld3 => ?_)
                clear hK K
                try simp only [Act.put, List.setIfInBounds_toArray, List.set_cons_zero, List.set_cons_succ]
                refine wpAnyH_ready (rs := [7]) (by kernel_rfl) (by simp) ?_
                refine AllReadyH.cons (o := ?oiT3a7x) ?hiT3a7x (fun K hK => ?hsT3a7x) AllReadyH.nil
                case hiT3a7x => (simp only [List.getElem?_toArray, List.getElem?_cons_succ, List.getElem?_cons_zero] <;> rfl)
                refine step_append_own2 rfl (.tmp 92) (.tmp 95) 24 rfl W2.heap.size HEI.out (.slice pu es.length ku) es.length (es.flatMap Subtype.val) rfl ROWA.out ⟨Wd.heap.size, 0, none⟩ 1 1 [.int .i64 (dint ds 13)] rfl rfl HCN.out (fun u hu => by rw [List.mem_singleton.1 hu]; rfl) HMX.out HBG.out HBS.out (by decide) ?_
                intro v9 w14 own9 gr9 fr9
                obtain ⟨p9, n9, k9, rfl⟩ := own_sl own9
                obtain ⟨ca9, fa9⟩ := AL.out.there w14 (below_grownBy BA.out gr9)
                have O9 := Lib.hid own9
                have G9 := Lib.hid gr9
                have F9 := Lib.hid fr9
                have S9 := Lib.hid (MXA.out.same (gr9.block _ (by have := HS12.out; have := HZA.out; omega) (fun e => AL.out.nb _ N12.out.2.2 e.symm)))
                clear own9 gr9 fr9
                refine hK.out _ _ S9.out (fun hHeld7 => ?_)
                clear hK K
                try simp only [Act.put, List.setIfInBounds_toArray, List.set_cons_zero, List.set_cons_succ]
                refine wpAnyH_take (i := 8) (oi := ?oiT3a8x) (v := ?vT3a8x) ?hiT3a8x (by kernel_rfl) (by kernel_rfl) (by kernel_rfl) ?hqT3a8x ?hyT3a8x (by assumption) ?restT3a8x
                case hiT3a8x => (simp only [List.getElem?_toArray, List.getElem?_cons_succ, List.getElem?_cons_zero] <;> rfl)
                case hqT3a8x => exact fun _ _ _ h => h
                case hyT3a8x => exact Or.inl ⟨by rfl, by (intro wS hSw; have s5 := Bx.cell hSw 0 _ HC0.out; go_simp; try with_reducible rfl)⟩
                try simp only [Act.put, List.setIfInBounds_toArray, List.set_cons_zero, List.set_cons_succ]
                refine wpAnyH_ready (rs := [9]) (by kernel_rfl) (by simp) ?_
                refine AllReadyH.cons (o := ?oiT3a9x) ?hiT3a9x (fun K hK => ?hsT3a9x) AllReadyH.nil
                case hiT3a9x => (simp only [List.getElem?_toArray, List.getElem?_cons_succ, List.getElem?_cons_zero] <;> rfl)
                go_simp
                have h12 := HS12.out
                obtain ⟨ρF, csF, sF, xF, hro, hno, hu⟩ := AL.out.put w14 (L + 128 + 8) (.slice p9 n9 k9) (lx ++ [[dI (dint ds 13)]]) (by omega) (below_grownBy BA.out G9.out) ⟨es ++ [y], (by rw [List.length_append, List.flatMap_append, show [y].flatMap Subtype.val = [.int .i64 (dint ds 13)] by rw [List.flatMap_cons, HY.out]; rfl]; exact O9.out), HES.out.frame (by omega) (Nat.le_refl _) (fun _ _ _ => rfl) (fun _ h _ => h)⟩ (by simp only [List.length_append, List.length_singleton]; have := HBY.out; omega) (fun g hg => by
                  rcases F9.out with e | e
                  · exact .inl (by rw [← hg, e])
                  · rw [e] at hg
                    cases hg
                    exact .inr (by have := HZA.out; omega))
                obtain ⟨WF, hWF⟩ : ∃ W, W = w14.setCell ⟨ab, oo, none⟩ (.slice p9 n9 k9) := ⟨_, rfl⟩
                rw [← hWF] at sF xF hno hu
                have SF_ := Lib.hid (show OwnS ρF (L + 128 + 8) W2.heap.size WF csF (mvL ds id z control bottom) by rw [HLV.out]; exact sF)
                have STF := Lib.hid xF
                have RSF := Lib.hid (RS12.out.same (hno _ (by omega) (by omega) N12.out.2.1))
                have MXF := Lib.hid (MX12.out.same (hno _ (by omega) (by omega) N12.out.2.2))
                have BELF := Lib.hid ((hu w.heap.size (by omega) (Nat.le_refl _)).below BEL12.out h12.2.2.2 (Nat.le_refl _))
                have NF := Lib.hid ((hro _ (by omega)).trans N12.out.2.1)
                have HWF := Lib.hid hWF
                have SX := Lib.hid (show Bx (w14.setCell ⟨ab, oo, none⟩ (.slice p9 n9 k9)) w7.heap.size 47 ml from by rw [← hWF]; exact MXF.out)
                clear h12 sF xF hro hno hu hWF ca9 fa9
                refine hK.out _ _ SX.out (fun hHeld9 => ?_)
                clear hK K
                try simp only [Act.put, List.setIfInBounds_toArray, List.set_cons_zero, List.set_cons_succ]
                refine wpAnyH_done (by kernel_rfl) ?_ _
                refine NoPanic.normal ?_
                rw [← HWF.out]
                go_wp2_with fail
                have h12 := HS12.out
                have hlF := SF_.out.len.1
                have SS0 := Lib.hid (show Bx WF w.heap.size 30 csF ∧ Bx WF w7.heap.size 47 ml from ⟨STF.out, MXF.out⟩)
                have HIF := Lib.hid (show (Try.prog.info? 30).map (·.size) = some csF.length by rw [infoState, hlF])
                have THF := Lib.hid (show WF.drew.there (w.heap.size + 1) 0 csF.length by rw [hlF]; exact RSF.out.drew.there)
                have HOF := Lib.hid SF_.out.rd.one
                have BE := Lib.hid (RSF.out.drew.setAll csF hlF)
                have SE := Lib.hid ((SF_.out.old (Below.refl _ _).drew).asides (w.heap.size + 1) 0 csF NF.out)
                have BF := Lib.hid (below_sets csF 0 WF.drew BELF.out.drew (w.heap.size + 1) (Nat.le_succ _))
                have SS1 := Lib.hid (show Bx (WF.drew.setCells (w.heap.size + 1) 0 csF) w.heap.size 30 csF ∧ Bx (WF.drew.setCells (w.heap.size + 1) 0 csF) w7.heap.size 47 ml from ⟨STF.out.drew.same (heap_sets _ _ _ _ _ (by omega)), MXF.out.drew.same (heap_sets _ _ _ _ _ (by omega))⟩)
                have HC0 := Lib.hid (show ml[0]? = some (.int .i64 (dint ds 13)) by rw [HML.out]; rfl)
                clear h12 hlF
                refine wp_region_noPanic ?_
                refine wp_region_held_drew (S := fun wS => Bx wS w.heap.size 30 csF ∧ Bx wS w7.heap.size 47 ml) (by kernel_rfl) (SS0.out) (fun hHeld => ?_)
                refine wpAnyH_take (i := 0) (oi := ?oiT5a0x) (v := .agg csF.toArray) ?hiT5a0x (by kernel_rfl) (by kernel_rfl) (by kernel_rfl) ?hqT5a0x ?hyT5a0x (by assumption) ?restT5a0x
                case hiT5a0x => (simp only [List.getElem?_toArray, List.getElem?_cons_zero] <;> rfl)
                case hqT5a0x => exact fun _ _ _ h => h
                case hyT5a0x => exact (yieldsIf_load_mid (by rfl) 30 (.tmp 5) rfl w.heap.size 0 (by simp [Act.eval]) csF _ (fun _ h => Bx.range h.1) Try.underlying30 rfl HIF.out)
                try simp only [Act.put, List.setIfInBounds_toArray, List.set_cons_zero, List.set_cons_succ]
                refine wpAnyH_take (i := 1) (oi := ?oiT5a1x) (v := ?vT5a1x) ?hiT5a1x (by kernel_rfl) (by kernel_rfl) (by kernel_rfl) ?hqT5a1x ?hyT5a1x (by assumption) ?restT5a1x
                case hiT5a1x => (simp only [List.getElem?_toArray, List.getElem?_cons_succ, List.getElem?_cons_zero] <;> rfl)
                case hqT5a1x => exact fun _ _ _ h => h
                case hyT5a1x => exact Or.inl ⟨by rfl, by (intro wS hSw; have s5 := Bx.cell hSw.2 0 _ HC0.out; go_simp; try with_reducible rfl)⟩
                try simp only [Act.put, List.setIfInBounds_toArray, List.set_cons_zero, List.set_cons_succ]
                refine wpAnyH_take (i := 2) (oi := ?oiT5a2x) (v := ?vT5a2x) ?hiT5a2x (by kernel_rfl) (by kernel_rfl) (by kernel_rfl) ?hqT5a2x ?hyT5a2x (by assumption) ?restT5a2x
                case hiT5a2x => (simp only [List.getElem?_toArray, List.getElem?_cons_succ, List.getElem?_cons_zero] <;> rfl)
                case hqT5a2x => exact fun _ _ _ h => h
                case hyT5a2x => exact Or.inl ⟨by rfl, by (intro wS hSw; have s5 := Bx.cell hSw.2 0 _ HC0.out; go_simp; try with_reducible rfl)⟩
                try simp only [Act.put, List.setIfInBounds_toArray, List.set_cons_zero, List.set_cons_succ]
                refine wpAnyH_ready (rs := [3]) (by kernel_rfl) (by simp) ?_
                refine AllReadyH.cons (o := ?oiT5a3x) ?hiT5a3x (fun K hK => ?hsT5a3x) AllReadyH.nil
                case hiT5a3x => (simp only [List.getElem?_toArray, List.getElem?_cons_succ, List.getElem?_cons_zero] <;> rfl)
                refine step_store_mid rfl 30 (.tmp 10) (.tmp 98) rfl (w.heap.size + 1) 0 csF (by simp [Act.eval]) (by simp [Act.eval]) THF.out HIF.out HOF.out ?_
                refine hK.out _ _ SS1.out (fun hHeld3 => ?_)
                clear hK K
                try simp only [Act.put]
                refine wpAnyH_take (i := 4) (oi := ?oiT5a4x) (v := ?vT5a4x) ?hiT5a4x (by kernel_rfl) (by kernel_rfl) (by kernel_rfl) ?hqT5a4x ?hyT5a4x (by assumption) ?restT5a4x
                case hiT5a4x => (simp only [List.getElem?_toArray, List.getElem?_cons_succ, List.getElem?_cons_zero] <;> rfl)
                case hqT5a4x => exact fun _ _ _ h => h
                case hyT5a4x => exact Or.inl ⟨by rfl, by (intro wS hSw; have s5 := Bx.cell hSw.2 0 _ HC0.out; go_simp; try with_reducible rfl)⟩
                try simp only [Act.put, List.setIfInBounds_toArray, List.set_cons_zero, List.set_cons_succ]
                refine wpAnyH_done (by kernel_rfl) ?_ _
                refine NoPanic.normal ?_
                go_wp2_with fail
                refine bodyPost_ret (results_cs2 Try.results15 (w.heap.size + 1) ?_ (.int .i64 (dint ds 13)) ?_ csF _ (Bx.range BE.out) Try.underlying30 rfl HIF.out) rfl ?_
                · rfl
                · rfl
                · exact ⟨csF, _, rfl, SE.out.rd, BF.out⟩
            · rcases Bool.eq_false_or_eq_true bottom with hbt | hbt
              · have hzb : (z == 2 && !bottom) = false := by rw [h2, hbt]; rfl
                rw [hp] at HLS
                obtain ⟨lx, hlx⟩ : ∃ lx, lx = listT (mvN ds id z control) z (mvO ds id) := ⟨_, rfl⟩
                have AL := Lib.hid A
                obtain ⟨r, ow⟩ := A.own
                rw [← hlx] at ow
                obtain ⟨es, row, hes⟩ := ow.row
                have hby := ow.bytes
                have HBY := Lib.hid hby
                have hel := hes.len
                obtain ⟨pu, nu, ku, rfl⟩ := own_sl row
                obtain ⟨hnu, _⟩ := own_cap row
                subst hnu
                obtain ⟨Wd, hWd⟩ : ∃ W, W = W12.drew := ⟨_, rfl⟩
                obtain ⟨WA, hWA⟩ : ∃ W, W = Wd.alloc (.cells #[.int .i64 (dint ds 13)] 3) := ⟨_, rfl⟩
                have bd : Below W12.heap.size W12 Wd := by rw [hWd]; exact (Below.refl _ _).drew
                have ba : Below W12.heap.size W12 WA := by rw [hWA]; exact bd.alloc bd.size _
                have hzd : Wd.heap.size = W12.heap.size := by rw [hWd]; rfl
                have hza : WA.heap.size = W12.heap.size + 1 := by rw [hWA]; simp [hzd]
                have cad := (AL.out.there Wd (below_grown bd)).1
                have caa := (AL.out.there WA (below_grown ba)).1
                have MXD := Lib.hid (MX12.out.old bd)
                have MXA := Lib.hid (MX12.out.old ba)
                have bn : Bx WA Wd.heap.size 3 [.int .i64 (dint ds 13)] := by rw [hWA]; exact Bx.new Wd _ _
                obtain ⟨y, hy, hesy⟩ := snoc_es hes (dint ds 13)
                have rowA := own_block row ba
                have HLV := Lib.hid (show mvL ds id z control bottom = setT (mvN ds id z control) z (mvO ds id) (lx ++ [[dI (dint ds 13)]]) by unfold mvL; rw [hzb, ← hlx]; rfl)
                have HES := Lib.hid hesy
                have HY := Lib.hid hy
                have HEL := Lib.hid hel
                have ROWA := Lib.hid rowA
                have hBS : W2.heap.size ≤ WA.heap.size := by have := HS12.out; omega
                have BA := Lib.hid ba
                have HZA := Lib.hid hza
                have HZD := Lib.hid hzd
                have HC0 := Lib.hid (show ml[0]? = some (.int .i64 (dint ds 13)) by rw [HML.out]; rfl)
                have HBS := Lib.hid hBS
                have HWD := Lib.hid hWd
                have HWA := Lib.hid hWA
                obtain ⟨zi, hEi⟩ := elemint
                have HEI := Lib.hid hEi
                have HBG := Lib.hid (show (es.length + 1) * 8 ≤ 140737488355328 by omega)
                have HMX := Lib.hid (show es.length + 1 ≤ maxLen by simp only [maxLen]; omega)
                have HCN := Lib.hid (show ∀ (j : Nat) (u : Value), ([.int .i64 (dint ds 13)] : List Value)[j]? = some u → WA.cell? (Addr.add ⟨Wd.heap.size, 0, none⟩ j) = some u from fun j u hj => by rw [Addr.add_lit, Nat.zero_add]; exact bn.cell j u hj)
                clear hEi
                clear hWd hWA hp A ow row hes hby hel bd ba hzd hza bn hy hesy rowA hBS hlx
                go_wp2_with ((with_reducible refine wpList_store_cs rfl 30 (.tmp 5) (.tmp 59) rfl w.heap.size 0 cs9 ?_ ?_ TH9.out HI9.out HO9.out ?_); rfl; rfl)
                rw [← HW12.out]
                refine HLS.out.mono ?_
                rintro e w13 ⟨rfl, rfl⟩
                clear c13 c14 f13 f14 co2
                go_wp2_with fail
                refine wp_region_noPanic ?_
                refine wp_region_held_drew (S := fun wS => Bx wS w7.heap.size 47 ml) (by kernel_rfl) (by rw [← HWD.out]; exact MXD.out) (fun hHeld => ?_)
                rw [← HWD.out]
                refine wpAnyH_take (i := 0) (oi := ?oiT6a0x) (v := ?vT6a0x) ?hiT6a0x (by kernel_rfl) (by kernel_rfl) (by kernel_rfl) ?hqT6a0x ?hyT6a0x (by assumption) ?restT6a0x
                case hiT6a0x => (simp only [List.getElem?_toArray, List.getElem?_cons_zero] <;> rfl)
                case hqT6a0x => exact fun _ _ _ h => h
                case hyT6a0x => exact Or.inl ⟨by rfl, by (intro wS hSw; have s5 := Bx.cell hSw 0 _ HC0.out; go_simp; try with_reducible rfl)⟩
                try simp only [Act.put, List.setIfInBounds_toArray, List.set_cons_zero, List.set_cons_succ]
                refine wpAnyH_take (i := 1) (oi := ?oiT6a1x) (v := ?vT6a1x) ?hiT6a1x (by kernel_rfl) (by kernel_rfl) (by kernel_rfl) ?hqT6a1x ?hyT6a1x (by assumption) ?restT6a1x
                case hiT6a1x => (simp only [List.getElem?_toArray, List.getElem?_cons_succ, List.getElem?_cons_zero] <;> rfl)
                case hqT6a1x => exact fun _ _ _ h => h
                case hyT6a1x => exact Or.inl ⟨by rfl, by (intro wS hSw; have s5 := Bx.cell hSw 0 _ HC0.out; go_simp; try with_reducible rfl)⟩
                try simp only [Act.put, List.setIfInBounds_toArray, List.set_cons_zero, List.set_cons_succ]
                refine wpAnyH_take (i := 2) (oi := ?oiT6a2x) (v := ?vT6a2x) ?hiT6a2x (by kernel_rfl) (by kernel_rfl) (by kernel_rfl) ?hqT6a2x ?hyT6a2x (by assumption) ?restT6a2x
                case hiT6a2x => (simp only [List.getElem?_toArray, List.getElem?_cons_succ, List.getElem?_cons_zero] <;> rfl)
                case hqT6a2x => exact fun _ _ _ h => h
                case hyT6a2x => exact Or.inl ⟨by rfl, by (intro wS hSw; have s5 := Bx.cell hSw 0 _ HC0.out; go_simp; try with_reducible rfl)⟩
                try simp only [Act.put, List.setIfInBounds_toArray, List.set_cons_zero, List.set_cons_succ]
                refine wpAnyH_take (i := 4) (oi := ?oiT6a4x) (v := ?vT6a4x) ?hiT6a4x (by kernel_rfl) (by kernel_rfl) (by kernel_rfl) ?hqT6a4x ?hyT6a4x (by assumption) ?restT6a4x
                case hiT6a4x => (simp only [List.getElem?_toArray, List.getElem?_cons_succ, List.getElem?_cons_zero] <;> rfl)
                case hqT6a4x => exact fun _ _ _ h => h
                case hyT6a4x => exact Or.inl ⟨by rfl, by (intro wS hSw; have s5 := Bx.cell hSw 0 _ HC0.out; go_simp; try with_reducible rfl)⟩
                try simp only [Act.put, List.setIfInBounds_toArray, List.set_cons_zero, List.set_cons_succ]
                refine wpAnyH_take (i := 5) (oi := ?oiT6a5x) (v := ?vT6a5x) ?hiT6a5x (by kernel_rfl) (by kernel_rfl) (by kernel_rfl) ?hqT6a5x ?hyT6a5x (by assumption) ?restT6a5x
                case hiT6a5x => (simp only [List.getElem?_toArray, List.getElem?_cons_succ, List.getElem?_cons_zero] <;> rfl)
                case hqT6a5x => exact fun _ _ _ h => h
                case hyT6a5x => exact Or.inl ⟨by rfl, by (intro wS hSw; have s5 := Bx.cell hSw 0 _ HC0.out; go_simp; try with_reducible rfl)⟩
                try simp only [Act.put, List.setIfInBounds_toArray, List.set_cons_zero, List.set_cons_succ]
                refine wpAnyH_ready (rs := [3, 6]) (by kernel_rfl) (by simp) ?_
                refine AllReadyH.cons (o := ?oaT6a) ?haT6a (fun K hK => ?saT6a) (AllReadyH.cons (o := ?obT6a) ?hbT6a (fun K hK => ?sbT6a) AllReadyH.nil)
                case haT6a => (simp only [List.getElem?_toArray, List.getElem?_cons_succ, List.getElem?_cons_zero] <;> rfl)
                case hbT6a => (simp only [List.getElem?_toArray, List.getElem?_cons_succ, List.getElem?_cons_zero] <;> rfl)
                case saT6a =>
                  go_simp
                  refine hK.out _ _ MXD.out (fun hHeld3 => ?_)
                  clear hK K
                  try simp only [Act.put, List.setIfInBounds_toArray, List.set_cons_zero, List.set_cons_succ]
                  refine wpAnyH_ready (rs := [6]) (by kernel_rfl) (by simp) ?_
                  refine AllReadyH.cons (o := ?oiT7a6x) ?hiT7a6x (fun K hK => ?hsT7a6x) AllReadyH.nil
                  case hiT7a6x => (simp only [List.getElem?_toArray, List.getElem?_cons_succ, List.getElem?_cons_zero] <;> rfl)
                  go_simp
                  rw [← HWA.out]
                  refine hK.out _ _ MXA.out (fun hHeld6 => ?_)
                  clear hK K
                  try simp only [Act.put, List.setIfInBounds_toArray, List.set_cons_zero, List.set_cons_succ]
                  refine wpAnyH_ready (rs := [7]) (by kernel_rfl) (by simp) ?_
                  refine AllReadyH.cons (o := ?oiT7a7x) ?hiT7a7x (fun K hK => ?hsT7a7x) AllReadyH.nil
                  case hiT7a7x => (simp only [List.getElem?_toArray, List.getElem?_cons_succ, List.getElem?_cons_zero] <;> rfl)
                  refine step_append_own2 rfl (.tmp 92) (.tmp 95) 24 rfl W2.heap.size HEI.out (.slice pu es.length ku) es.length (es.flatMap Subtype.val) rfl ROWA.out ⟨Wd.heap.size, 0, none⟩ 1 1 [.int .i64 (dint ds 13)] rfl rfl HCN.out (fun u hu => by rw [List.mem_singleton.1 hu]; rfl) HMX.out HBG.out HBS.out (by decide) ?_
                  intro v9 w14 own9 gr9 fr9
                  obtain ⟨p9, n9, k9, rfl⟩ := own_sl own9
                  obtain ⟨ca9, fa9⟩ := AL.out.there w14 (below_grownBy BA.out gr9)
                  have O9 := Lib.hid own9
                  have G9 := Lib.hid gr9
                  have F9 := Lib.hid fr9
                  have S9 := Lib.hid (MXA.out.same (gr9.block _ (by have := HS12.out; have := HZA.out; omega) (fun e => AL.out.nb _ N12.out.2.2 e.symm)))
                  clear own9 gr9 fr9
                  refine hK.out _ _ S9.out (fun hHeld7 => ?_)
                  clear hK K
                  try simp only [Act.put, List.setIfInBounds_toArray, List.set_cons_zero, List.set_cons_succ]
                  refine wpAnyH_take (i := 8) (oi := ?oiT7a8x) (v := ?vT7a8x) ?hiT7a8x (by kernel_rfl) (by kernel_rfl) (by kernel_rfl) ?hqT7a8x ?hyT7a8x (by assumption) ?restT7a8x
                  case hiT7a8x => (simp only [List.getElem?_toArray, List.getElem?_cons_succ, List.getElem?_cons_zero] <;> rfl)
                  case hqT7a8x => exact fun _ _ _ h => h
                  case hyT7a8x => exact Or.inl ⟨by rfl, by (intro wS hSw; have s5 := Bx.cell hSw 0 _ HC0.out; go_simp; try with_reducible rfl)⟩
                  try simp only [Act.put, List.setIfInBounds_toArray, List.set_cons_zero, List.set_cons_succ]
                  refine wpAnyH_ready (rs := [9]) (by kernel_rfl) (by simp) ?_
                  refine AllReadyH.cons (o := ?oiT7a9x) ?hiT7a9x (fun K hK => ?hsT7a9x) AllReadyH.nil
                  case hiT7a9x => (simp only [List.getElem?_toArray, List.getElem?_cons_succ, List.getElem?_cons_zero] <;> rfl)
                  go_simp
                  have h12 := HS12.out
                  obtain ⟨ρF, csF, sF, xF, hro, hno, hu⟩ := AL.out.put w14 (L + 128 + 8) (.slice p9 n9 k9) (lx ++ [[dI (dint ds 13)]]) (by omega) (below_grownBy BA.out G9.out) ⟨es ++ [y], (by rw [List.length_append, List.flatMap_append, show [y].flatMap Subtype.val = [.int .i64 (dint ds 13)] by rw [List.flatMap_cons, HY.out]; rfl]; exact O9.out), HES.out.frame (by omega) (Nat.le_refl _) (fun _ _ _ => rfl) (fun _ h _ => h)⟩ (by simp only [List.length_append, List.length_singleton]; have := HBY.out; omega) (fun g hg => by
                    rcases F9.out with e | e
                    · exact .inl (by rw [← hg, e])
                    · rw [e] at hg
                      cases hg
                      exact .inr (by have := HZA.out; omega))
                  obtain ⟨WF, hWF⟩ : ∃ W, W = w14.setCell ⟨ab, oo, none⟩ (.slice p9 n9 k9) := ⟨_, rfl⟩
                  rw [← hWF] at sF xF hno hu
                  have SF_ := Lib.hid (show OwnS ρF (L + 128 + 8) W2.heap.size WF csF (mvL ds id z control bottom) by rw [HLV.out]; exact sF)
                  have STF := Lib.hid xF
                  have RSF := Lib.hid (RS12.out.same (hno _ (by omega) (by omega) N12.out.2.1))
                  have MXF := Lib.hid (MX12.out.same (hno _ (by omega) (by omega) N12.out.2.2))
                  have BELF := Lib.hid ((hu w.heap.size (by omega) (Nat.le_refl _)).below BEL12.out h12.2.2.2 (Nat.le_refl _))
                  have NF := Lib.hid ((hro _ (by omega)).trans N12.out.2.1)
                  have HWF := Lib.hid hWF
                  have SX := Lib.hid (show Bx (w14.setCell ⟨ab, oo, none⟩ (.slice p9 n9 k9)) w7.heap.size 47 ml from by rw [← hWF]; exact MXF.out)
                  clear h12 sF xF hro hno hu hWF ca9 fa9
                  refine hK.out _ _ SX.out (fun hHeld9 => ?_)
                  clear hK K
                  try simp only [Act.put, List.setIfInBounds_toArray, List.set_cons_zero, List.set_cons_succ]
                  refine wpAnyH_done (by kernel_rfl) ?_ _
                  refine NoPanic.normal ?_
                  rw [← HWF.out]
                  go_wp2_with fail
                  have h12 := HS12.out
                  have hlF := SF_.out.len.1
                  have SS0 := Lib.hid (show Bx WF w.heap.size 30 csF ∧ Bx WF w7.heap.size 47 ml from ⟨STF.out, MXF.out⟩)
                  have HIF := Lib.hid (show (Try.prog.info? 30).map (·.size) = some csF.length by rw [infoState, hlF])
                  have THF := Lib.hid (show WF.drew.there (w.heap.size + 1) 0 csF.length by rw [hlF]; exact RSF.out.drew.there)
                  have HOF := Lib.hid SF_.out.rd.one
                  have BE := Lib.hid (RSF.out.drew.setAll csF hlF)
                  have SE := Lib.hid ((SF_.out.old (Below.refl _ _).drew).asides (w.heap.size + 1) 0 csF NF.out)
                  have BF := Lib.hid (below_sets csF 0 WF.drew BELF.out.drew (w.heap.size + 1) (Nat.le_succ _))
                  have SS1 := Lib.hid (show Bx (WF.drew.setCells (w.heap.size + 1) 0 csF) w.heap.size 30 csF ∧ Bx (WF.drew.setCells (w.heap.size + 1) 0 csF) w7.heap.size 47 ml from ⟨STF.out.drew.same (heap_sets _ _ _ _ _ (by omega)), MXF.out.drew.same (heap_sets _ _ _ _ _ (by omega))⟩)
                  have HC0 := Lib.hid (show ml[0]? = some (.int .i64 (dint ds 13)) by rw [HML.out]; rfl)
                  clear h12 hlF
                  refine wp_region_noPanic ?_
                  refine wp_region_held_drew (S := fun wS => Bx wS w.heap.size 30 csF ∧ Bx wS w7.heap.size 47 ml) (by kernel_rfl) (SS0.out) (fun hHeld => ?_)
                  refine wpAnyH_take (i := 0) (oi := ?oiT9a0x) (v := .agg csF.toArray) ?hiT9a0x (by kernel_rfl) (by kernel_rfl) (by kernel_rfl) ?hqT9a0x ?hyT9a0x (by assumption) ?restT9a0x
                  case hiT9a0x => (simp only [List.getElem?_toArray, List.getElem?_cons_zero] <;> rfl)
                  case hqT9a0x => exact fun _ _ _ h => h
                  case hyT9a0x => exact (yieldsIf_load_mid (by rfl) 30 (.tmp 5) rfl w.heap.size 0 (by simp [Act.eval]) csF _ (fun _ h => Bx.range h.1) Try.underlying30 rfl HIF.out)
                  try simp only [Act.put, List.setIfInBounds_toArray, List.set_cons_zero, List.set_cons_succ]
                  refine wpAnyH_take (i := 1) (oi := ?oiT9a1x) (v := ?vT9a1x) ?hiT9a1x (by kernel_rfl) (by kernel_rfl) (by kernel_rfl) ?hqT9a1x ?hyT9a1x (by assumption) ?restT9a1x
                  case hiT9a1x => (simp only [List.getElem?_toArray, List.getElem?_cons_succ, List.getElem?_cons_zero] <;> rfl)
                  case hqT9a1x => exact fun _ _ _ h => h
                  case hyT9a1x => exact Or.inl ⟨by rfl, by (intro wS hSw; have s5 := Bx.cell hSw.2 0 _ HC0.out; go_simp; try with_reducible rfl)⟩
                  try simp only [Act.put, List.setIfInBounds_toArray, List.set_cons_zero, List.set_cons_succ]
                  refine wpAnyH_take (i := 2) (oi := ?oiT9a2x) (v := ?vT9a2x) ?hiT9a2x (by kernel_rfl) (by kernel_rfl) (by kernel_rfl) ?hqT9a2x ?hyT9a2x (by assumption) ?restT9a2x
                  case hiT9a2x => (simp only [List.getElem?_toArray, List.getElem?_cons_succ, List.getElem?_cons_zero] <;> rfl)
                  case hqT9a2x => exact fun _ _ _ h => h
                  case hyT9a2x => exact Or.inl ⟨by rfl, by (intro wS hSw; have s5 := Bx.cell hSw.2 0 _ HC0.out; go_simp; try with_reducible rfl)⟩
                  try simp only [Act.put, List.setIfInBounds_toArray, List.set_cons_zero, List.set_cons_succ]
                  refine wpAnyH_ready (rs := [3]) (by kernel_rfl) (by simp) ?_
                  refine AllReadyH.cons (o := ?oiT9a3x) ?hiT9a3x (fun K hK => ?hsT9a3x) AllReadyH.nil
                  case hiT9a3x => (simp only [List.getElem?_toArray, List.getElem?_cons_succ, List.getElem?_cons_zero] <;> rfl)
                  refine step_store_mid rfl 30 (.tmp 10) (.tmp 98) rfl (w.heap.size + 1) 0 csF (by simp [Act.eval]) (by simp [Act.eval]) THF.out HIF.out HOF.out ?_
                  refine hK.out _ _ SS1.out (fun hHeld3 => ?_)
                  clear hK K
                  try simp only [Act.put]
                  refine wpAnyH_take (i := 4) (oi := ?oiT9a4x) (v := ?vT9a4x) ?hiT9a4x (by kernel_rfl) (by kernel_rfl) (by kernel_rfl) ?hqT9a4x ?hyT9a4x (by assumption) ?restT9a4x
                  case hiT9a4x => (simp only [List.getElem?_toArray, List.getElem?_cons_succ, List.getElem?_cons_zero] <;> rfl)
                  case hqT9a4x => exact fun _ _ _ h => h
                  case hyT9a4x => exact Or.inl ⟨by rfl, by (intro wS hSw; have s5 := Bx.cell hSw.2 0 _ HC0.out; go_simp; try with_reducible rfl)⟩
                  try simp only [Act.put, List.setIfInBounds_toArray, List.set_cons_zero, List.set_cons_succ]
                  refine wpAnyH_done (by kernel_rfl) ?_ _
                  refine NoPanic.normal ?_
                  go_wp2_with fail
                  refine bodyPost_ret (results_cs2 Try.results15 (w.heap.size + 1) ?_ (.int .i64 (dint ds 13)) ?_ csF _ (Bx.range BE.out) Try.underlying30 rfl HIF.out) rfl ?_
                  · rfl
                  · rfl
                  · exact ⟨csF, _, rfl, SE.out.rd, BF.out⟩
                case sbT6a =>
                  go_simp
                  rw [← HWA.out]
                  refine hK.out _ _ MXA.out (fun hHeld6 => ?_)
                  clear hK K
                  try simp only [Act.put, List.setIfInBounds_toArray, List.set_cons_zero, List.set_cons_succ]
                  refine wpAnyH_ready (rs := [3]) (by kernel_rfl) (by simp) ?_
                  refine AllReadyH.cons (o := ?oiT8a3x) ?hiT8a3x (fun K hK => ?hsT8a3x) AllReadyH.nil
                  case hiT8a3x => (simp only [List.getElem?_toArray, List.getElem?_cons_succ, List.getElem?_cons_zero] <;> rfl)
                  go_simp
                  refine hK.out _ _ MXA.out (fun hHeld3 => ?_)
                  clear hK K
                  try simp only [Act.put, List.setIfInBounds_toArray, List.set_cons_zero, List.set_cons_succ]
                  refine wpAnyH_ready (rs := [7]) (by kernel_rfl) (by simp) ?_
                  refine AllReadyH.cons (o := ?oiT8a7x) ?hiT8a7x (fun K hK => ?hsT8a7x) AllReadyH.nil
                  case hiT8a7x => (simp only [List.getElem?_toArray, List.getElem?_cons_succ, List.getElem?_cons_zero] <;> rfl)
                  refine step_append_own2 rfl (.tmp 92) (.tmp 95) 24 rfl W2.heap.size HEI.out (.slice pu es.length ku) es.length (es.flatMap Subtype.val) rfl ROWA.out ⟨Wd.heap.size, 0, none⟩ 1 1 [.int .i64 (dint ds 13)] rfl rfl HCN.out (fun u hu => by rw [List.mem_singleton.1 hu]; rfl) HMX.out HBG.out HBS.out (by decide) ?_
                  intro v9 w14 own9 gr9 fr9
                  obtain ⟨p9, n9, k9, rfl⟩ := own_sl own9
                  obtain ⟨ca9, fa9⟩ := AL.out.there w14 (below_grownBy BA.out gr9)
                  have O9 := Lib.hid own9
                  have G9 := Lib.hid gr9
                  have F9 := Lib.hid fr9
                  have S9 := Lib.hid (MXA.out.same (gr9.block _ (by have := HS12.out; have := HZA.out; omega) (fun e => AL.out.nb _ N12.out.2.2 e.symm)))
                  clear own9 gr9 fr9
                  refine hK.out _ _ S9.out (fun hHeld7 => ?_)
                  clear hK K
                  try simp only [Act.put, List.setIfInBounds_toArray, List.set_cons_zero, List.set_cons_succ]
                  refine wpAnyH_take (i := 8) (oi := ?oiT8a8x) (v := ?vT8a8x) ?hiT8a8x (by kernel_rfl) (by kernel_rfl) (by kernel_rfl) ?hqT8a8x ?hyT8a8x (by assumption) ?restT8a8x
                  case hiT8a8x => (simp only [List.getElem?_toArray, List.getElem?_cons_succ, List.getElem?_cons_zero] <;> rfl)
                  case hqT8a8x => exact fun _ _ _ h => h
                  case hyT8a8x => exact Or.inl ⟨by rfl, by (intro wS hSw; have s5 := Bx.cell hSw 0 _ HC0.out; go_simp; try with_reducible rfl)⟩
                  try simp only [Act.put, List.setIfInBounds_toArray, List.set_cons_zero, List.set_cons_succ]
                  refine wpAnyH_ready (rs := [9]) (by kernel_rfl) (by simp) ?_
                  refine AllReadyH.cons (o := ?oiT8a9x) ?hiT8a9x (fun K hK => ?hsT8a9x) AllReadyH.nil
                  case hiT8a9x => (simp only [List.getElem?_toArray, List.getElem?_cons_succ, List.getElem?_cons_zero] <;> rfl)
                  go_simp
                  have h12 := HS12.out
                  obtain ⟨ρF, csF, sF, xF, hro, hno, hu⟩ := AL.out.put w14 (L + 128 + 8) (.slice p9 n9 k9) (lx ++ [[dI (dint ds 13)]]) (by omega) (below_grownBy BA.out G9.out) ⟨es ++ [y], (by rw [List.length_append, List.flatMap_append, show [y].flatMap Subtype.val = [.int .i64 (dint ds 13)] by rw [List.flatMap_cons, HY.out]; rfl]; exact O9.out), HES.out.frame (by omega) (Nat.le_refl _) (fun _ _ _ => rfl) (fun _ h _ => h)⟩ (by simp only [List.length_append, List.length_singleton]; have := HBY.out; omega) (fun g hg => by
                    rcases F9.out with e | e
                    · exact .inl (by rw [← hg, e])
                    · rw [e] at hg
                      cases hg
                      exact .inr (by have := HZA.out; omega))
                  obtain ⟨WF, hWF⟩ : ∃ W, W = w14.setCell ⟨ab, oo, none⟩ (.slice p9 n9 k9) := ⟨_, rfl⟩
                  rw [← hWF] at sF xF hno hu
                  have SF_ := Lib.hid (show OwnS ρF (L + 128 + 8) W2.heap.size WF csF (mvL ds id z control bottom) by rw [HLV.out]; exact sF)
                  have STF := Lib.hid xF
                  have RSF := Lib.hid (RS12.out.same (hno _ (by omega) (by omega) N12.out.2.1))
                  have MXF := Lib.hid (MX12.out.same (hno _ (by omega) (by omega) N12.out.2.2))
                  have BELF := Lib.hid ((hu w.heap.size (by omega) (Nat.le_refl _)).below BEL12.out h12.2.2.2 (Nat.le_refl _))
                  have NF := Lib.hid ((hro _ (by omega)).trans N12.out.2.1)
                  have HWF := Lib.hid hWF
                  have SX := Lib.hid (show Bx (w14.setCell ⟨ab, oo, none⟩ (.slice p9 n9 k9)) w7.heap.size 47 ml from by rw [← hWF]; exact MXF.out)
                  clear h12 sF xF hro hno hu hWF ca9 fa9
                  refine hK.out _ _ SX.out (fun hHeld9 => ?_)
                  clear hK K
                  try simp only [Act.put, List.setIfInBounds_toArray, List.set_cons_zero, List.set_cons_succ]
                  refine wpAnyH_done (by kernel_rfl) ?_ _
                  refine NoPanic.normal ?_
                  rw [← HWF.out]
                  go_wp2_with fail
                  have h12 := HS12.out
                  have hlF := SF_.out.len.1
                  have SS0 := Lib.hid (show Bx WF w.heap.size 30 csF ∧ Bx WF w7.heap.size 47 ml from ⟨STF.out, MXF.out⟩)
                  have HIF := Lib.hid (show (Try.prog.info? 30).map (·.size) = some csF.length by rw [infoState, hlF])
                  have THF := Lib.hid (show WF.drew.there (w.heap.size + 1) 0 csF.length by rw [hlF]; exact RSF.out.drew.there)
                  have HOF := Lib.hid SF_.out.rd.one
                  have BE := Lib.hid (RSF.out.drew.setAll csF hlF)
                  have SE := Lib.hid ((SF_.out.old (Below.refl _ _).drew).asides (w.heap.size + 1) 0 csF NF.out)
                  have BF := Lib.hid (below_sets csF 0 WF.drew BELF.out.drew (w.heap.size + 1) (Nat.le_succ _))
                  have SS1 := Lib.hid (show Bx (WF.drew.setCells (w.heap.size + 1) 0 csF) w.heap.size 30 csF ∧ Bx (WF.drew.setCells (w.heap.size + 1) 0 csF) w7.heap.size 47 ml from ⟨STF.out.drew.same (heap_sets _ _ _ _ _ (by omega)), MXF.out.drew.same (heap_sets _ _ _ _ _ (by omega))⟩)
                  have HC0 := Lib.hid (show ml[0]? = some (.int .i64 (dint ds 13)) by rw [HML.out]; rfl)
                  clear h12 hlF
                  refine wp_region_noPanic ?_
                  refine wp_region_held_drew (S := fun wS => Bx wS w.heap.size 30 csF ∧ Bx wS w7.heap.size 47 ml) (by kernel_rfl) (SS0.out) (fun hHeld => ?_)
                  refine wpAnyH_take (i := 0) (oi := ?oiT10a0x) (v := .agg csF.toArray) ?hiT10a0x (by kernel_rfl) (by kernel_rfl) (by kernel_rfl) ?hqT10a0x ?hyT10a0x (by assumption) ?restT10a0x
                  case hiT10a0x => (simp only [List.getElem?_toArray, List.getElem?_cons_zero] <;> rfl)
                  case hqT10a0x => exact fun _ _ _ h => h
                  case hyT10a0x => exact (yieldsIf_load_mid (by rfl) 30 (.tmp 5) rfl w.heap.size 0 (by simp [Act.eval]) csF _ (fun _ h => Bx.range h.1) Try.underlying30 rfl HIF.out)
                  try simp only [Act.put, List.setIfInBounds_toArray, List.set_cons_zero, List.set_cons_succ]
                  refine wpAnyH_take (i := 1) (oi := ?oiT10a1x) (v := ?vT10a1x) ?hiT10a1x (by kernel_rfl) (by kernel_rfl) (by kernel_rfl) ?hqT10a1x ?hyT10a1x (by assumption) ?restT10a1x
                  case hiT10a1x => (simp only [List.getElem?_toArray, List.getElem?_cons_succ, List.getElem?_cons_zero] <;> rfl)
                  case hqT10a1x => exact fun _ _ _ h => h
                  case hyT10a1x => exact Or.inl ⟨by rfl, by (intro wS hSw; have s5 := Bx.cell hSw.2 0 _ HC0.out; go_simp; try with_reducible rfl)⟩
                  try simp only [Act.put, List.setIfInBounds_toArray, List.set_cons_zero, List.set_cons_succ]
                  refine wpAnyH_take (i := 2) (oi := ?oiT10a2x) (v := ?vT10a2x) ?hiT10a2x (by kernel_rfl) (by kernel_rfl) (by kernel_rfl) ?hqT10a2x ?hyT10a2x (by assumption) ?restT10a2x
                  case hiT10a2x => (simp only [List.getElem?_toArray, List.getElem?_cons_succ, List.getElem?_cons_zero] <;> rfl)
                  case hqT10a2x => exact fun _ _ _ h => h
                  case hyT10a2x => exact Or.inl ⟨by rfl, by (intro wS hSw; have s5 := Bx.cell hSw.2 0 _ HC0.out; go_simp; try with_reducible rfl)⟩
                  try simp only [Act.put, List.setIfInBounds_toArray, List.set_cons_zero, List.set_cons_succ]
                  refine wpAnyH_ready (rs := [3]) (by kernel_rfl) (by simp) ?_
                  refine AllReadyH.cons (o := ?oiT10a3x) ?hiT10a3x (fun K hK => ?hsT10a3x) AllReadyH.nil
                  case hiT10a3x => (simp only [List.getElem?_toArray, List.getElem?_cons_succ, List.getElem?_cons_zero] <;> rfl)
                  refine step_store_mid rfl 30 (.tmp 10) (.tmp 98) rfl (w.heap.size + 1) 0 csF (by simp [Act.eval]) (by simp [Act.eval]) THF.out HIF.out HOF.out ?_
                  refine hK.out _ _ SS1.out (fun hHeld3 => ?_)
                  clear hK K
                  try simp only [Act.put]
                  refine wpAnyH_take (i := 4) (oi := ?oiT10a4x) (v := ?vT10a4x) ?hiT10a4x (by kernel_rfl) (by kernel_rfl) (by kernel_rfl) ?hqT10a4x ?hyT10a4x (by assumption) ?restT10a4x
                  case hiT10a4x => (simp only [List.getElem?_toArray, List.getElem?_cons_succ, List.getElem?_cons_zero] <;> rfl)
                  case hqT10a4x => exact fun _ _ _ h => h
                  case hyT10a4x => exact Or.inl ⟨by rfl, by (intro wS hSw; have s5 := Bx.cell hSw.2 0 _ HC0.out; go_simp; try with_reducible rfl)⟩
                  try simp only [Act.put, List.setIfInBounds_toArray, List.set_cons_zero, List.set_cons_succ]
                  refine wpAnyH_done (by kernel_rfl) ?_ _
                  refine NoPanic.normal ?_
                  go_wp2_with fail
                  refine bodyPost_ret (results_cs2 Try.results15 (w.heap.size + 1) ?_ (.int .i64 (dint ds 13)) ?_ csF _ (Bx.range BE.out) Try.underlying30 rfl HIF.out) rfl ?_
                  · rfl
                  · rfl
                  · exact ⟨csF, _, rfl, SE.out.rd, BF.out⟩
              · have hzb : (z == 2 && !bottom) = true := by rw [h2, hbt]; rfl
                rw [hp] at HLS
                obtain ⟨lx, hlx⟩ : ∃ lx, lx = listT (mvN ds id z control) z (mvO ds id) := ⟨_, rfl⟩
                have AL := Lib.hid A
                obtain ⟨r, ow⟩ := A.own
                rw [← hlx] at ow
                obtain ⟨es, row, hes⟩ := ow.row
                have hby := ow.bytes
                have HBY := Lib.hid hby
                have hel := hes.len
                obtain ⟨pu, nu, ku, rfl⟩ := own_sl row
                obtain ⟨hnu, _⟩ := own_cap row
                subst hnu
                obtain ⟨Wd, hWd⟩ : ∃ W, W = W12.drew := ⟨_, rfl⟩
                obtain ⟨WA, hWA⟩ : ∃ W, W = Wd.alloc (.cells #[.int .i64 (dint ds 13)] 3) := ⟨_, rfl⟩
                have bd : Below W12.heap.size W12 Wd := by rw [hWd]; exact (Below.refl _ _).drew
                have ba : Below W12.heap.size W12 WA := by rw [hWA]; exact bd.alloc bd.size _
                have hzd : Wd.heap.size = W12.heap.size := by rw [hWd]; rfl
                have hza : WA.heap.size = W12.heap.size + 1 := by rw [hWA]; simp [hzd]
                have cad := (AL.out.there Wd (below_grown bd)).1
                have caa := (AL.out.there WA (below_grown ba)).1
                have MXD := Lib.hid (MX12.out.old bd)
                have MXA := Lib.hid (MX12.out.old ba)
                have bn : Bx WA Wd.heap.size 3 [.int .i64 (dint ds 13)] := by rw [hWA]; exact Bx.new Wd _ _
                obtain ⟨y, hy, hesy⟩ := cons_es hes (dint ds 13)
                have rowA := own_block row ba
                have HLV := Lib.hid (show mvL ds id z control bottom = setT (mvN ds id z control) z (mvO ds id) ([dI (dint ds 13)] :: lx) by unfold mvL; rw [hzb, ← hlx]; rfl)
                have HES := Lib.hid hesy
                have HY := Lib.hid hy
                have HEL := Lib.hid hel
                have ROWA := Lib.hid rowA
                have hBS : W2.heap.size ≤ WA.heap.size := by have := HS12.out; omega
                have BA := Lib.hid ba
                have HZA := Lib.hid hza
                have HZD := Lib.hid hzd
                have HC0 := Lib.hid (show ml[0]? = some (.int .i64 (dint ds 13)) by rw [HML.out]; rfl)
                have HBS := Lib.hid hBS
                have HWD := Lib.hid hWd
                have HWA := Lib.hid hWA
                have HIN := Lib.hid (show Calls Try.prog 40 #[.slice pu es.length ku, .int .i64 0, .slice (some ⟨Wd.heap.size, 0, none⟩) 1 1] WA fun e w' => ∃ ao m c, e = .returned (.slice ao m c) ∧ w'.ownsRow W2.heap.size 3 1 (.slice ao m c) (es.length + 1) ((y :: es).flatMap Subtype.val) ∧ WA.grownBy w' (Value.slice pu es.length ku).ownBlock ∧ ((Value.slice ao m c).ownBlock = (Value.slice pu es.length ku).ownBlock ∨ (Value.slice ao m c).ownBlock = some WA.heap.size) from insertint W2.heap.size _ es 0 Wd.heap.size y WA rowA (Nat.zero_le _) (by omega) (by rw [hy]; exact bn) (fun e => by have := (row.lt _ e).2; omega) hBS)
                clear hWd hWA hp A ow row hes hby hel bd ba hzd hza bn hy hesy rowA hBS hlx
                go_wp2_with ((with_reducible refine wpList_store_cs rfl 30 (.tmp 5) (.tmp 59) rfl w.heap.size 0 cs9 ?_ ?_ TH9.out HI9.out HO9.out ?_); rfl; rfl)
                rw [← HW12.out]
                refine HLS.out.mono ?_
                rintro e w13 ⟨rfl, rfl⟩
                clear c13 c14 f13 f14 co2
                go_wp2_with fail
                refine wp_region_noPanic ?_
                refine wp_region_held_drew (S := fun wS => Bx wS w7.heap.size 47 ml) (by kernel_rfl) (by rw [← HWD.out]; exact MXD.out) (fun hHeld => ?_)
                rw [← HWD.out]
                refine wpAnyH_take (i := 0) (oi := ?oiT11a0x) (v := ?vT11a0x) ?hiT11a0x (by kernel_rfl) (by kernel_rfl) (by kernel_rfl) ?hqT11a0x ?hyT11a0x (by assumption) ?restT11a0x
                case hiT11a0x => (simp only [List.getElem?_toArray, List.getElem?_cons_zero] <;> rfl)
                case hqT11a0x => exact fun _ _ _ h => h
                case hyT11a0x => exact Or.inl ⟨by rfl, by (intro wS hSw; have s5 := Bx.cell hSw 0 _ HC0.out; go_simp; try with_reducible rfl)⟩
                try simp only [Act.put, List.setIfInBounds_toArray, List.set_cons_zero, List.set_cons_succ]
                refine wpAnyH_take (i := 1) (oi := ?oiT11a1x) (v := ?vT11a1x) ?hiT11a1x (by kernel_rfl) (by kernel_rfl) (by kernel_rfl) ?hqT11a1x ?hyT11a1x (by assumption) ?restT11a1x
                case hiT11a1x => (simp only [List.getElem?_toArray, List.getElem?_cons_succ, List.getElem?_cons_zero] <;> rfl)
                case hqT11a1x => exact fun _ _ _ h => h
                case hyT11a1x => exact Or.inl ⟨by rfl, by (intro wS hSw; have s5 := Bx.cell hSw 0 _ HC0.out; go_simp; try with_reducible rfl)⟩
                try simp only [Act.put, List.setIfInBounds_toArray, List.set_cons_zero, List.set_cons_succ]
                refine wpAnyH_take (i := 2) (oi := ?oiT11a2x) (v := ?vT11a2x) ?hiT11a2x (by kernel_rfl) (by kernel_rfl) (by kernel_rfl) ?hqT11a2x ?hyT11a2x (by assumption) ?restT11a2x
                case hiT11a2x => (simp only [List.getElem?_toArray, List.getElem?_cons_succ, List.getElem?_cons_zero] <;> rfl)
                case hqT11a2x => exact fun _ _ _ h => h
                case hyT11a2x => exact Or.inl ⟨by rfl, by (intro wS hSw; have s5 := Bx.cell hSw 0 _ HC0.out; go_simp; try with_reducible rfl)⟩
                try simp only [Act.put, List.setIfInBounds_toArray, List.set_cons_zero, List.set_cons_succ]
                refine wpAnyH_take (i := 4) (oi := ?oiT11a4x) (v := ?vT11a4x) ?hiT11a4x (by kernel_rfl) (by kernel_rfl) (by kernel_rfl) ?hqT11a4x ?hyT11a4x (by assumption) ?restT11a4x
                case hiT11a4x => (simp only [List.getElem?_toArray, List.getElem?_cons_succ, List.getElem?_cons_zero] <;> rfl)
                case hqT11a4x => exact fun _ _ _ h => h
                case hyT11a4x => exact Or.inl ⟨by rfl, by (intro wS hSw; have s5 := Bx.cell hSw 0 _ HC0.out; go_simp; try with_reducible rfl)⟩
                try simp only [Act.put, List.setIfInBounds_toArray, List.set_cons_zero, List.set_cons_succ]
                refine wpAnyH_take (i := 5) (oi := ?oiT11a5x) (v := ?vT11a5x) ?hiT11a5x (by kernel_rfl) (by kernel_rfl) (by kernel_rfl) ?hqT11a5x ?hyT11a5x (by assumption) ?restT11a5x
                case hiT11a5x => (simp only [List.getElem?_toArray, List.getElem?_cons_succ, List.getElem?_cons_zero] <;> rfl)
                case hqT11a5x => exact fun _ _ _ h => h
                case hyT11a5x => exact Or.inl ⟨by rfl, by (intro wS hSw; have s5 := Bx.cell hSw 0 _ HC0.out; go_simp; try with_reducible rfl)⟩
                try simp only [Act.put, List.setIfInBounds_toArray, List.set_cons_zero, List.set_cons_succ]
                refine wpAnyH_ready (rs := [3, 6]) (by kernel_rfl) (by simp) ?_
                refine AllReadyH.cons (o := ?oaT11a) ?haT11a (fun K hK => ?saT11a) (AllReadyH.cons (o := ?obT11a) ?hbT11a (fun K hK => ?sbT11a) AllReadyH.nil)
                case haT11a => (simp only [List.getElem?_toArray, List.getElem?_cons_succ, List.getElem?_cons_zero] <;> rfl)
                case hbT11a => (simp only [List.getElem?_toArray, List.getElem?_cons_succ, List.getElem?_cons_zero] <;> rfl)
                case saT11a =>
                  go_simp
                  refine hK.out _ _ MXD.out (fun hHeld3 => ?_)
                  clear hK K
                  try simp only [Act.put, List.setIfInBounds_toArray, List.set_cons_zero, List.set_cons_succ]
                  refine wpAnyH_ready (rs := [6]) (by kernel_rfl) (by simp) ?_
                  refine AllReadyH.cons (o := ?oiT12a6x) ?hiT12a6x (fun K hK => ?hsT12a6x) AllReadyH.nil
                  case hiT12a6x => (simp only [List.getElem?_toArray, List.getElem?_cons_succ, List.getElem?_cons_zero] <;> rfl)
                  go_simp
                  rw [← HWA.out]
                  refine hK.out _ _ MXA.out (fun hHeld6 => ?_)
                  clear hK K
                  try simp only [Act.put, List.setIfInBounds_toArray, List.set_cons_zero, List.set_cons_succ]
                  refine wpAnyH_ready (rs := [7]) (by kernel_rfl) (by simp) ?_
                  refine AllReadyH.cons (o := ?oiT12a7x) ?hiT12a7x (fun K hK => ?hsT12a7x) AllReadyH.nil
                  case hiT12a7x => (simp only [List.getElem?_toArray, List.getElem?_cons_succ, List.getElem?_cons_zero] <;> rfl)
                  go_simp
                  refine HIN.out.mono ?_
                  rintro e w14 ⟨p9, n9, k9, rfl, own9, gr9, fr9⟩
                  obtain ⟨ca9, fa9⟩ := AL.out.there w14 (below_grownBy BA.out gr9)
                  have O9 := Lib.hid own9
                  have G9 := Lib.hid gr9
                  have F9 := Lib.hid fr9
                  have S9 := Lib.hid (MXA.out.same (gr9.block _ (by have := HS12.out; have := HZA.out; omega) (fun e => AL.out.nb _ N12.out.2.2 e.symm)))
                  clear own9 gr9 fr9
                  refine hK.out _ _ S9.out (fun hHeld7 => ?_)
                  clear hK K
                  try simp only [Act.put, List.setIfInBounds_toArray, List.set_cons_zero, List.set_cons_succ]
                  refine wpAnyH_take (i := 8) (oi := ?oiT12a8x) (v := ?vT12a8x) ?hiT12a8x (by kernel_rfl) (by kernel_rfl) (by kernel_rfl) ?hqT12a8x ?hyT12a8x (by assumption) ?restT12a8x
                  case hiT12a8x => (simp only [List.getElem?_toArray, List.getElem?_cons_succ, List.getElem?_cons_zero] <;> rfl)
                  case hqT12a8x => exact fun _ _ _ h => h
                  case hyT12a8x => exact Or.inl ⟨by rfl, by (intro wS hSw; have s5 := Bx.cell hSw 0 _ HC0.out; go_simp; try with_reducible rfl)⟩
                  try simp only [Act.put, List.setIfInBounds_toArray, List.set_cons_zero, List.set_cons_succ]
                  refine wpAnyH_ready (rs := [9]) (by kernel_rfl) (by simp) ?_
                  refine AllReadyH.cons (o := ?oiT12a9x) ?hiT12a9x (fun K hK => ?hsT12a9x) AllReadyH.nil
                  case hiT12a9x => (simp only [List.getElem?_toArray, List.getElem?_cons_succ, List.getElem?_cons_zero] <;> rfl)
                  go_simp
                  have h12 := HS12.out
                  obtain ⟨ρF, csF, sF, xF, hro, hno, hu⟩ := AL.out.put w14 (L + 128 + 8) (.slice p9 n9 k9) ([dI (dint ds 13)] :: lx) (by omega) (below_grownBy BA.out G9.out) ⟨y :: es, O9.out, HES.out.frame (by omega) (Nat.le_refl _) (fun _ _ _ => rfl) (fun _ h _ => h)⟩ (by simp only [List.length_cons]; have := HBY.out; omega) (fun g hg => by
                    rcases F9.out with e | e
                    · exact .inl (by rw [← hg, e])
                    · rw [e] at hg
                      cases hg
                      exact .inr (by have := HZA.out; omega))
                  obtain ⟨WF, hWF⟩ : ∃ W, W = w14.setCell ⟨ab, oo, none⟩ (.slice p9 n9 k9) := ⟨_, rfl⟩
                  rw [← hWF] at sF xF hno hu
                  have SF_ := Lib.hid (show OwnS ρF (L + 128 + 8) W2.heap.size WF csF (mvL ds id z control bottom) by rw [HLV.out]; exact sF)
                  have STF := Lib.hid xF
                  have RSF := Lib.hid (RS12.out.same (hno _ (by omega) (by omega) N12.out.2.1))
                  have MXF := Lib.hid (MX12.out.same (hno _ (by omega) (by omega) N12.out.2.2))
                  have BELF := Lib.hid ((hu w.heap.size (by omega) (Nat.le_refl _)).below BEL12.out h12.2.2.2 (Nat.le_refl _))
                  have NF := Lib.hid ((hro _ (by omega)).trans N12.out.2.1)
                  have HWF := Lib.hid hWF
                  have SX := Lib.hid (show Bx (w14.setCell ⟨ab, oo, none⟩ (.slice p9 n9 k9)) w7.heap.size 47 ml from by rw [← hWF]; exact MXF.out)
                  clear h12 sF xF hro hno hu hWF ca9 fa9
                  refine hK.out _ _ SX.out (fun hHeld9 => ?_)
                  clear hK K
                  try simp only [Act.put, List.setIfInBounds_toArray, List.set_cons_zero, List.set_cons_succ]
                  refine wpAnyH_done (by kernel_rfl) ?_ _
                  refine NoPanic.normal ?_
                  rw [← HWF.out]
                  go_wp2_with fail
                  have h12 := HS12.out
                  have hlF := SF_.out.len.1
                  have SS0 := Lib.hid (show Bx WF w.heap.size 30 csF ∧ Bx WF w7.heap.size 47 ml from ⟨STF.out, MXF.out⟩)
                  have HIF := Lib.hid (show (Try.prog.info? 30).map (·.size) = some csF.length by rw [infoState, hlF])
                  have THF := Lib.hid (show WF.drew.there (w.heap.size + 1) 0 csF.length by rw [hlF]; exact RSF.out.drew.there)
                  have HOF := Lib.hid SF_.out.rd.one
                  have BE := Lib.hid (RSF.out.drew.setAll csF hlF)
                  have SE := Lib.hid ((SF_.out.old (Below.refl _ _).drew).asides (w.heap.size + 1) 0 csF NF.out)
                  have BF := Lib.hid (below_sets csF 0 WF.drew BELF.out.drew (w.heap.size + 1) (Nat.le_succ _))
                  have SS1 := Lib.hid (show Bx (WF.drew.setCells (w.heap.size + 1) 0 csF) w.heap.size 30 csF ∧ Bx (WF.drew.setCells (w.heap.size + 1) 0 csF) w7.heap.size 47 ml from ⟨STF.out.drew.same (heap_sets _ _ _ _ _ (by omega)), MXF.out.drew.same (heap_sets _ _ _ _ _ (by omega))⟩)
                  have HC0 := Lib.hid (show ml[0]? = some (.int .i64 (dint ds 13)) by rw [HML.out]; rfl)
                  clear h12 hlF
                  refine wp_region_noPanic ?_
                  refine wp_region_held_drew (S := fun wS => Bx wS w.heap.size 30 csF ∧ Bx wS w7.heap.size 47 ml) (by kernel_rfl) (SS0.out) (fun hHeld => ?_)
                  refine wpAnyH_take (i := 0) (oi := ?oiT14a0x) (v := .agg csF.toArray) ?hiT14a0x (by kernel_rfl) (by kernel_rfl) (by kernel_rfl) ?hqT14a0x ?hyT14a0x (by assumption) ?restT14a0x
                  case hiT14a0x => (simp only [List.getElem?_toArray, List.getElem?_cons_zero] <;> rfl)
                  case hqT14a0x => exact fun _ _ _ h => h
                  case hyT14a0x => exact (yieldsIf_load_mid (by rfl) 30 (.tmp 5) rfl w.heap.size 0 (by simp [Act.eval]) csF _ (fun _ h => Bx.range h.1) Try.underlying30 rfl HIF.out)
                  try simp only [Act.put, List.setIfInBounds_toArray, List.set_cons_zero, List.set_cons_succ]
                  refine wpAnyH_take (i := 1) (oi := ?oiT14a1x) (v := ?vT14a1x) ?hiT14a1x (by kernel_rfl) (by kernel_rfl) (by kernel_rfl) ?hqT14a1x ?hyT14a1x (by assumption) ?restT14a1x
                  case hiT14a1x => (simp only [List.getElem?_toArray, List.getElem?_cons_succ, List.getElem?_cons_zero] <;> rfl)
                  case hqT14a1x => exact fun _ _ _ h => h
                  case hyT14a1x => exact Or.inl ⟨by rfl, by (intro wS hSw; have s5 := Bx.cell hSw.2 0 _ HC0.out; go_simp; try with_reducible rfl)⟩
                  try simp only [Act.put, List.setIfInBounds_toArray, List.set_cons_zero, List.set_cons_succ]
                  refine wpAnyH_take (i := 2) (oi := ?oiT14a2x) (v := ?vT14a2x) ?hiT14a2x (by kernel_rfl) (by kernel_rfl) (by kernel_rfl) ?hqT14a2x ?hyT14a2x (by assumption) ?restT14a2x
                  case hiT14a2x => (simp only [List.getElem?_toArray, List.getElem?_cons_succ, List.getElem?_cons_zero] <;> rfl)
                  case hqT14a2x => exact fun _ _ _ h => h
                  case hyT14a2x => exact Or.inl ⟨by rfl, by (intro wS hSw; have s5 := Bx.cell hSw.2 0 _ HC0.out; go_simp; try with_reducible rfl)⟩
                  try simp only [Act.put, List.setIfInBounds_toArray, List.set_cons_zero, List.set_cons_succ]
                  refine wpAnyH_ready (rs := [3]) (by kernel_rfl) (by simp) ?_
                  refine AllReadyH.cons (o := ?oiT14a3x) ?hiT14a3x (fun K hK => ?hsT14a3x) AllReadyH.nil
                  case hiT14a3x => (simp only [List.getElem?_toArray, List.getElem?_cons_succ, List.getElem?_cons_zero] <;> rfl)
                  refine step_store_mid rfl 30 (.tmp 10) (.tmp 98) rfl (w.heap.size + 1) 0 csF (by simp [Act.eval]) (by simp [Act.eval]) THF.out HIF.out HOF.out ?_
                  refine hK.out _ _ SS1.out (fun hHeld3 => ?_)
                  clear hK K
                  try simp only [Act.put]
                  refine wpAnyH_take (i := 4) (oi := ?oiT14a4x) (v := ?vT14a4x) ?hiT14a4x (by kernel_rfl) (by kernel_rfl) (by kernel_rfl) ?hqT14a4x ?hyT14a4x (by assumption) ?restT14a4x
                  case hiT14a4x => (simp only [List.getElem?_toArray, List.getElem?_cons_succ, List.getElem?_cons_zero] <;> rfl)
                  case hqT14a4x => exact fun _ _ _ h => h
                  case hyT14a4x => exact Or.inl ⟨by rfl, by (intro wS hSw; have s5 := Bx.cell hSw.2 0 _ HC0.out; go_simp; try with_reducible rfl)⟩
                  try simp only [Act.put, List.setIfInBounds_toArray, List.set_cons_zero, List.set_cons_succ]
                  refine wpAnyH_done (by kernel_rfl) ?_ _
                  refine NoPanic.normal ?_
                  go_wp2_with fail
                  refine bodyPost_ret (results_cs2 Try.results15 (w.heap.size + 1) ?_ (.int .i64 (dint ds 13)) ?_ csF _ (Bx.range BE.out) Try.underlying30 rfl HIF.out) rfl ?_
                  · rfl
                  · rfl
                  · exact ⟨csF, _, rfl, SE.out.rd, BF.out⟩
                case sbT11a =>
                  go_simp
                  rw [← HWA.out]
                  refine hK.out _ _ MXA.out (fun hHeld6 => ?_)
                  clear hK K
                  try simp only [Act.put, List.setIfInBounds_toArray, List.set_cons_zero, List.set_cons_succ]
                  refine wpAnyH_ready (rs := [3]) (by kernel_rfl) (by simp) ?_
                  refine AllReadyH.cons (o := ?oiT13a3x) ?hiT13a3x (fun K hK => ?hsT13a3x) AllReadyH.nil
                  case hiT13a3x => (simp only [List.getElem?_toArray, List.getElem?_cons_succ, List.getElem?_cons_zero] <;> rfl)
                  go_simp
                  refine hK.out _ _ MXA.out (fun hHeld3 => ?_)
                  clear hK K
                  try simp only [Act.put, List.setIfInBounds_toArray, List.set_cons_zero, List.set_cons_succ]
                  refine wpAnyH_ready (rs := [7]) (by kernel_rfl) (by simp) ?_
                  refine AllReadyH.cons (o := ?oiT13a7x) ?hiT13a7x (fun K hK => ?hsT13a7x) AllReadyH.nil
                  case hiT13a7x => (simp only [List.getElem?_toArray, List.getElem?_cons_succ, List.getElem?_cons_zero] <;> rfl)
                  go_simp
                  refine HIN.out.mono ?_
                  rintro e w14 ⟨p9, n9, k9, rfl, own9, gr9, fr9⟩
                  obtain ⟨ca9, fa9⟩ := AL.out.there w14 (below_grownBy BA.out gr9)
                  have O9 := Lib.hid own9
                  have G9 := Lib.hid gr9
                  have F9 := Lib.hid fr9
                  have S9 := Lib.hid (MXA.out.same (gr9.block _ (by have := HS12.out; have := HZA.out; omega) (fun e => AL.out.nb _ N12.out.2.2 e.symm)))
                  clear own9 gr9 fr9
                  refine hK.out _ _ S9.out (fun hHeld7 => ?_)
                  clear hK K
                  try simp only [Act.put, List.setIfInBounds_toArray, List.set_cons_zero, List.set_cons_succ]
                  refine wpAnyH_take (i := 8) (oi := ?oiT13a8x) (v := ?vT13a8x) ?hiT13a8x (by kernel_rfl) (by kernel_rfl) (by kernel_rfl) ?hqT13a8x ?hyT13a8x (by assumption) ?restT13a8x
                  case hiT13a8x => (simp only [List.getElem?_toArray, List.getElem?_cons_succ, List.getElem?_cons_zero] <;> rfl)
                  case hqT13a8x => exact fun _ _ _ h => h
                  case hyT13a8x => exact Or.inl ⟨by rfl, by (intro wS hSw; have s5 := Bx.cell hSw 0 _ HC0.out; go_simp; try with_reducible rfl)⟩
                  try simp only [Act.put, List.setIfInBounds_toArray, List.set_cons_zero, List.set_cons_succ]
                  refine wpAnyH_ready (rs := [9]) (by kernel_rfl) (by simp) ?_
                  refine AllReadyH.cons (o := ?oiT13a9x) ?hiT13a9x (fun K hK => ?hsT13a9x) AllReadyH.nil
                  case hiT13a9x => (simp only [List.getElem?_toArray, List.getElem?_cons_succ, List.getElem?_cons_zero] <;> rfl)
                  go_simp
                  have h12 := HS12.out
                  obtain ⟨ρF, csF, sF, xF, hro, hno, hu⟩ := AL.out.put w14 (L + 128 + 8) (.slice p9 n9 k9) ([dI (dint ds 13)] :: lx) (by omega) (below_grownBy BA.out G9.out) ⟨y :: es, O9.out, HES.out.frame (by omega) (Nat.le_refl _) (fun _ _ _ => rfl) (fun _ h _ => h)⟩ (by simp only [List.length_cons]; have := HBY.out; omega) (fun g hg => by
                    rcases F9.out with e | e
                    · exact .inl (by rw [← hg, e])
                    · rw [e] at hg
                      cases hg
                      exact .inr (by have := HZA.out; omega))
                  obtain ⟨WF, hWF⟩ : ∃ W, W = w14.setCell ⟨ab, oo, none⟩ (.slice p9 n9 k9) := ⟨_, rfl⟩
                  rw [← hWF] at sF xF hno hu
                  have SF_ := Lib.hid (show OwnS ρF (L + 128 + 8) W2.heap.size WF csF (mvL ds id z control bottom) by rw [HLV.out]; exact sF)
                  have STF := Lib.hid xF
                  have RSF := Lib.hid (RS12.out.same (hno _ (by omega) (by omega) N12.out.2.1))
                  have MXF := Lib.hid (MX12.out.same (hno _ (by omega) (by omega) N12.out.2.2))
                  have BELF := Lib.hid ((hu w.heap.size (by omega) (Nat.le_refl _)).below BEL12.out h12.2.2.2 (Nat.le_refl _))
                  have NF := Lib.hid ((hro _ (by omega)).trans N12.out.2.1)
                  have HWF := Lib.hid hWF
                  have SX := Lib.hid (show Bx (w14.setCell ⟨ab, oo, none⟩ (.slice p9 n9 k9)) w7.heap.size 47 ml from by rw [← hWF]; exact MXF.out)
                  clear h12 sF xF hro hno hu hWF ca9 fa9
                  refine hK.out _ _ SX.out (fun hHeld9 => ?_)
                  clear hK K
                  try simp only [Act.put, List.setIfInBounds_toArray, List.set_cons_zero, List.set_cons_succ]
                  refine wpAnyH_done (by kernel_rfl) ?_ _
                  refine NoPanic.normal ?_
                  rw [← HWF.out]
                  go_wp2_with fail
                  have h12 := HS12.out
                  have hlF := SF_.out.len.1
                  have SS0 := Lib.hid (show Bx WF w.heap.size 30 csF ∧ Bx WF w7.heap.size 47 ml from ⟨STF.out, MXF.out⟩)
                  have HIF := Lib.hid (show (Try.prog.info? 30).map (·.size) = some csF.length by rw [infoState, hlF])
                  have THF := Lib.hid (show WF.drew.there (w.heap.size + 1) 0 csF.length by rw [hlF]; exact RSF.out.drew.there)
                  have HOF := Lib.hid SF_.out.rd.one
                  have BE := Lib.hid (RSF.out.drew.setAll csF hlF)
                  have SE := Lib.hid ((SF_.out.old (Below.refl _ _).drew).asides (w.heap.size + 1) 0 csF NF.out)
                  have BF := Lib.hid (below_sets csF 0 WF.drew BELF.out.drew (w.heap.size + 1) (Nat.le_succ _))
                  have SS1 := Lib.hid (show Bx (WF.drew.setCells (w.heap.size + 1) 0 csF) w.heap.size 30 csF ∧ Bx (WF.drew.setCells (w.heap.size + 1) 0 csF) w7.heap.size 47 ml from ⟨STF.out.drew.same (heap_sets _ _ _ _ _ (by omega)), MXF.out.drew.same (heap_sets _ _ _ _ _ (by omega))⟩)
                  have HC0 := Lib.hid (show ml[0]? = some (.int .i64 (dint ds 13)) by rw [HML.out]; rfl)
                  clear h12 hlF
                  refine wp_region_noPanic ?_
                  refine wp_region_held_drew (S := fun wS => Bx wS w.heap.size 30 csF ∧ Bx wS w7.heap.size 47 ml) (by kernel_rfl) (SS0.out) (fun hHeld => ?_)
                  refine wpAnyH_take (i := 0) (oi := ?oiT15a0x) (v := .agg csF.toArray) ?hiT15a0x (by kernel_rfl) (by kernel_rfl) (by kernel_rfl) ?hqT15a0x ?hyT15a0x (by assumption) ?restT15a0x
                  case hiT15a0x => (simp only [List.getElem?_toArray, List.getElem?_cons_zero] <;> rfl)
                  case hqT15a0x => exact fun _ _ _ h => h
                  case hyT15a0x => exact (yieldsIf_load_mid (by rfl) 30 (.tmp 5) rfl w.heap.size 0 (by simp [Act.eval]) csF _ (fun _ h => Bx.range h.1) Try.underlying30 rfl HIF.out)
                  try simp only [Act.put, List.setIfInBounds_toArray, List.set_cons_zero, List.set_cons_succ]
                  refine wpAnyH_take (i := 1) (oi := ?oiT15a1x) (v := ?vT15a1x) ?hiT15a1x (by kernel_rfl) (by kernel_rfl) (by kernel_rfl) ?hqT15a1x ?hyT15a1x (by assumption) ?restT15a1x
                  case hiT15a1x => (simp only [List.getElem?_toArray, List.getElem?_cons_succ, List.getElem?_cons_zero] <;> rfl)
                  case hqT15a1x => exact fun _ _ _ h => h
                  case hyT15a1x => exact Or.inl ⟨by rfl, by (intro wS hSw; have s5 := Bx.cell hSw.2 0 _ HC0.out; go_simp; try with_reducible rfl)⟩
                  try simp only [Act.put, List.setIfInBounds_toArray, List.set_cons_zero, List.set_cons_succ]
                  refine wpAnyH_take (i := 2) (oi := ?oiT15a2x) (v := ?vT15a2x) ?hiT15a2x (by kernel_rfl) (by kernel_rfl) (by kernel_rfl) ?hqT15a2x ?hyT15a2x (by assumption) ?restT15a2x
                  case hiT15a2x => (simp only [List.getElem?_toArray, List.getElem?_cons_succ, List.getElem?_cons_zero] <;> rfl)
                  case hqT15a2x => exact fun _ _ _ h => h
                  case hyT15a2x => exact Or.inl ⟨by rfl, by (intro wS hSw; have s5 := Bx.cell hSw.2 0 _ HC0.out; go_simp; try with_reducible rfl)⟩
                  try simp only [Act.put, List.setIfInBounds_toArray, List.set_cons_zero, List.set_cons_succ]
                  refine wpAnyH_ready (rs := [3]) (by kernel_rfl) (by simp) ?_
                  refine AllReadyH.cons (o := ?oiT15a3x) ?hiT15a3x (fun K hK => ?hsT15a3x) AllReadyH.nil
                  case hiT15a3x => (simp only [List.getElem?_toArray, List.getElem?_cons_succ, List.getElem?_cons_zero] <;> rfl)
                  refine step_store_mid rfl 30 (.tmp 10) (.tmp 98) rfl (w.heap.size + 1) 0 csF (by simp [Act.eval]) (by simp [Act.eval]) THF.out HIF.out HOF.out ?_
                  refine hK.out _ _ SS1.out (fun hHeld3 => ?_)
                  clear hK K
                  try simp only [Act.put]
                  refine wpAnyH_take (i := 4) (oi := ?oiT15a4x) (v := ?vT15a4x) ?hiT15a4x (by kernel_rfl) (by kernel_rfl) (by kernel_rfl) ?hqT15a4x ?hyT15a4x (by assumption) ?restT15a4x
                  case hiT15a4x => (simp only [List.getElem?_toArray, List.getElem?_cons_succ, List.getElem?_cons_zero] <;> rfl)
                  case hqT15a4x => exact fun _ _ _ h => h
                  case hyT15a4x => exact Or.inl ⟨by rfl, by (intro wS hSw; have s5 := Bx.cell hSw.2 0 _ HC0.out; go_simp; try with_reducible rfl)⟩
                  try simp only [Act.put, List.setIfInBounds_toArray, List.set_cons_zero, List.set_cons_succ]
                  refine wpAnyH_done (by kernel_rfl) ?_ _
                  refine NoPanic.normal ?_
                  go_wp2_with fail
                  refine bodyPost_ret (results_cs2 Try.results15 (w.heap.size + 1) ?_ (.int .i64 (dint ds 13)) ?_ csF _ (Bx.range BE.out) Try.underlying30 rfl HIF.out) rfl ?_
                  · rfl
                  · rfl
                  · exact ⟨csF, _, rfl, SE.out.rd, BF.out⟩
        · by_cases hne0 : z = 0
          · subst hne0
            have hmv : moveT ds id 0 control bottom = (mvL ds id 0 control bottom, dint ds 13) := by unfold moveT; rw [if_pos ⟨hh, by omega, by omega⟩, if_neg (fun hx => hx.2.1 rfl)]
            rw [hmv]
            dsimp only
            clear hmv
            go_enter Try.func15, Try.ntmps15
            go_wp2_with ((with_reducible refine wpList_load_mid rfl 30 (.tmp 5) rfl w.heap.size 0 ?_ cs _ RG.out Try.underlying30 rfl HI.out ?_); rfl)
            rw [← HW0.out]
            refine HF.out.mono ?_
            rintro e w1 ⟨oc, rfl, ro, b1⟩
            have hs0 := XX.out.size
            have hb1 := b1.size
            have hol := ro.len.1
            rw [kObject_len] at hol
            obtain ⟨W1, hW1⟩ : ∃ W, W = w1.alloc (.cells #[.int .i64 0, .int .i64 0, .int .i64 0, .int .i64 0, .int .i64 0, .bool false, .bool false, .bool false, .bool false, .int .i64 0, .int .i64 0, .int .i64 0, .int .i64 0, .int .i64 0, .int .i64 0, .int .i64 0, .bool false, .int .i64 0, .int .i64 0] 47) := ⟨_, rfl⟩
            have oz : Bx W1 w1.heap.size 47 zObjC.1 := by rw [hW1]; exact Bx.new w1 zObjC.1 _
            have ht := oz.there
            have hz19 : zObjC.1.length = oc.length := by rw [hol]; rfl
            rw [hz19, hW1] at ht
            have THO := Lib.hid ht
            have HIO := Lib.hid (show (Try.prog.info? 47).map (·.size) = some oc.length by rw [infoObject, hol])
            have HOO := Lib.hid ro.one
            obtain ⟨W2, hW2⟩ : ∃ W, W = W1.setCells w1.heap.size 0 oc := ⟨_, rfl⟩
            have ox2 : Bx W2 w1.heap.size 47 oc := by rw [hW2]; exact oz.setAll oc hz19.symm
            have bb : Below W0.heap.size W0 W2 := by
              rw [hW2]
              exact below_sets _ _ _ (b1.trans (show Below W0.heap.size w1 W1 by rw [hW1]; exact (Below.refl _ _).alloc hb1 _)) _ hb1
            have st2 := XX.out.st.old bb
            have rg2 := st2.range
            rw [hW2, hW1] at rg2
            have RG2 := Lib.hid rg2
            have hb2 := bb.size
            have hm1 : w1.heap.size < W2.heap.size := ox2.lt
            have HC := Lib.hid (copy_prog _ L cs ds W2 (HR.out.old bb) (by omega))
            have ST2 := Lib.hid st2
            have RS2 := Lib.hid (XX.out.rs.old bb)
            have OX2 := Lib.hid ox2
            have RO := Lib.hid ro
            have BEL2 := Lib.hid (XX.out.bel.trans (bb.mono XX.out.bel.size))
            have HS2 := Lib.hid (show w.heap.size + 2 ≤ w1.heap.size ∧ w1.heap.size < W2.heap.size by omega)
            have HW2 := Lib.hid (show W2 = _ by rw [hW2, hW1])
            clear hs0 hb1 b1 hol hW1 oz ht hz19 hW2 ox2 bb st2 rg2 hb2 hm1 ro
            go_wp2_with (first | ((with_reducible refine wpList_store_cs rfl 47 (.tmp 12) (.tmp 20) rfl w1.heap.size 0 oc ?_ ?_ THO.out HIO.out HOO.out ?_); rfl; rfl) | ((with_reducible refine wpList_load_mid rfl 30 (.tmp 5) rfl w.heap.size 0 ?_ cs _ RG2.out Try.underlying30 rfl HI.out ?_); rfl))
            rw [← HW2.out]
            refine HC.out.mono ?_
            rintro e w3 ⟨cs3, rfl, ⟨ρ3, s3, hn3⟩, b3⟩
            have h2 := HS2.out
            have hb3 := b3.size
            have st3 := ST2.out.old b3
            have hl3 := s3.len.1
            have hl31 : cs3.length = cs.length := by rw [hl3, HLN.out]
            obtain ⟨W4, hW4⟩ : ∃ W, W = w3.setCells w.heap.size 0 cs3 := ⟨_, rfl⟩
            have TH3 := Lib.hid (show w3.there w.heap.size 0 cs3.length by rw [hl31]; exact st3.there)
            have HI3 := Lib.hid (show (Try.prog.info? 30).map (·.size) = some cs3.length by rw [infoState, hl3])
            have HO3 := Lib.hid s3.rd.one
            have n0 : ρ3 w.heap.size = .none := hn3 _ (by omega) (fun hF => by have := hF.2; omega)
            have n1 : ρ3 (w.heap.size + 1) = .none := hn3 _ (by omega) (fun hF => by have := hF.2; omega)
            have n2 : ρ3 w1.heap.size = .none := hn3 _ (by omega) (fun hF => by have := hF.2; omega)
            have ST4 := Lib.hid (show Bx W4 w.heap.size 30 cs3 by rw [hW4]; exact st3.setAll cs3 hl31)
            have RS4 := Lib.hid (show Bx W4 (w.heap.size + 1) 30 zsC by rw [hW4]; exact (RS2.out.old b3).same (heap_sets _ _ _ _ _ (by omega)))
            have OX4 := Lib.hid (show Bx W4 w1.heap.size 47 oc by rw [hW4]; exact (OX2.out.old b3).same (heap_sets _ _ _ _ _ (by omega)))
            have S4 := Lib.hid (show OwnS ρ3 L W2.heap.size W4 cs3 ds by rw [hW4]; exact s3.asides _ 0 cs3 n0)
            have BEL4 := Lib.hid (show Below w.heap.size w W4 by rw [hW4]; exact below_sets _ _ _ (BEL2.out.trans (b3.mono (by omega))) _ (Nat.le_refl _))
            have N4 := Lib.hid (show ρ3 w.heap.size = .none ∧ ρ3 (w.heap.size + 1) = .none ∧ ρ3 w1.heap.size = .none from ⟨n0, n1, n2⟩)
            have HS4 := Lib.hid (show w.heap.size + 2 ≤ w1.heap.size ∧ w1.heap.size < W4.heap.size ∧ W2.heap.size ≤ W4.heap.size ∧ w.heap.size ≤ W2.heap.size by rw [hW4, sets_size]; omega)
            have HL3 := Lib.hid hl3
            have rg4 := ST4.out.range
            rw [hW4] at rg4
            have RG4 := Lib.hid rg4
            have HW4 := Lib.hid hW4
            clear h2 hb3 st3 hl3 hl31 n0 n1 n2 rg4 s3 hn3 b3 hW4
            have rgo := OX4.out.range
            rw [HW4.out] at rgo
            have RGO4 := Lib.hid rgo
            have HRM := Lib.hid (remove_prog ρ3 L W2.heap.size cs3 ds oc (findO id (dxs ds 1)) W4 S4.out (RO.out.any flatObject) (by have := HS4.out; omega) (by omega) (by
              have e : dint (findO id (dxs ds 1)) 0 = id := by
                unfold findO
                cases hf : (dxs ds 1).find? (fun o => dint o 0 == id) with
                | none => unfold hasO at hh; rw [hf] at hh; cases hh
                | some x => have := List.find?_some hf; exact eq_of_beq this
              rw [e]; exact hh))
            clear rgo
            go_wp2_with (first | ((with_reducible refine wpList_store_cs rfl 30 (.tmp 5) (.tmp 23) rfl w.heap.size 0 cs3 ?_ ?_ TH3.out HI3.out HO3.out ?_); rfl; rfl) | ((with_reducible refine wpList_load_mid rfl 30 (.tmp 5) rfl w.heap.size 0 ?_ cs3 _ RG4.out Try.underlying30 rfl HI3.out ?_); rfl) | ((with_reducible refine wpList_load_mid rfl 47 (.tmp 12) rfl w1.heap.size 0 ?_ oc _ RGO4.out Try.underlying47 rfl HIO.out ?_); rfl))
            rw [← HW4.out]
            refine HRM.out.mono ?_
            rintro e w5 ⟨cs5, rfl, ρ5, s5, u5⟩
            have s5 : OwnS ρ5 L W2.heap.size w5 cs5 (mvR ds id) := s5
            have h4 := HS4.out
            have h5 := u5.size
            have st5 := ST4.out.same (u5.keep _ (by omega) (.inr (.inl N4.out.1)))
            have rs5 := RS4.out.same (u5.keep _ (by omega) (.inr (.inl N4.out.2.1)))
            have ox5 := OX4.out.same (u5.keep _ (by omega) (.inr (.inl N4.out.2.2)))
            have q0 : ρ5 w.heap.size = .none := (u5.role _ (by omega)).trans N4.out.1
            have q1 : ρ5 (w.heap.size + 1) = .none := (u5.role _ (by omega)).trans N4.out.2.1
            have q2 : ρ5 w1.heap.size = .none := (u5.role _ (by omega)).trans N4.out.2.2
            have hl5 := s5.len.1
            have hl53 : cs5.length = cs3.length := by rw [hl5, HL3.out]
            obtain ⟨W6, hW6⟩ : ∃ W, W = w5.setCells w.heap.size 0 cs5 := ⟨_, rfl⟩
            have TH5 := Lib.hid (show w5.there w.heap.size 0 cs5.length by rw [hl53]; exact st5.there)
            have HI5 := Lib.hid (show (Try.prog.info? 30).map (·.size) = some cs5.length by rw [infoState, hl5])
            have HO5 := Lib.hid s5.rd.one
            have ST6 := Lib.hid (show Bx W6 w.heap.size 30 cs5 by rw [hW6]; exact st5.setAll cs5 hl53)
            have RS6 := Lib.hid (show Bx W6 (w.heap.size + 1) 30 zsC by rw [hW6]; exact rs5.same (heap_sets _ _ _ _ _ (by omega)))
            have OX6 := Lib.hid (show Bx W6 w1.heap.size 47 oc by rw [hW6]; exact ox5.same (heap_sets _ _ _ _ _ (by omega)))
            have S6 := Lib.hid (show OwnS ρ5 L W2.heap.size W6 cs5 (mvR ds id) by rw [hW6]; exact s5.asides _ 0 cs5 q0)
            have BEL6 := Lib.hid (show Below w.heap.size w W6 by rw [hW6]; exact below_sets _ _ _ (u5.below BEL4.out h4.2.2.2 (by omega)) _ (Nat.le_refl _))
            have N6 := Lib.hid (show ρ5 w.heap.size = .none ∧ ρ5 (w.heap.size + 1) = .none ∧ ρ5 w1.heap.size = .none from ⟨q0, q1, q2⟩)
            have HS6 := Lib.hid (show w.heap.size + 2 ≤ w1.heap.size ∧ w1.heap.size < W6.heap.size ∧ W2.heap.size ≤ W6.heap.size ∧ w.heap.size ≤ W2.heap.size by rw [hW6, sets_size]; omega)
            have HL5 := Lib.hid hl5
            have rg6 := ST6.out.range
            have co5 := OX6.out.cell 5 _ (RO.out.bool 5 rfl).1
            rw [ht] at co5
            have rgo := OX6.out.range
            rw [hW6] at rg6 co5 rgo
            have RG6 := Lib.hid rg6
            have RGO6 := Lib.hid rgo
            have HW6 := Lib.hid hW6
            clear h4 h5 st5 rs5 ox5 q0 q1 q2 hl5 hl53 rg6 rgo s5 u5 hW6
            have c13 := ST6.out.cell 13 _ (S6.out.rd.int 13 rfl).1
            have c14 := ST6.out.cell 14 _ (S6.out.rd.int 14 rfl).1
            have e13 : dint (mvR ds id) 13 = dint ds 13 := dint_of (removeT_keep _ _ 13 (by omega))
            have e14 : dint (mvR ds id) 14 = dint ds 14 := dint_of (removeT_keep _ _ 14 (by omega))
            rw [e13, HW6.out] at c13
            rw [e14, HW6.out] at c14
            have HMV := Lib.hid (moved_prog oc (findO id (dxs ds 1)) (dint ds 13) 0 control (dint ds 14) W6 (RO.out.any flatObject))
            obtain ⟨ml, hml⟩ : ∃ ml, ml = mvC ds id 0 control := ⟨_, rfl⟩
            have hml2 : movedC (findO id (dxs ds 1)) (dint ds 13) 0 control (dint ds 14) = ml := hml.symm
            rw [hml2] at HMV
            have HML := Lib.hid hml
            clear e13 e14 hml hml2
            go_wp2_with (first | ((with_reducible refine wpList_store_cs rfl 30 (.tmp 5) (.tmp 37) rfl w.heap.size 0 cs5 ?_ ?_ TH5.out HI5.out HO5.out ?_); rfl; rfl) | ((with_reducible refine wpList_load_mid rfl 47 (.tmp 12) rfl w1.heap.size 0 ?_ oc _ RGO6.out Try.underlying47 rfl HIO.out ?_); rfl))
            rw [← HW6.out]
            refine HMV.out.mono ?_
            rintro e w7 ⟨rfl, b7⟩
            clear c13 c14 co5
            have hmn : ml.length = 19 := by rw [HML.out]; rfl
            have h6 := HS6.out
            have h7 := b7.size
            obtain ⟨W7, hW7⟩ : ∃ W, W = w7.alloc (.cells #[.int .i64 0, .int .i64 0, .int .i64 0, .int .i64 0, .int .i64 0, .bool false, .bool false, .bool false, .bool false, .int .i64 0, .int .i64 0, .int .i64 0, .int .i64 0, .int .i64 0, .int .i64 0, .int .i64 0, .bool false, .int .i64 0, .int .i64 0] 47) := ⟨_, rfl⟩
            have mz : Bx W7 w7.heap.size 47 zObjC.1 := by rw [hW7]; exact Bx.new w7 zObjC.1 _
            have b7' : Below w7.heap.size w7 W7 := by rw [hW7]; exact (Below.refl _ _).alloc (Nat.le_refl _) _
            have ht7 : W7.there w7.heap.size 0 ml.length := by rw [hmn]; exact mz.there
            rw [hW7] at ht7
            have THM := Lib.hid ht7
            have HIM := Lib.hid (show (Try.prog.info? 47).map (·.size) = some ml.length by rw [infoObject, hmn])
            have hmr : RdL (fun _ => False) 0 w7 kObject ml ((mvC ds id 0 control).map .lit) := by rw [HML.out]; exact movedC_rd _ _ _ _ _ _
            have HOM := Lib.hid hmr.one
            obtain ⟨W8, hW8⟩ : ∃ W, W = W7.setCells w7.heap.size 0 ml := ⟨_, rfl⟩
            have mx8 : Bx W8 w7.heap.size 47 ml := by rw [hW8]; exact mz.setAll ml hmn
            have b8 : Below W6.heap.size W6 W8 := by rw [hW8]; exact below_sets _ _ _ (b7.trans (b7'.mono h7)) _ h7
            obtain ⟨ρ8, s8, hnone8, hsame8⟩ := S6.out.new b8
            have hm8 : w7.heap.size < W8.heap.size := mx8.lt
            have ST8 := Lib.hid (ST6.out.old b8)
            have RS8 := Lib.hid (RS6.out.old b8)
            have MX8 := Lib.hid mx8
            have HP := Lib.hid (put_prog ρ8 L W2.heap.size cs5 (mvR ds id) ml _ W8 s8 (hmr.any flatObject) (by omega) (by omega))
            have N8 := Lib.hid (show ρ8 w.heap.size = .none ∧ ρ8 (w.heap.size + 1) = .none ∧ ρ8 w7.heap.size = .none from ⟨(hsame8 _ (by omega)).trans N6.out.1, (hsame8 _ (by omega)).trans N6.out.2.1, hnone8 _ h7⟩)
            have BEL8 := Lib.hid (BEL6.out.trans (b8.mono (by omega)))
            have HS8 := Lib.hid (show w.heap.size + 2 ≤ w7.heap.size ∧ w7.heap.size < W8.heap.size ∧ W2.heap.size ≤ W8.heap.size ∧ w.heap.size ≤ W2.heap.size by omega)
            have rg8 := ST8.out.range
            have rgm := mx8.range
            rw [hW8, hW7] at rg8 rgm
            have RG8 := Lib.hid rg8
            have RGM := Lib.hid rgm
            have HW8 := Lib.hid (show W8 = _ by rw [hW8, hW7])
            clear hmn h6 h7 b7 hW7 mz b7' ht7 hmr hW8 mx8 b8 s8 hnone8 hsame8 hm8 rg8 rgm
            go_wp2_with (first | ((with_reducible refine wpList_store_cs rfl 47 (.tmp 14) (.tmp 56) rfl w7.heap.size 0 ml ?_ ?_ THM.out HIM.out HOM.out ?_); rfl; rfl) | ((with_reducible refine wpList_load_mid rfl 30 (.tmp 5) rfl w.heap.size 0 ?_ cs5 _ RG8.out Try.underlying30 rfl HI5.out ?_); rfl) | ((with_reducible refine wpList_load_mid rfl 47 (.tmp 14) rfl w7.heap.size 0 ?_ ml _ RGM.out Try.underlying47 rfl HIM.out ?_); rfl))
            rw [← HW8.out]
            refine HP.out.mono ?_
            rintro e w9 ⟨cs9, rfl, ρ9, s9, u9⟩
            have s9 : OwnS ρ9 (L + 128) W2.heap.size w9 cs9 (mvP ds id 0 control) := s9
            have h8 := HS8.out
            have h9 := u9.size
            have st9 := ST8.out.same (u9.keep _ (by omega) (.inr (.inl N8.out.1)))
            have rs9 := RS8.out.same (u9.keep _ (by omega) (.inr (.inl N8.out.2.1)))
            have mx9 := MX8.out.same (u9.keep _ (by omega) (.inr (.inl N8.out.2.2)))
            have q0 : ρ9 w.heap.size = .none := (u9.role _ (by omega)).trans N8.out.1
            have q1 : ρ9 (w.heap.size + 1) = .none := (u9.role _ (by omega)).trans N8.out.2.1
            have q2 : ρ9 w7.heap.size = .none := (u9.role _ (by omega)).trans N8.out.2.2
            have hl9 := s9.len.1
            have hl95 : cs9.length = cs5.length := by rw [hl9, HL5.out]
            have TH9 := Lib.hid (show w9.there w.heap.size 0 cs9.length by rw [hl95]; exact st9.there)
            have HI9 := Lib.hid (show (Try.prog.info? 30).map (·.size) = some cs9.length by rw [infoState, hl9])
            have HO9 := Lib.hid s9.rd.one
            obtain ⟨W10, hW10⟩ : ∃ W, W = w9.setCells w.heap.size 0 cs9 := ⟨_, rfl⟩
            have st10 : Bx W10 w.heap.size 30 cs9 := by rw [hW10]; exact st9.setAll cs9 hl95
            have s10 : OwnS ρ9 (L + 128) W2.heap.size W10 cs9 (mvP ds id 0 control) := by rw [hW10]; exact s9.asides _ 0 cs9 q0
            have e13 : dint (mvP ds id 0 control) 13 = dint ds 13 := (dint_ne _ _ _ _ (by omega)).trans (dint_of (removeT_keep _ _ 13 (by omega)))
            have e14 : dint (mvP ds id 0 control) 14 = dint ds 14 := (dint_ne _ _ _ _ (by omega)).trans (dint_of (removeT_keep _ _ 14 (by omega)))
            have c13 := st10.cell 13 _ (s10.rd.int 13 rfl).1
            have c14 := st10.cell 14 _ (s10.rd.int 14 rfl).1
            have f13 := st10.frozen 13
            have f14 := st10.frozen 14
            rw [e13, hW10] at c13
            rw [e14, hW10] at c14
            rw [hW10] at f13 f14
            obtain ⟨cs12, hcs12⟩ : ∃ l, l = (cs9.set 13 (.int .i64 (dint ds 13 + 1))).set 14 (.int .i64 (dint ds 14 + 1)) := ⟨_, rfl⟩
            obtain ⟨W12, hW12⟩ : ∃ W, W = (W10.setCell ⟨w.heap.size, 13, none⟩ (.int .i64 (dint ds 13 + 1))).setCell ⟨w.heap.size, 14, none⟩ (.int .i64 (dint ds 14 + 1)) := ⟨_, rfl⟩
            have st12 : Bx W12 w.heap.size 30 cs12 := by rw [hW12, hcs12]; exact (st10.set 13 _).set 14 _
            have rs12 : Bx W12 (w.heap.size + 1) 30 zsC := by rw [hW12, hW10]; exact ((rs9.same (heap_sets _ _ _ _ _ (by omega))).other 13 _ (by omega)).other 14 _ (by omega)
            have mx12 : Bx W12 w7.heap.size 47 ml := by rw [hW12, hW10]; exact ((mx9.same (heap_sets _ _ _ _ _ (by omega))).other 13 _ (by omega)).other 14 _ (by omega)
            have s12 : OwnS ρ9 (L + 128) W2.heap.size W12 cs12 (mvN ds id 0 control) := by
              rw [hW12, hcs12]
              exact (((s10.aside w.heap.size 13 (.int .i64 (dint ds 13 + 1)) q0).setLit 13 (by omega) .int rfl (.int .i64 (dint ds 13 + 1)) ⟨_, rfl⟩).aside w.heap.size 14 (.int .i64 (dint ds 14 + 1)) q0).setLit 14 (by omega) .int rfl (.int .i64 (dint ds 14 + 1)) ⟨_, rfl⟩
            have bel12 : Below w.heap.size w W12 := by
              rw [hW12, hW10]
              exact below_set (below_set (below_sets _ _ _ (u9.below BEL8.out h8.2.2.2 (by omega)) _ (Nat.le_refl _)) _ _ _ (Nat.le_refl _)) _ _ _ (Nat.le_refl _)
            have hz12 : W12.heap.size = w9.heap.size := by rw [hW12, hW10]; simp only [World.setCell, Array.size_modify, sets_size]
            have co2 := mx12.cell 2 (.int .i64 (mvO ds id)) (by rw [HML.out]; rfl)
            rw [hW12, hW10] at co2
            obtain ⟨ao, nn, cc, hc0, hn, hnl, hx⟩ := s12.at_list w.heap.size st12 q0 0 (mvO ds id)
            have hplb : (dxs (mvN ds id 0 control) 0).length * 152 ≤ L + 128 := by obtain ⟨_, _, _, pl⟩ := s12.ply; exact pl.bytes
            have HLS := Lib.hid (list_prog w.heap.size ao nn cc 0 (mvO ds id) W12 (st12.cell 0 _ hc0) hn (by omega))
            have ST12 := Lib.hid st12
            have RS12 := Lib.hid rs12
            have MX12 := Lib.hid mx12
            have S12 := Lib.hid s12
            have BEL12 := Lib.hid bel12
            have N12 := Lib.hid (show ρ9 w.heap.size = .none ∧ ρ9 (w.heap.size + 1) = .none ∧ ρ9 w7.heap.size = .none from ⟨q0, q1, q2⟩)
            have HS12 := Lib.hid (show w.heap.size + 2 ≤ w7.heap.size ∧ w7.heap.size < W12.heap.size ∧ W2.heap.size ≤ W12.heap.size ∧ w.heap.size ≤ W2.heap.size by omega)
            have HW12 := Lib.hid (show W12 = _ by rw [hW12, hW10])
            clear h8 h9 st9 rs9 mx9 q0 q1 q2 hl9 hl95 hW10 st10 s10 e13 e14 hcs12 hW12 st12 rs12 mx12 s12 bel12 hz12 hc0 hn hnl hplb s9 u9
            rcases hx with ⟨hp, _, hset⟩ | ⟨ab, oo, v, hp, A⟩
            · unfold listPtr at hp; simp at hp
            · have hzb : ((0 : Int) == 2 && !bottom) = false := rfl
              rw [hp] at HLS
              obtain ⟨lx, hlx⟩ : ∃ lx, lx = listT (mvN ds id 0 control) 0 (mvO ds id) := ⟨_, rfl⟩
              have AL := Lib.hid A
              obtain ⟨r, ow⟩ := A.own
              rw [← hlx] at ow
              obtain ⟨es, row, hes⟩ := ow.row
              have hby := ow.bytes
              have HBY := Lib.hid hby
              have hel := hes.len
              obtain ⟨pu, nu, ku, rfl⟩ := own_sl row
              obtain ⟨hnu, _⟩ := own_cap row
              subst hnu
              obtain ⟨Wd, hWd⟩ : ∃ W, W = W12.drew := ⟨_, rfl⟩
              obtain ⟨WA, hWA⟩ : ∃ W, W = Wd.alloc (.cells #[.int .i64 (dint ds 13)] 3) := ⟨_, rfl⟩
              have bd : Below W12.heap.size W12 Wd := by rw [hWd]; exact (Below.refl _ _).drew
              have ba : Below W12.heap.size W12 WA := by rw [hWA]; exact bd.alloc bd.size _
              have hzd : Wd.heap.size = W12.heap.size := by rw [hWd]; rfl
              have hza : WA.heap.size = W12.heap.size + 1 := by rw [hWA]; simp [hzd]
              have cad := (AL.out.there Wd (below_grown bd)).1
              have caa := (AL.out.there WA (below_grown ba)).1
              have MXD := Lib.hid (MX12.out.old bd)
              have MXA := Lib.hid (MX12.out.old ba)
              have bn : Bx WA Wd.heap.size 3 [.int .i64 (dint ds 13)] := by rw [hWA]; exact Bx.new Wd _ _
              obtain ⟨y, hy, hesy⟩ := snoc_es hes (dint ds 13)
              have rowA := own_block row ba
              have HLV := Lib.hid (show mvL ds id 0 control bottom = setT (mvN ds id 0 control) 0 (mvO ds id) (lx ++ [[dI (dint ds 13)]]) by unfold mvL; rw [hzb, ← hlx]; rfl)
              have HES := Lib.hid hesy
              have HY := Lib.hid hy
              have HEL := Lib.hid hel
              have ROWA := Lib.hid rowA
              have hBS : W2.heap.size ≤ WA.heap.size := by have := HS12.out; omega
              have BA := Lib.hid ba
              have HZA := Lib.hid hza
              have HZD := Lib.hid hzd
              have HC0 := Lib.hid (show ml[0]? = some (.int .i64 (dint ds 13)) by rw [HML.out]; rfl)
              have HBS := Lib.hid hBS
              have HWD := Lib.hid hWd
              have HWA := Lib.hid hWA
              obtain ⟨zi, hEi⟩ := elemint
              have HEI := Lib.hid hEi
              have HBG := Lib.hid (show (es.length + 1) * 8 ≤ 140737488355328 by omega)
              have HMX := Lib.hid (show es.length + 1 ≤ maxLen by simp only [maxLen]; omega)
              have HCN := Lib.hid (show ∀ (j : Nat) (u : Value), ([.int .i64 (dint ds 13)] : List Value)[j]? = some u → WA.cell? (Addr.add ⟨Wd.heap.size, 0, none⟩ j) = some u from fun j u hj => by rw [Addr.add_lit, Nat.zero_add]; exact bn.cell j u hj)
              clear hEi
              clear hWd hWA hp A ow row hes hby hel bd ba hzd hza bn hy hesy rowA hBS hlx
              go_wp2_with ((with_reducible refine wpList_store_cs rfl 30 (.tmp 5) (.tmp 59) rfl w.heap.size 0 cs9 ?_ ?_ TH9.out HI9.out HO9.out ?_); rfl; rfl)
              rw [← HW12.out]
              refine HLS.out.mono ?_
              rintro e w13 ⟨rfl, rfl⟩
              clear c13 c14 f13 f14 co2
              go_wp2_with fail
              refine wp_region_noPanic ?_
              refine wp_region_held_drew (S := fun wS => Bx wS w7.heap.size 47 ml) (by kernel_rfl) (by rw [← HWD.out]; exact MXD.out) (fun hHeld => ?_)
              rw [← HWD.out]
              refine wpAnyH_take (i := 0) (oi := ?oiT17a0x) (v := ?vT17a0x) ?hiT17a0x (by kernel_rfl) (by kernel_rfl) (by kernel_rfl) ?hqT17a0x ?hyT17a0x (by assumption) ?restT17a0x
              case hiT17a0x => (simp only [List.getElem?_toArray, List.getElem?_cons_zero] <;> rfl)
              case hqT17a0x => exact fun _ _ _ h => h
              case hyT17a0x => exact Or.inl ⟨by rfl, by (intro wS hSw; have s5 := Bx.cell hSw 0 _ HC0.out; go_simp; try with_reducible rfl)⟩
              try simp only [Act.put, List.setIfInBounds_toArray, List.set_cons_zero, List.set_cons_succ]
              refine wpAnyH_take (i := 1) (oi := ?oiT17a1x) (v := ?vT17a1x) ?hiT17a1x (by kernel_rfl) (by kernel_rfl) (by kernel_rfl) ?hqT17a1x ?hyT17a1x (by assumption) ?restT17a1x
              case hiT17a1x => (simp only [List.getElem?_toArray, List.getElem?_cons_succ, List.getElem?_cons_zero] <;> rfl)
              case hqT17a1x => exact fun _ _ _ h => h
              case hyT17a1x => exact Or.inl ⟨by rfl, by (intro wS hSw; have s5 := Bx.cell hSw 0 _ HC0.out; go_simp; try with_reducible rfl)⟩
              try simp only [Act.put, List.setIfInBounds_toArray, List.set_cons_zero, List.set_cons_succ]
              refine wpAnyH_take (i := 2) (oi := ?oiT17a2x) (v := ?vT17a2x) ?hiT17a2x (by kernel_rfl) (by kernel_rfl) (by kernel_rfl) ?hqT17a2x ?hyT17a2x (by assumption) ?restT17a2x
              case hiT17a2x => (simp only [List.getElem?_toArray, List.getElem?_cons_succ, List.getElem?_cons_zero] <;> rfl)
              case hqT17a2x => exact fun _ _ _ h => h
              case hyT17a2x => exact Or.inl ⟨by rfl, by (intro wS hSw; have s5 := Bx.cell hSw 0 _ HC0.out; go_simp; try with_reducible rfl)⟩
              try simp only [Act.put, List.setIfInBounds_toArray, List.set_cons_zero, List.set_cons_succ]
              refine wpAnyH_take (i := 4) (oi := ?oiT17a4x) (v := ?vT17a4x) ?hiT17a4x (by kernel_rfl) (by kernel_rfl) (by kernel_rfl) ?hqT17a4x ?hyT17a4x (by assumption) ?restT17a4x
              case hiT17a4x => (simp only [List.getElem?_toArray, List.getElem?_cons_succ, List.getElem?_cons_zero] <;> rfl)
              case hqT17a4x => exact fun _ _ _ h => h
              case hyT17a4x => exact Or.inl ⟨by rfl, by (intro wS hSw; have s5 := Bx.cell hSw 0 _ HC0.out; go_simp; try with_reducible rfl)⟩
              try simp only [Act.put, List.setIfInBounds_toArray, List.set_cons_zero, List.set_cons_succ]
              refine wpAnyH_take (i := 5) (oi := ?oiT17a5x) (v := ?vT17a5x) ?hiT17a5x (by kernel_rfl) (by kernel_rfl) (by kernel_rfl) ?hqT17a5x ?hyT17a5x (by assumption) ?restT17a5x
              case hiT17a5x => (simp only [List.getElem?_toArray, List.getElem?_cons_succ, List.getElem?_cons_zero] <;> rfl)
              case hqT17a5x => exact fun _ _ _ h => h
              case hyT17a5x => exact Or.inl ⟨by rfl, by (intro wS hSw; have s5 := Bx.cell hSw 0 _ HC0.out; go_simp; try with_reducible rfl)⟩
              try simp only [Act.put, List.setIfInBounds_toArray, List.set_cons_zero, List.set_cons_succ]
              refine wpAnyH_ready (rs := [3, 6]) (by kernel_rfl) (by simp) ?_
              refine AllReadyH.cons (o := ?oaT17a) ?haT17a (fun K hK => ?saT17a) (AllReadyH.cons (o := ?obT17a) ?hbT17a (fun K hK => ?sbT17a) AllReadyH.nil)
              case haT17a => (simp only [List.getElem?_toArray, List.getElem?_cons_succ, List.getElem?_cons_zero] <;> rfl)
              case hbT17a => (simp only [List.getElem?_toArray, List.getElem?_cons_succ, List.getElem?_cons_zero] <;> rfl)
              case saT17a =>
                go_simp
                refine hK.out _ _ MXD.out (fun hHeld3 => ?_)
                clear hK K
                try simp only [Act.put, List.setIfInBounds_toArray, List.set_cons_zero, List.set_cons_succ]
                refine wpAnyH_ready (rs := [6]) (by kernel_rfl) (by simp) ?_
                refine AllReadyH.cons (o := ?oiT18a6x) ?hiT18a6x (fun K hK => ?hsT18a6x) AllReadyH.nil
                case hiT18a6x => (simp only [List.getElem?_toArray, List.getElem?_cons_succ, List.getElem?_cons_zero] <;> rfl)
                go_simp
                rw [← HWA.out]
                refine hK.out _ _ MXA.out (fun hHeld6 => ?_)
                clear hK K
                try simp only [Act.put, List.setIfInBounds_toArray, List.set_cons_zero, List.set_cons_succ]
                refine wpAnyH_ready (rs := [7]) (by kernel_rfl) (by simp) ?_
                refine AllReadyH.cons (o := ?oiT18a7x) ?hiT18a7x (fun K hK => ?hsT18a7x) AllReadyH.nil
                case hiT18a7x => (simp only [List.getElem?_toArray, List.getElem?_cons_succ, List.getElem?_cons_zero] <;> rfl)
                refine step_append_own2 rfl (.tmp 92) (.tmp 95) 24 rfl W2.heap.size HEI.out (.slice pu es.length ku) es.length (es.flatMap Subtype.val) rfl ROWA.out ⟨Wd.heap.size, 0, none⟩ 1 1 [.int .i64 (dint ds 13)] rfl rfl HCN.out (fun u hu => by rw [List.mem_singleton.1 hu]; rfl) HMX.out HBG.out HBS.out (by decide) ?_
                intro v9 w14 own9 gr9 fr9
                obtain ⟨p9, n9, k9, rfl⟩ := own_sl own9
                obtain ⟨ca9, fa9⟩ := AL.out.there w14 (below_grownBy BA.out gr9)
                have O9 := Lib.hid own9
                have G9 := Lib.hid gr9
                have F9 := Lib.hid fr9
                have S9 := Lib.hid (MXA.out.same (gr9.block _ (by have := HS12.out; have := HZA.out; omega) (fun e => AL.out.nb _ N12.out.2.2 e.symm)))
                clear own9 gr9 fr9
                refine hK.out _ _ S9.out (fun hHeld7 => ?_)
                clear hK K
                try simp only [Act.put, List.setIfInBounds_toArray, List.set_cons_zero, List.set_cons_succ]
                refine wpAnyH_take (i := 8) (oi := ?oiT18a8x) (v := ?vT18a8x) ?hiT18a8x (by kernel_rfl) (by kernel_rfl) (by kernel_rfl) ?hqT18a8x ?hyT18a8x (by assumption) ?restT18a8x
                case hiT18a8x => (simp only [List.getElem?_toArray, List.getElem?_cons_succ, List.getElem?_cons_zero] <;> rfl)
                case hqT18a8x => exact fun _ _ _ h => h
                case hyT18a8x => exact Or.inl ⟨by rfl, by (intro wS hSw; have s5 := Bx.cell hSw 0 _ HC0.out; go_simp; try with_reducible rfl)⟩
                try simp only [Act.put, List.setIfInBounds_toArray, List.set_cons_zero, List.set_cons_succ]
                refine wpAnyH_ready (rs := [9]) (by kernel_rfl) (by simp) ?_
                refine AllReadyH.cons (o := ?oiT18a9x) ?hiT18a9x (fun K hK => ?hsT18a9x) AllReadyH.nil
                case hiT18a9x => (simp only [List.getElem?_toArray, List.getElem?_cons_succ, List.getElem?_cons_zero] <;> rfl)
                go_simp
                have h12 := HS12.out
                obtain ⟨ρF, csF, sF, xF, hro, hno, hu⟩ := AL.out.put w14 (L + 128 + 8) (.slice p9 n9 k9) (lx ++ [[dI (dint ds 13)]]) (by omega) (below_grownBy BA.out G9.out) ⟨es ++ [y], (by rw [List.length_append, List.flatMap_append, show [y].flatMap Subtype.val = [.int .i64 (dint ds 13)] by rw [List.flatMap_cons, HY.out]; rfl]; exact O9.out), HES.out.frame (by omega) (Nat.le_refl _) (fun _ _ _ => rfl) (fun _ h _ => h)⟩ (by simp only [List.length_append, List.length_singleton]; have := HBY.out; omega) (fun g hg => by
                  rcases F9.out with e | e
                  · exact .inl (by rw [← hg, e])
                  · rw [e] at hg
                    cases hg
                    exact .inr (by have := HZA.out; omega))
                obtain ⟨WF, hWF⟩ : ∃ W, W = w14.setCell ⟨ab, oo, none⟩ (.slice p9 n9 k9) := ⟨_, rfl⟩
                rw [← hWF] at sF xF hno hu
                have SF_ := Lib.hid (show OwnS ρF (L + 128 + 8) W2.heap.size WF csF (mvL ds id 0 control bottom) by rw [HLV.out]; exact sF)
                have STF := Lib.hid xF
                have RSF := Lib.hid (RS12.out.same (hno _ (by omega) (by omega) N12.out.2.1))
                have MXF := Lib.hid (MX12.out.same (hno _ (by omega) (by omega) N12.out.2.2))
                have BELF := Lib.hid ((hu w.heap.size (by omega) (Nat.le_refl _)).below BEL12.out h12.2.2.2 (Nat.le_refl _))
                have NF := Lib.hid ((hro _ (by omega)).trans N12.out.2.1)
                have HWF := Lib.hid hWF
                have SX := Lib.hid (show Bx (w14.setCell ⟨ab, oo, none⟩ (.slice p9 n9 k9)) w7.heap.size 47 ml from by rw [← hWF]; exact MXF.out)
                clear h12 sF xF hro hno hu hWF ca9 fa9
                refine hK.out _ _ SX.out (fun hHeld9 => ?_)
                clear hK K
                try simp only [Act.put, List.setIfInBounds_toArray, List.set_cons_zero, List.set_cons_succ]
                refine wpAnyH_done (by kernel_rfl) ?_ _
                refine NoPanic.normal ?_
                rw [← HWF.out]
                go_wp2_with fail
                have h12 := HS12.out
                have hlF := SF_.out.len.1
                have SS0 := Lib.hid (show Bx WF w.heap.size 30 csF ∧ Bx WF w7.heap.size 47 ml from ⟨STF.out, MXF.out⟩)
                have HIF := Lib.hid (show (Try.prog.info? 30).map (·.size) = some csF.length by rw [infoState, hlF])
                have THF := Lib.hid (show WF.drew.there (w.heap.size + 1) 0 csF.length by rw [hlF]; exact RSF.out.drew.there)
                have HOF := Lib.hid SF_.out.rd.one
                have BE := Lib.hid (RSF.out.drew.setAll csF hlF)
                have SE := Lib.hid ((SF_.out.old (Below.refl _ _).drew).asides (w.heap.size + 1) 0 csF NF.out)
                have BF := Lib.hid (below_sets csF 0 WF.drew BELF.out.drew (w.heap.size + 1) (Nat.le_succ _))
                have SS1 := Lib.hid (show Bx (WF.drew.setCells (w.heap.size + 1) 0 csF) w.heap.size 30 csF ∧ Bx (WF.drew.setCells (w.heap.size + 1) 0 csF) w7.heap.size 47 ml from ⟨STF.out.drew.same (heap_sets _ _ _ _ _ (by omega)), MXF.out.drew.same (heap_sets _ _ _ _ _ (by omega))⟩)
                have HC0 := Lib.hid (show ml[0]? = some (.int .i64 (dint ds 13)) by rw [HML.out]; rfl)
                clear h12 hlF
                refine wp_region_noPanic ?_
                refine wp_region_held_drew (S := fun wS => Bx wS w.heap.size 30 csF ∧ Bx wS w7.heap.size 47 ml) (by kernel_rfl) (SS0.out) (fun hHeld => ?_)
                refine wpAnyH_take (i := 0) (oi := ?oiT20a0x) (v := .agg csF.toArray) ?hiT20a0x (by kernel_rfl) (by kernel_rfl) (by kernel_rfl) ?hqT20a0x ?hyT20a0x (by assumption) ?restT20a0x
                case hiT20a0x => (simp only [List.getElem?_toArray, List.getElem?_cons_zero] <;> rfl)
                case hqT20a0x => exact fun _ _ _ h => h
                case hyT20a0x => exact (yieldsIf_load_mid (by rfl) 30 (.tmp 5) rfl w.heap.size 0 (by simp [Act.eval]) csF _ (fun _ h => Bx.range h.1) Try.underlying30 rfl HIF.out)
                try simp only [Act.put, List.setIfInBounds_toArray, List.set_cons_zero, List.set_cons_succ]
                refine wpAnyH_take (i := 1) (oi := ?oiT20a1x) (v := ?vT20a1x) ?hiT20a1x (by kernel_rfl) (by kernel_rfl) (by kernel_rfl) ?hqT20a1x ?hyT20a1x (by assumption) ?restT20a1x
                case hiT20a1x => (simp only [List.getElem?_toArray, List.getElem?_cons_succ, List.getElem?_cons_zero] <;> rfl)
                case hqT20a1x => exact fun _ _ _ h => h
                case hyT20a1x => exact Or.inl ⟨by rfl, by (intro wS hSw; have s5 := Bx.cell hSw.2 0 _ HC0.out; go_simp; try with_reducible rfl)⟩
                try simp only [Act.put, List.setIfInBounds_toArray, List.set_cons_zero, List.set_cons_succ]
                refine wpAnyH_take (i := 2) (oi := ?oiT20a2x) (v := ?vT20a2x) ?hiT20a2x (by kernel_rfl) (by kernel_rfl) (by kernel_rfl) ?hqT20a2x ?hyT20a2x (by assumption) ?restT20a2x
                case hiT20a2x => (simp only [List.getElem?_toArray, List.getElem?_cons_succ, List.getElem?_cons_zero] <;> rfl)
                case hqT20a2x => exact fun _ _ _ h => h
                case hyT20a2x => exact Or.inl ⟨by rfl, by (intro wS hSw; have s5 := Bx.cell hSw.2 0 _ HC0.out; go_simp; try with_reducible rfl)⟩
                try simp only [Act.put, List.setIfInBounds_toArray, List.set_cons_zero, List.set_cons_succ]
                refine wpAnyH_ready (rs := [3]) (by kernel_rfl) (by simp) ?_
                refine AllReadyH.cons (o := ?oiT20a3x) ?hiT20a3x (fun K hK => ?hsT20a3x) AllReadyH.nil
                case hiT20a3x => (simp only [List.getElem?_toArray, List.getElem?_cons_succ, List.getElem?_cons_zero] <;> rfl)
                refine step_store_mid rfl 30 (.tmp 10) (.tmp 98) rfl (w.heap.size + 1) 0 csF (by simp [Act.eval]) (by simp [Act.eval]) THF.out HIF.out HOF.out ?_
                refine hK.out _ _ SS1.out (fun hHeld3 => ?_)
                clear hK K
                try simp only [Act.put]
                refine wpAnyH_take (i := 4) (oi := ?oiT20a4x) (v := ?vT20a4x) ?hiT20a4x (by kernel_rfl) (by kernel_rfl) (by kernel_rfl) ?hqT20a4x ?hyT20a4x (by assumption) ?restT20a4x
                case hiT20a4x => (simp only [List.getElem?_toArray, List.getElem?_cons_succ, List.getElem?_cons_zero] <;> rfl)
                case hqT20a4x => exact fun _ _ _ h => h
                case hyT20a4x => exact Or.inl ⟨by rfl, by (intro wS hSw; have s5 := Bx.cell hSw.2 0 _ HC0.out; go_simp; try with_reducible rfl)⟩
                try simp only [Act.put, List.setIfInBounds_toArray, List.set_cons_zero, List.set_cons_succ]
                refine wpAnyH_done (by kernel_rfl) ?_ _
                refine NoPanic.normal ?_
                go_wp2_with fail
                refine bodyPost_ret (results_cs2 Try.results15 (w.heap.size + 1) ?_ (.int .i64 (dint ds 13)) ?_ csF _ (Bx.range BE.out) Try.underlying30 rfl HIF.out) rfl ?_
                · rfl
                · rfl
                · exact ⟨csF, _, rfl, SE.out.rd, BF.out⟩
              case sbT17a =>
                go_simp
                rw [← HWA.out]
                refine hK.out _ _ MXA.out (fun hHeld6 => ?_)
                clear hK K
                try simp only [Act.put, List.setIfInBounds_toArray, List.set_cons_zero, List.set_cons_succ]
                refine wpAnyH_ready (rs := [3]) (by kernel_rfl) (by simp) ?_
                refine AllReadyH.cons (o := ?oiT19a3x) ?hiT19a3x (fun K hK => ?hsT19a3x) AllReadyH.nil
                case hiT19a3x => (simp only [List.getElem?_toArray, List.getElem?_cons_succ, List.getElem?_cons_zero] <;> rfl)
                go_simp
                refine hK.out _ _ MXA.out (fun hHeld3 => ?_)
                clear hK K
                try simp only [Act.put, List.setIfInBounds_toArray, List.set_cons_zero, List.set_cons_succ]
                refine wpAnyH_ready (rs := [7]) (by kernel_rfl) (by simp) ?_
                refine AllReadyH.cons (o := ?oiT19a7x) ?hiT19a7x (fun K hK => ?hsT19a7x) AllReadyH.nil
                case hiT19a7x => (simp only [List.getElem?_toArray, List.getElem?_cons_succ, List.getElem?_cons_zero] <;> rfl)
                refine step_append_own2 rfl (.tmp 92) (.tmp 95) 24 rfl W2.heap.size HEI.out (.slice pu es.length ku) es.length (es.flatMap Subtype.val) rfl ROWA.out ⟨Wd.heap.size, 0, none⟩ 1 1 [.int .i64 (dint ds 13)] rfl rfl HCN.out (fun u hu => by rw [List.mem_singleton.1 hu]; rfl) HMX.out HBG.out HBS.out (by decide) ?_
                intro v9 w14 own9 gr9 fr9
                obtain ⟨p9, n9, k9, rfl⟩ := own_sl own9
                obtain ⟨ca9, fa9⟩ := AL.out.there w14 (below_grownBy BA.out gr9)
                have O9 := Lib.hid own9
                have G9 := Lib.hid gr9
                have F9 := Lib.hid fr9
                have S9 := Lib.hid (MXA.out.same (gr9.block _ (by have := HS12.out; have := HZA.out; omega) (fun e => AL.out.nb _ N12.out.2.2 e.symm)))
                clear own9 gr9 fr9
                refine hK.out _ _ S9.out (fun hHeld7 => ?_)
                clear hK K
                try simp only [Act.put, List.setIfInBounds_toArray, List.set_cons_zero, List.set_cons_succ]
                refine wpAnyH_take (i := 8) (oi := ?oiT19a8x) (v := ?vT19a8x) ?hiT19a8x (by kernel_rfl) (by kernel_rfl) (by kernel_rfl) ?hqT19a8x ?hyT19a8x (by assumption) ?restT19a8x
                case hiT19a8x => (simp only [List.getElem?_toArray, List.getElem?_cons_succ, List.getElem?_cons_zero] <;> rfl)
                case hqT19a8x => exact fun _ _ _ h => h
                case hyT19a8x => exact Or.inl ⟨by rfl, by (intro wS hSw; have s5 := Bx.cell hSw 0 _ HC0.out; go_simp; try with_reducible rfl)⟩
                try simp only [Act.put, List.setIfInBounds_toArray, List.set_cons_zero, List.set_cons_succ]
                refine wpAnyH_ready (rs := [9]) (by kernel_rfl) (by simp) ?_
                refine AllReadyH.cons (o := ?oiT19a9x) ?hiT19a9x (fun K hK => ?hsT19a9x) AllReadyH.nil
                case hiT19a9x => (simp only [List.getElem?_toArray, List.getElem?_cons_succ, List.getElem?_cons_zero] <;> rfl)
                go_simp
                have h12 := HS12.out
                obtain ⟨ρF, csF, sF, xF, hro, hno, hu⟩ := AL.out.put w14 (L + 128 + 8) (.slice p9 n9 k9) (lx ++ [[dI (dint ds 13)]]) (by omega) (below_grownBy BA.out G9.out) ⟨es ++ [y], (by rw [List.length_append, List.flatMap_append, show [y].flatMap Subtype.val = [.int .i64 (dint ds 13)] by rw [List.flatMap_cons, HY.out]; rfl]; exact O9.out), HES.out.frame (by omega) (Nat.le_refl _) (fun _ _ _ => rfl) (fun _ h _ => h)⟩ (by simp only [List.length_append, List.length_singleton]; have := HBY.out; omega) (fun g hg => by
                  rcases F9.out with e | e
                  · exact .inl (by rw [← hg, e])
                  · rw [e] at hg
                    cases hg
                    exact .inr (by have := HZA.out; omega))
                obtain ⟨WF, hWF⟩ : ∃ W, W = w14.setCell ⟨ab, oo, none⟩ (.slice p9 n9 k9) := ⟨_, rfl⟩
                rw [← hWF] at sF xF hno hu
                have SF_ := Lib.hid (show OwnS ρF (L + 128 + 8) W2.heap.size WF csF (mvL ds id 0 control bottom) by rw [HLV.out]; exact sF)
                have STF := Lib.hid xF
                have RSF := Lib.hid (RS12.out.same (hno _ (by omega) (by omega) N12.out.2.1))
                have MXF := Lib.hid (MX12.out.same (hno _ (by omega) (by omega) N12.out.2.2))
                have BELF := Lib.hid ((hu w.heap.size (by omega) (Nat.le_refl _)).below BEL12.out h12.2.2.2 (Nat.le_refl _))
                have NF := Lib.hid ((hro _ (by omega)).trans N12.out.2.1)
                have HWF := Lib.hid hWF
                have SX := Lib.hid (show Bx (w14.setCell ⟨ab, oo, none⟩ (.slice p9 n9 k9)) w7.heap.size 47 ml from by rw [← hWF]; exact MXF.out)
                clear h12 sF xF hro hno hu hWF ca9 fa9
                refine hK.out _ _ SX.out (fun hHeld9 => ?_)
                clear hK K
                try simp only [Act.put, List.setIfInBounds_toArray, List.set_cons_zero, List.set_cons_succ]
                refine wpAnyH_done (by kernel_rfl) ?_ _
                refine NoPanic.normal ?_
                rw [← HWF.out]
                go_wp2_with fail
                have h12 := HS12.out
                have hlF := SF_.out.len.1
                have SS0 := Lib.hid (show Bx WF w.heap.size 30 csF ∧ Bx WF w7.heap.size 47 ml from ⟨STF.out, MXF.out⟩)
                have HIF := Lib.hid (show (Try.prog.info? 30).map (·.size) = some csF.length by rw [infoState, hlF])
                have THF := Lib.hid (show WF.drew.there (w.heap.size + 1) 0 csF.length by rw [hlF]; exact RSF.out.drew.there)
                have HOF := Lib.hid SF_.out.rd.one
                have BE := Lib.hid (RSF.out.drew.setAll csF hlF)
                have SE := Lib.hid ((SF_.out.old (Below.refl _ _).drew).asides (w.heap.size + 1) 0 csF NF.out)
                have BF := Lib.hid (below_sets csF 0 WF.drew BELF.out.drew (w.heap.size + 1) (Nat.le_succ _))
                have SS1 := Lib.hid (show Bx (WF.drew.setCells (w.heap.size + 1) 0 csF) w.heap.size 30 csF ∧ Bx (WF.drew.setCells (w.heap.size + 1) 0 csF) w7.heap.size 47 ml from ⟨STF.out.drew.same (heap_sets _ _ _ _ _ (by omega)), MXF.out.drew.same (heap_sets _ _ _ _ _ (by omega))⟩)
                have HC0 := Lib.hid (show ml[0]? = some (.int .i64 (dint ds 13)) by rw [HML.out]; rfl)
                clear h12 hlF
                refine wp_region_noPanic ?_
                refine wp_region_held_drew (S := fun wS => Bx wS w.heap.size 30 csF ∧ Bx wS w7.heap.size 47 ml) (by kernel_rfl) (SS0.out) (fun hHeld => ?_)
                refine wpAnyH_take (i := 0) (oi := ?oiT21a0x) (v := .agg csF.toArray) ?hiT21a0x (by kernel_rfl) (by kernel_rfl) (by kernel_rfl) ?hqT21a0x ?hyT21a0x (by assumption) ?restT21a0x
                case hiT21a0x => (simp only [List.getElem?_toArray, List.getElem?_cons_zero] <;> rfl)
                case hqT21a0x => exact fun _ _ _ h => h
                case hyT21a0x => exact (yieldsIf_load_mid (by rfl) 30 (.tmp 5) rfl w.heap.size 0 (by simp [Act.eval]) csF _ (fun _ h => Bx.range h.1) Try.underlying30 rfl HIF.out)
                try simp only [Act.put, List.setIfInBounds_toArray, List.set_cons_zero, List.set_cons_succ]
                refine wpAnyH_take (i := 1) (oi := ?oiT21a1x) (v := ?vT21a1x) ?hiT21a1x (by kernel_rfl) (by kernel_rfl) (by kernel_rfl) ?hqT21a1x ?hyT21a1x (by assumption) ?restT21a1x
                case hiT21a1x => (simp only [List.getElem?_toArray, List.getElem?_cons_succ, List.getElem?_cons_zero] <;> rfl)
                case hqT21a1x => exact fun _ _ _ h => h
                case hyT21a1x => exact Or.inl ⟨by rfl, by (intro wS hSw; have s5 := Bx.cell hSw.2 0 _ HC0.out; go_simp; try with_reducible rfl)⟩
                try simp only [Act.put, List.setIfInBounds_toArray, List.set_cons_zero, List.set_cons_succ]
                refine wpAnyH_take (i := 2) (oi := ?oiT21a2x) (v := ?vT21a2x) ?hiT21a2x (by kernel_rfl) (by kernel_rfl) (by kernel_rfl) ?hqT21a2x ?hyT21a2x (by assumption) ?restT21a2x
                case hiT21a2x => (simp only [List.getElem?_toArray, List.getElem?_cons_succ, List.getElem?_cons_zero] <;> rfl)
                case hqT21a2x => exact fun _ _ _ h => h
                case hyT21a2x => exact Or.inl ⟨by rfl, by (intro wS hSw; have s5 := Bx.cell hSw.2 0 _ HC0.out; go_simp; try with_reducible rfl)⟩
                try simp only [Act.put, List.setIfInBounds_toArray, List.set_cons_zero, List.set_cons_succ]
                refine wpAnyH_ready (rs := [3]) (by kernel_rfl) (by simp) ?_
                refine AllReadyH.cons (o := ?oiT21a3x) ?hiT21a3x (fun K hK => ?hsT21a3x) AllReadyH.nil
                case hiT21a3x => (simp only [List.getElem?_toArray, List.getElem?_cons_succ, List.getElem?_cons_zero] <;> rfl)
                refine step_store_mid rfl 30 (.tmp 10) (.tmp 98) rfl (w.heap.size + 1) 0 csF (by simp [Act.eval]) (by simp [Act.eval]) THF.out HIF.out HOF.out ?_
                refine hK.out _ _ SS1.out (fun hHeld3 => ?_)
                clear hK K
                try simp only [Act.put]
                refine wpAnyH_take (i := 4) (oi := ?oiT21a4x) (v := ?vT21a4x) ?hiT21a4x (by kernel_rfl) (by kernel_rfl) (by kernel_rfl) ?hqT21a4x ?hyT21a4x (by assumption) ?restT21a4x
                case hiT21a4x => (simp only [List.getElem?_toArray, List.getElem?_cons_succ, List.getElem?_cons_zero] <;> rfl)
                case hqT21a4x => exact fun _ _ _ h => h
                case hyT21a4x => exact Or.inl ⟨by rfl, by (intro wS hSw; have s5 := Bx.cell hSw.2 0 _ HC0.out; go_simp; try with_reducible rfl)⟩
                try simp only [Act.put, List.setIfInBounds_toArray, List.set_cons_zero, List.set_cons_succ]
                refine wpAnyH_done (by kernel_rfl) ?_ _
                refine NoPanic.normal ?_
                go_wp2_with fail
                refine bodyPost_ret (results_cs2 Try.results15 (w.heap.size + 1) ?_ (.int .i64 (dint ds 13)) ?_ csF _ (Bx.range BE.out) Try.underlying30 rfl HIF.out) rfl ?_
                · rfl
                · rfl
                · exact ⟨csF, _, rfl, SE.out.rd, BF.out⟩
          · by_cases hne5 : z = 5
            · subst hne5
              have hmv : moveT ds id 5 control bottom = (mvL ds id 5 control bottom, dint ds 13) := by unfold moveT; rw [if_pos ⟨hh, by omega, by omega⟩, if_neg (fun hx => hx.2.2 rfl)]
              rw [hmv]
              dsimp only
              clear hmv
              go_enter Try.func15, Try.ntmps15
              go_wp2_with ((with_reducible refine wpList_load_mid rfl 30 (.tmp 5) rfl w.heap.size 0 ?_ cs _ RG.out Try.underlying30 rfl HI.out ?_); rfl)
              rw [← HW0.out]
              refine HF.out.mono ?_
              rintro e w1 ⟨oc, rfl, ro, b1⟩
              have hs0 := XX.out.size
              have hb1 := b1.size
              have hol := ro.len.1
              rw [kObject_len] at hol
              obtain ⟨W1, hW1⟩ : ∃ W, W = w1.alloc (.cells #[.int .i64 0, .int .i64 0, .int .i64 0, .int .i64 0, .int .i64 0, .bool false, .bool false, .bool false, .bool false, .int .i64 0, .int .i64 0, .int .i64 0, .int .i64 0, .int .i64 0, .int .i64 0, .int .i64 0, .bool false, .int .i64 0, .int .i64 0] 47) := ⟨_, rfl⟩
              have oz : Bx W1 w1.heap.size 47 zObjC.1 := by rw [hW1]; exact Bx.new w1 zObjC.1 _
              have ht := oz.there
              have hz19 : zObjC.1.length = oc.length := by rw [hol]; rfl
              rw [hz19, hW1] at ht
              have THO := Lib.hid ht
              have HIO := Lib.hid (show (Try.prog.info? 47).map (·.size) = some oc.length by rw [infoObject, hol])
              have HOO := Lib.hid ro.one
              obtain ⟨W2, hW2⟩ : ∃ W, W = W1.setCells w1.heap.size 0 oc := ⟨_, rfl⟩
              have ox2 : Bx W2 w1.heap.size 47 oc := by rw [hW2]; exact oz.setAll oc hz19.symm
              have bb : Below W0.heap.size W0 W2 := by
                rw [hW2]
                exact below_sets _ _ _ (b1.trans (show Below W0.heap.size w1 W1 by rw [hW1]; exact (Below.refl _ _).alloc hb1 _)) _ hb1
              have st2 := XX.out.st.old bb
              have rg2 := st2.range
              rw [hW2, hW1] at rg2
              have RG2 := Lib.hid rg2
              have hb2 := bb.size
              have hm1 : w1.heap.size < W2.heap.size := ox2.lt
              have HC := Lib.hid (copy_prog _ L cs ds W2 (HR.out.old bb) (by omega))
              have ST2 := Lib.hid st2
              have RS2 := Lib.hid (XX.out.rs.old bb)
              have OX2 := Lib.hid ox2
              have RO := Lib.hid ro
              have BEL2 := Lib.hid (XX.out.bel.trans (bb.mono XX.out.bel.size))
              have HS2 := Lib.hid (show w.heap.size + 2 ≤ w1.heap.size ∧ w1.heap.size < W2.heap.size by omega)
              have HW2 := Lib.hid (show W2 = _ by rw [hW2, hW1])
              clear hs0 hb1 b1 hol hW1 oz ht hz19 hW2 ox2 bb st2 rg2 hb2 hm1 ro
              go_wp2_with (first | ((with_reducible refine wpList_store_cs rfl 47 (.tmp 12) (.tmp 20) rfl w1.heap.size 0 oc ?_ ?_ THO.out HIO.out HOO.out ?_); rfl; rfl) | ((with_reducible refine wpList_load_mid rfl 30 (.tmp 5) rfl w.heap.size 0 ?_ cs _ RG2.out Try.underlying30 rfl HI.out ?_); rfl))
              rw [← HW2.out]
              refine HC.out.mono ?_
              rintro e w3 ⟨cs3, rfl, ⟨ρ3, s3, hn3⟩, b3⟩
              have h2 := HS2.out
              have hb3 := b3.size
              have st3 := ST2.out.old b3
              have hl3 := s3.len.1
              have hl31 : cs3.length = cs.length := by rw [hl3, HLN.out]
              obtain ⟨W4, hW4⟩ : ∃ W, W = w3.setCells w.heap.size 0 cs3 := ⟨_, rfl⟩
              have TH3 := Lib.hid (show w3.there w.heap.size 0 cs3.length by rw [hl31]; exact st3.there)
              have HI3 := Lib.hid (show (Try.prog.info? 30).map (·.size) = some cs3.length by rw [infoState, hl3])
              have HO3 := Lib.hid s3.rd.one
              have n0 : ρ3 w.heap.size = .none := hn3 _ (by omega) (fun hF => by have := hF.2; omega)
              have n1 : ρ3 (w.heap.size + 1) = .none := hn3 _ (by omega) (fun hF => by have := hF.2; omega)
              have n2 : ρ3 w1.heap.size = .none := hn3 _ (by omega) (fun hF => by have := hF.2; omega)
              have ST4 := Lib.hid (show Bx W4 w.heap.size 30 cs3 by rw [hW4]; exact st3.setAll cs3 hl31)
              have RS4 := Lib.hid (show Bx W4 (w.heap.size + 1) 30 zsC by rw [hW4]; exact (RS2.out.old b3).same (heap_sets _ _ _ _ _ (by omega)))
              have OX4 := Lib.hid (show Bx W4 w1.heap.size 47 oc by rw [hW4]; exact (OX2.out.old b3).same (heap_sets _ _ _ _ _ (by omega)))
              have S4 := Lib.hid (show OwnS ρ3 L W2.heap.size W4 cs3 ds by rw [hW4]; exact s3.asides _ 0 cs3 n0)
              have BEL4 := Lib.hid (show Below w.heap.size w W4 by rw [hW4]; exact below_sets _ _ _ (BEL2.out.trans (b3.mono (by omega))) _ (Nat.le_refl _))
              have N4 := Lib.hid (show ρ3 w.heap.size = .none ∧ ρ3 (w.heap.size + 1) = .none ∧ ρ3 w1.heap.size = .none from ⟨n0, n1, n2⟩)
              have HS4 := Lib.hid (show w.heap.size + 2 ≤ w1.heap.size ∧ w1.heap.size < W4.heap.size ∧ W2.heap.size ≤ W4.heap.size ∧ w.heap.size ≤ W2.heap.size by rw [hW4, sets_size]; omega)
              have HL3 := Lib.hid hl3
              have rg4 := ST4.out.range
              rw [hW4] at rg4
              have RG4 := Lib.hid rg4
              have HW4 := Lib.hid hW4
              clear h2 hb3 st3 hl3 hl31 n0 n1 n2 rg4 s3 hn3 b3 hW4
              have rgo := OX4.out.range
              rw [HW4.out] at rgo
              have RGO4 := Lib.hid rgo
              have HRM := Lib.hid (remove_prog ρ3 L W2.heap.size cs3 ds oc (findO id (dxs ds 1)) W4 S4.out (RO.out.any flatObject) (by have := HS4.out; omega) (by omega) (by
                have e : dint (findO id (dxs ds 1)) 0 = id := by
                  unfold findO
                  cases hf : (dxs ds 1).find? (fun o => dint o 0 == id) with
                  | none => unfold hasO at hh; rw [hf] at hh; cases hh
                  | some x => have := List.find?_some hf; exact eq_of_beq this
                rw [e]; exact hh))
              clear rgo
              go_wp2_with (first | ((with_reducible refine wpList_store_cs rfl 30 (.tmp 5) (.tmp 23) rfl w.heap.size 0 cs3 ?_ ?_ TH3.out HI3.out HO3.out ?_); rfl; rfl) | ((with_reducible refine wpList_load_mid rfl 30 (.tmp 5) rfl w.heap.size 0 ?_ cs3 _ RG4.out Try.underlying30 rfl HI3.out ?_); rfl) | ((with_reducible refine wpList_load_mid rfl 47 (.tmp 12) rfl w1.heap.size 0 ?_ oc _ RGO4.out Try.underlying47 rfl HIO.out ?_); rfl))
              rw [← HW4.out]
              refine HRM.out.mono ?_
              rintro e w5 ⟨cs5, rfl, ρ5, s5, u5⟩
              have s5 : OwnS ρ5 L W2.heap.size w5 cs5 (mvR ds id) := s5
              have h4 := HS4.out
              have h5 := u5.size
              have st5 := ST4.out.same (u5.keep _ (by omega) (.inr (.inl N4.out.1)))
              have rs5 := RS4.out.same (u5.keep _ (by omega) (.inr (.inl N4.out.2.1)))
              have ox5 := OX4.out.same (u5.keep _ (by omega) (.inr (.inl N4.out.2.2)))
              have q0 : ρ5 w.heap.size = .none := (u5.role _ (by omega)).trans N4.out.1
              have q1 : ρ5 (w.heap.size + 1) = .none := (u5.role _ (by omega)).trans N4.out.2.1
              have q2 : ρ5 w1.heap.size = .none := (u5.role _ (by omega)).trans N4.out.2.2
              have hl5 := s5.len.1
              have hl53 : cs5.length = cs3.length := by rw [hl5, HL3.out]
              obtain ⟨W6, hW6⟩ : ∃ W, W = w5.setCells w.heap.size 0 cs5 := ⟨_, rfl⟩
              have TH5 := Lib.hid (show w5.there w.heap.size 0 cs5.length by rw [hl53]; exact st5.there)
              have HI5 := Lib.hid (show (Try.prog.info? 30).map (·.size) = some cs5.length by rw [infoState, hl5])
              have HO5 := Lib.hid s5.rd.one
              have ST6 := Lib.hid (show Bx W6 w.heap.size 30 cs5 by rw [hW6]; exact st5.setAll cs5 hl53)
              have RS6 := Lib.hid (show Bx W6 (w.heap.size + 1) 30 zsC by rw [hW6]; exact rs5.same (heap_sets _ _ _ _ _ (by omega)))
              have OX6 := Lib.hid (show Bx W6 w1.heap.size 47 oc by rw [hW6]; exact ox5.same (heap_sets _ _ _ _ _ (by omega)))
              have S6 := Lib.hid (show OwnS ρ5 L W2.heap.size W6 cs5 (mvR ds id) by rw [hW6]; exact s5.asides _ 0 cs5 q0)
              have BEL6 := Lib.hid (show Below w.heap.size w W6 by rw [hW6]; exact below_sets _ _ _ (u5.below BEL4.out h4.2.2.2 (by omega)) _ (Nat.le_refl _))
              have N6 := Lib.hid (show ρ5 w.heap.size = .none ∧ ρ5 (w.heap.size + 1) = .none ∧ ρ5 w1.heap.size = .none from ⟨q0, q1, q2⟩)
              have HS6 := Lib.hid (show w.heap.size + 2 ≤ w1.heap.size ∧ w1.heap.size < W6.heap.size ∧ W2.heap.size ≤ W6.heap.size ∧ w.heap.size ≤ W2.heap.size by rw [hW6, sets_size]; omega)
              have HL5 := Lib.hid hl5
              have rg6 := ST6.out.range
              have co5 := OX6.out.cell 5 _ (RO.out.bool 5 rfl).1
              rw [ht] at co5
              have rgo := OX6.out.range
              rw [hW6] at rg6 co5 rgo
              have RG6 := Lib.hid rg6
              have RGO6 := Lib.hid rgo
              have HW6 := Lib.hid hW6
              clear h4 h5 st5 rs5 ox5 q0 q1 q2 hl5 hl53 rg6 rgo s5 u5 hW6
              have c13 := ST6.out.cell 13 _ (S6.out.rd.int 13 rfl).1
              have c14 := ST6.out.cell 14 _ (S6.out.rd.int 14 rfl).1
              have e13 : dint (mvR ds id) 13 = dint ds 13 := dint_of (removeT_keep _ _ 13 (by omega))
              have e14 : dint (mvR ds id) 14 = dint ds 14 := dint_of (removeT_keep _ _ 14 (by omega))
              rw [e13, HW6.out] at c13
              rw [e14, HW6.out] at c14
              have HMV := Lib.hid (moved_prog oc (findO id (dxs ds 1)) (dint ds 13) 5 control (dint ds 14) W6 (RO.out.any flatObject))
              obtain ⟨ml, hml⟩ : ∃ ml, ml = mvC ds id 5 control := ⟨_, rfl⟩
              have hml2 : movedC (findO id (dxs ds 1)) (dint ds 13) 5 control (dint ds 14) = ml := hml.symm
              rw [hml2] at HMV
              have HML := Lib.hid hml
              clear e13 e14 hml hml2
              go_wp2_with (first | ((with_reducible refine wpList_store_cs rfl 30 (.tmp 5) (.tmp 37) rfl w.heap.size 0 cs5 ?_ ?_ TH5.out HI5.out HO5.out ?_); rfl; rfl) | ((with_reducible refine wpList_load_mid rfl 47 (.tmp 12) rfl w1.heap.size 0 ?_ oc _ RGO6.out Try.underlying47 rfl HIO.out ?_); rfl))
              rw [← HW6.out]
              refine HMV.out.mono ?_
              rintro e w7 ⟨rfl, b7⟩
              clear c13 c14 co5
              have hmn : ml.length = 19 := by rw [HML.out]; rfl
              have h6 := HS6.out
              have h7 := b7.size
              obtain ⟨W7, hW7⟩ : ∃ W, W = w7.alloc (.cells #[.int .i64 0, .int .i64 0, .int .i64 0, .int .i64 0, .int .i64 0, .bool false, .bool false, .bool false, .bool false, .int .i64 0, .int .i64 0, .int .i64 0, .int .i64 0, .int .i64 0, .int .i64 0, .int .i64 0, .bool false, .int .i64 0, .int .i64 0] 47) := ⟨_, rfl⟩
              have mz : Bx W7 w7.heap.size 47 zObjC.1 := by rw [hW7]; exact Bx.new w7 zObjC.1 _
              have b7' : Below w7.heap.size w7 W7 := by rw [hW7]; exact (Below.refl _ _).alloc (Nat.le_refl _) _
              have ht7 : W7.there w7.heap.size 0 ml.length := by rw [hmn]; exact mz.there
              rw [hW7] at ht7
              have THM := Lib.hid ht7
              have HIM := Lib.hid (show (Try.prog.info? 47).map (·.size) = some ml.length by rw [infoObject, hmn])
              have hmr : RdL (fun _ => False) 0 w7 kObject ml ((mvC ds id 5 control).map .lit) := by rw [HML.out]; exact movedC_rd _ _ _ _ _ _
              have HOM := Lib.hid hmr.one
              obtain ⟨W8, hW8⟩ : ∃ W, W = W7.setCells w7.heap.size 0 ml := ⟨_, rfl⟩
              have mx8 : Bx W8 w7.heap.size 47 ml := by rw [hW8]; exact mz.setAll ml hmn
              have b8 : Below W6.heap.size W6 W8 := by rw [hW8]; exact below_sets _ _ _ (b7.trans (b7'.mono h7)) _ h7
              obtain ⟨ρ8, s8, hnone8, hsame8⟩ := S6.out.new b8
              have hm8 : w7.heap.size < W8.heap.size := mx8.lt
              have ST8 := Lib.hid (ST6.out.old b8)
              have RS8 := Lib.hid (RS6.out.old b8)
              have MX8 := Lib.hid mx8
              have HP := Lib.hid (put_prog ρ8 L W2.heap.size cs5 (mvR ds id) ml _ W8 s8 (hmr.any flatObject) (by omega) (by omega))
              have N8 := Lib.hid (show ρ8 w.heap.size = .none ∧ ρ8 (w.heap.size + 1) = .none ∧ ρ8 w7.heap.size = .none from ⟨(hsame8 _ (by omega)).trans N6.out.1, (hsame8 _ (by omega)).trans N6.out.2.1, hnone8 _ h7⟩)
              have BEL8 := Lib.hid (BEL6.out.trans (b8.mono (by omega)))
              have HS8 := Lib.hid (show w.heap.size + 2 ≤ w7.heap.size ∧ w7.heap.size < W8.heap.size ∧ W2.heap.size ≤ W8.heap.size ∧ w.heap.size ≤ W2.heap.size by omega)
              have rg8 := ST8.out.range
              have rgm := mx8.range
              rw [hW8, hW7] at rg8 rgm
              have RG8 := Lib.hid rg8
              have RGM := Lib.hid rgm
              have HW8 := Lib.hid (show W8 = _ by rw [hW8, hW7])
              clear hmn h6 h7 b7 hW7 mz b7' ht7 hmr hW8 mx8 b8 s8 hnone8 hsame8 hm8 rg8 rgm
              go_wp2_with (first | ((with_reducible refine wpList_store_cs rfl 47 (.tmp 14) (.tmp 56) rfl w7.heap.size 0 ml ?_ ?_ THM.out HIM.out HOM.out ?_); rfl; rfl) | ((with_reducible refine wpList_load_mid rfl 30 (.tmp 5) rfl w.heap.size 0 ?_ cs5 _ RG8.out Try.underlying30 rfl HI5.out ?_); rfl) | ((with_reducible refine wpList_load_mid rfl 47 (.tmp 14) rfl w7.heap.size 0 ?_ ml _ RGM.out Try.underlying47 rfl HIM.out ?_); rfl))
              rw [← HW8.out]
              refine HP.out.mono ?_
              rintro e w9 ⟨cs9, rfl, ρ9, s9, u9⟩
              have s9 : OwnS ρ9 (L + 128) W2.heap.size w9 cs9 (mvP ds id 5 control) := s9
              have h8 := HS8.out
              have h9 := u9.size
              have st9 := ST8.out.same (u9.keep _ (by omega) (.inr (.inl N8.out.1)))
              have rs9 := RS8.out.same (u9.keep _ (by omega) (.inr (.inl N8.out.2.1)))
              have mx9 := MX8.out.same (u9.keep _ (by omega) (.inr (.inl N8.out.2.2)))
              have q0 : ρ9 w.heap.size = .none := (u9.role _ (by omega)).trans N8.out.1
              have q1 : ρ9 (w.heap.size + 1) = .none := (u9.role _ (by omega)).trans N8.out.2.1
              have q2 : ρ9 w7.heap.size = .none := (u9.role _ (by omega)).trans N8.out.2.2
              have hl9 := s9.len.1
              have hl95 : cs9.length = cs5.length := by rw [hl9, HL5.out]
              have TH9 := Lib.hid (show w9.there w.heap.size 0 cs9.length by rw [hl95]; exact st9.there)
              have HI9 := Lib.hid (show (Try.prog.info? 30).map (·.size) = some cs9.length by rw [infoState, hl9])
              have HO9 := Lib.hid s9.rd.one
              obtain ⟨W10, hW10⟩ : ∃ W, W = w9.setCells w.heap.size 0 cs9 := ⟨_, rfl⟩
              have st10 : Bx W10 w.heap.size 30 cs9 := by rw [hW10]; exact st9.setAll cs9 hl95
              have s10 : OwnS ρ9 (L + 128) W2.heap.size W10 cs9 (mvP ds id 5 control) := by rw [hW10]; exact s9.asides _ 0 cs9 q0
              have e13 : dint (mvP ds id 5 control) 13 = dint ds 13 := (dint_ne _ _ _ _ (by omega)).trans (dint_of (removeT_keep _ _ 13 (by omega)))
              have e14 : dint (mvP ds id 5 control) 14 = dint ds 14 := (dint_ne _ _ _ _ (by omega)).trans (dint_of (removeT_keep _ _ 14 (by omega)))
              have c13 := st10.cell 13 _ (s10.rd.int 13 rfl).1
              have c14 := st10.cell 14 _ (s10.rd.int 14 rfl).1
              have f13 := st10.frozen 13
              have f14 := st10.frozen 14
              rw [e13, hW10] at c13
              rw [e14, hW10] at c14
              rw [hW10] at f13 f14
              obtain ⟨cs12, hcs12⟩ : ∃ l, l = (cs9.set 13 (.int .i64 (dint ds 13 + 1))).set 14 (.int .i64 (dint ds 14 + 1)) := ⟨_, rfl⟩
              obtain ⟨W12, hW12⟩ : ∃ W, W = (W10.setCell ⟨w.heap.size, 13, none⟩ (.int .i64 (dint ds 13 + 1))).setCell ⟨w.heap.size, 14, none⟩ (.int .i64 (dint ds 14 + 1)) := ⟨_, rfl⟩
              have st12 : Bx W12 w.heap.size 30 cs12 := by rw [hW12, hcs12]; exact (st10.set 13 _).set 14 _
              have rs12 : Bx W12 (w.heap.size + 1) 30 zsC := by rw [hW12, hW10]; exact ((rs9.same (heap_sets _ _ _ _ _ (by omega))).other 13 _ (by omega)).other 14 _ (by omega)
              have mx12 : Bx W12 w7.heap.size 47 ml := by rw [hW12, hW10]; exact ((mx9.same (heap_sets _ _ _ _ _ (by omega))).other 13 _ (by omega)).other 14 _ (by omega)
              have s12 : OwnS ρ9 (L + 128) W2.heap.size W12 cs12 (mvN ds id 5 control) := by
                rw [hW12, hcs12]
                exact (((s10.aside w.heap.size 13 (.int .i64 (dint ds 13 + 1)) q0).setLit 13 (by omega) .int rfl (.int .i64 (dint ds 13 + 1)) ⟨_, rfl⟩).aside w.heap.size 14 (.int .i64 (dint ds 14 + 1)) q0).setLit 14 (by omega) .int rfl (.int .i64 (dint ds 14 + 1)) ⟨_, rfl⟩
              have bel12 : Below w.heap.size w W12 := by
                rw [hW12, hW10]
                exact below_set (below_set (below_sets _ _ _ (u9.below BEL8.out h8.2.2.2 (by omega)) _ (Nat.le_refl _)) _ _ _ (Nat.le_refl _)) _ _ _ (Nat.le_refl _)
              have hz12 : W12.heap.size = w9.heap.size := by rw [hW12, hW10]; simp only [World.setCell, Array.size_modify, sets_size]
              have co2 := mx12.cell 2 (.int .i64 (mvO ds id)) (by rw [HML.out]; rfl)
              rw [hW12, hW10] at co2
              obtain ⟨ao, nn, cc, hc0, hn, hnl, hx⟩ := s12.at_list w.heap.size st12 q0 5 (mvO ds id)
              have hplb : (dxs (mvN ds id 5 control) 0).length * 152 ≤ L + 128 := by obtain ⟨_, _, _, pl⟩ := s12.ply; exact pl.bytes
              have HLS := Lib.hid (list_prog w.heap.size ao nn cc 5 (mvO ds id) W12 (st12.cell 0 _ hc0) hn (by omega))
              have ST12 := Lib.hid st12
              have RS12 := Lib.hid rs12
              have MX12 := Lib.hid mx12
              have S12 := Lib.hid s12
              have BEL12 := Lib.hid bel12
              have N12 := Lib.hid (show ρ9 w.heap.size = .none ∧ ρ9 (w.heap.size + 1) = .none ∧ ρ9 w7.heap.size = .none from ⟨q0, q1, q2⟩)
              have HS12 := Lib.hid (show w.heap.size + 2 ≤ w7.heap.size ∧ w7.heap.size < W12.heap.size ∧ W2.heap.size ≤ W12.heap.size ∧ w.heap.size ≤ W2.heap.size by omega)
              have HW12 := Lib.hid (show W12 = _ by rw [hW12, hW10])
              clear h8 h9 st9 rs9 mx9 q0 q1 q2 hl9 hl95 hW10 st10 s10 e13 e14 hcs12 hW12 st12 rs12 mx12 s12 bel12 hz12 hc0 hn hnl hplb s9 u9
              rcases hx with ⟨hp, _, hset⟩ | ⟨ab, oo, v, hp, A⟩
              · rw [hp] at HLS
                have hLN : mvL ds id 5 control bottom = mvN ds id 5 control := hset _
                have STF := ST12
                have RSF := RS12
                have MXF := MX12
                have SF_ := Lib.hid (show OwnS ρ9 (L + 128 + 8) W2.heap.size W12 cs12 (mvL ds id 5 control bottom) by rw [hLN]; exact S12.out.frame (by omega) (Nat.le_refl _) (fun _ _ _ => rfl) (fun _ _ => rfl))
                have BELF := BEL12
                have NF := Lib.hid N12.out.2.1
                clear hp hset hLN
                go_wp2_with ((with_reducible refine wpList_store_cs rfl 30 (.tmp 5) (.tmp 59) rfl w.heap.size 0 cs9 ?_ ?_ TH9.out HI9.out HO9.out ?_); rfl; rfl)
                rw [← HW12.out]
                refine HLS.out.mono ?_
                rintro e w13 ⟨rfl, rfl⟩
                obtain ⟨WF, hWF⟩ : ∃ W, W = w13 := ⟨_, rfl⟩
                rw [← hWF] at STF RSF MXF SF_ BELF ⊢
                clear hWF c13 c14 f13 f14 co2
                go_wp2_with fail
                have h12 := HS12.out
                have hlF := SF_.out.len.1
                have SS0 := Lib.hid (show Bx WF w.heap.size 30 cs12 ∧ Bx WF w7.heap.size 47 ml from ⟨STF.out, MXF.out⟩)
                have HIF := Lib.hid (show (Try.prog.info? 30).map (·.size) = some cs12.length by rw [infoState, hlF])
                have THF := Lib.hid (show WF.drew.there (w.heap.size + 1) 0 cs12.length by rw [hlF]; exact RSF.out.drew.there)
                have HOF := Lib.hid SF_.out.rd.one
                have BE := Lib.hid (RSF.out.drew.setAll cs12 hlF)
                have SE := Lib.hid ((SF_.out.old (Below.refl _ _).drew).asides (w.heap.size + 1) 0 cs12 NF.out)
                have BF := Lib.hid (below_sets cs12 0 WF.drew BELF.out.drew (w.heap.size + 1) (Nat.le_succ _))
                have SS1 := Lib.hid (show Bx (WF.drew.setCells (w.heap.size + 1) 0 cs12) w.heap.size 30 cs12 ∧ Bx (WF.drew.setCells (w.heap.size + 1) 0 cs12) w7.heap.size 47 ml from ⟨STF.out.drew.same (heap_sets _ _ _ _ _ (by omega)), MXF.out.drew.same (heap_sets _ _ _ _ _ (by omega))⟩)
                have HC0 := Lib.hid (show ml[0]? = some (.int .i64 (dint ds 13)) by rw [HML.out]; rfl)
                clear h12 hlF
                refine wp_region_noPanic ?_
                refine wp_region_held_drew (S := fun wS => Bx wS w.heap.size 30 cs12 ∧ Bx wS w7.heap.size 47 ml) (by kernel_rfl) (SS0.out) (fun hHeld => ?_)
                refine wpAnyH_take (i := 0) (oi := ?oiT22a0x) (v := .agg cs12.toArray) ?hiT22a0x (by kernel_rfl) (by kernel_rfl) (by kernel_rfl) ?hqT22a0x ?hyT22a0x (by assumption) ?restT22a0x
                case hiT22a0x => (simp only [List.getElem?_toArray, List.getElem?_cons_zero] <;> rfl)
                case hqT22a0x => exact fun _ _ _ h => h
                case hyT22a0x => exact (yieldsIf_load_mid (by rfl) 30 (.tmp 5) rfl w.heap.size 0 (by simp [Act.eval]) cs12 _ (fun _ h => Bx.range h.1) Try.underlying30 rfl HIF.out)
                try simp only [Act.put, List.setIfInBounds_toArray, List.set_cons_zero, List.set_cons_succ]
                refine wpAnyH_take (i := 1) (oi := ?oiT22a1x) (v := ?vT22a1x) ?hiT22a1x (by kernel_rfl) (by kernel_rfl) (by kernel_rfl) ?hqT22a1x ?hyT22a1x (by assumption) ?restT22a1x
                case hiT22a1x => (simp only [List.getElem?_toArray, List.getElem?_cons_succ, List.getElem?_cons_zero] <;> rfl)
                case hqT22a1x => exact fun _ _ _ h => h
                case hyT22a1x => exact Or.inl ⟨by rfl, by (intro wS hSw; have s5 := Bx.cell hSw.2 0 _ HC0.out; go_simp; try with_reducible rfl)⟩
                try simp only [Act.put, List.setIfInBounds_toArray, List.set_cons_zero, List.set_cons_succ]
                refine wpAnyH_take (i := 2) (oi := ?oiT22a2x) (v := ?vT22a2x) ?hiT22a2x (by kernel_rfl) (by kernel_rfl) (by kernel_rfl) ?hqT22a2x ?hyT22a2x (by assumption) ?restT22a2x
                case hiT22a2x => (simp only [List.getElem?_toArray, List.getElem?_cons_succ, List.getElem?_cons_zero] <;> rfl)
                case hqT22a2x => exact fun _ _ _ h => h
                case hyT22a2x => exact Or.inl ⟨by rfl, by (intro wS hSw; have s5 := Bx.cell hSw.2 0 _ HC0.out; go_simp; try with_reducible rfl)⟩
                try simp only [Act.put, List.setIfInBounds_toArray, List.set_cons_zero, List.set_cons_succ]
                refine wpAnyH_ready (rs := [3]) (by kernel_rfl) (by simp) ?_
                refine AllReadyH.cons (o := ?oiT22a3x) ?hiT22a3x (fun K hK => ?hsT22a3x) AllReadyH.nil
                case hiT22a3x => (simp only [List.getElem?_toArray, List.getElem?_cons_succ, List.getElem?_cons_zero] <;> rfl)
                refine step_store_mid rfl 30 (.tmp 10) (.tmp 98) rfl (w.heap.size + 1) 0 cs12 (by simp [Act.eval]) (by simp [Act.eval]) THF.out HIF.out HOF.out ?_
                refine hK.out _ _ SS1.out (fun hHeld3 => ?_)
                clear hK K
                try simp only [Act.put]
                refine wpAnyH_take (i := 4) (oi := ?oiT22a4x) (v := ?vT22a4x) ?hiT22a4x (by kernel_rfl) (by kernel_rfl) (by kernel_rfl) ?hqT22a4x ?hyT22a4x (by assumption) ?restT22a4x
                case hiT22a4x => (simp only [List.getElem?_toArray, List.getElem?_cons_succ, List.getElem?_cons_zero] <;> rfl)
                case hqT22a4x => exact fun _ _ _ h => h
                case hyT22a4x => exact Or.inl ⟨by rfl, by (intro wS hSw; have s5 := Bx.cell hSw.2 0 _ HC0.out; go_simp; try with_reducible rfl)⟩
                try simp only [Act.put, List.setIfInBounds_toArray, List.set_cons_zero, List.set_cons_succ]
                refine wpAnyH_done (by kernel_rfl) ?_ _
                refine NoPanic.normal ?_
                go_wp2_with fail
                refine bodyPost_ret (results_cs2 Try.results15 (w.heap.size + 1) ?_ (.int .i64 (dint ds 13)) ?_ cs12 _ (Bx.range BE.out) Try.underlying30 rfl HIF.out) rfl ?_
                · rfl
                · rfl
                · exact ⟨cs12, _, rfl, SE.out.rd, BF.out⟩
              · rw [listPtr5] at hp; cases hp
            · have hb0 : (z != 0) = true := by simpa using hne0
              have hb5 : (z != 5) = true := by simpa using hne5
              have hmv : moveT ds id z control bottom = (mvR ds id, 0) := by unfold moveT; rw [if_pos ⟨hh, by omega, by omega⟩, if_pos ⟨ht, hne0, hne5⟩]
              rw [hmv]
              clear hmv
              go_enter Try.func15, Try.ntmps15
              go_wp2_with ((with_reducible refine wpList_load_mid rfl 30 (.tmp 5) rfl w.heap.size 0 ?_ cs _ RG.out Try.underlying30 rfl HI.out ?_); rfl)
              rw [← HW0.out]
              refine HF.out.mono ?_
              rintro e w1 ⟨oc, rfl, ro, b1⟩
              have hs0 := XX.out.size
              have hb1 := b1.size
              have hol := ro.len.1
              rw [kObject_len] at hol
              obtain ⟨W1, hW1⟩ : ∃ W, W = w1.alloc (.cells #[.int .i64 0, .int .i64 0, .int .i64 0, .int .i64 0, .int .i64 0, .bool false, .bool false, .bool false, .bool false, .int .i64 0, .int .i64 0, .int .i64 0, .int .i64 0, .int .i64 0, .int .i64 0, .int .i64 0, .bool false, .int .i64 0, .int .i64 0] 47) := ⟨_, rfl⟩
              have oz : Bx W1 w1.heap.size 47 zObjC.1 := by rw [hW1]; exact Bx.new w1 zObjC.1 _
              have ht := oz.there
              have hz19 : zObjC.1.length = oc.length := by rw [hol]; rfl
              rw [hz19, hW1] at ht
              have THO := Lib.hid ht
              have HIO := Lib.hid (show (Try.prog.info? 47).map (·.size) = some oc.length by rw [infoObject, hol])
              have HOO := Lib.hid ro.one
              obtain ⟨W2, hW2⟩ : ∃ W, W = W1.setCells w1.heap.size 0 oc := ⟨_, rfl⟩
              have ox2 : Bx W2 w1.heap.size 47 oc := by rw [hW2]; exact oz.setAll oc hz19.symm
              have bb : Below W0.heap.size W0 W2 := by
                rw [hW2]
                exact below_sets _ _ _ (b1.trans (show Below W0.heap.size w1 W1 by rw [hW1]; exact (Below.refl _ _).alloc hb1 _)) _ hb1
              have st2 := XX.out.st.old bb
              have rg2 := st2.range
              rw [hW2, hW1] at rg2
              have RG2 := Lib.hid rg2
              have hb2 := bb.size
              have hm1 : w1.heap.size < W2.heap.size := ox2.lt
              have HC := Lib.hid (copy_prog _ L cs ds W2 (HR.out.old bb) (by omega))
              have ST2 := Lib.hid st2
              have RS2 := Lib.hid (XX.out.rs.old bb)
              have OX2 := Lib.hid ox2
              have RO := Lib.hid ro
              have BEL2 := Lib.hid (XX.out.bel.trans (bb.mono XX.out.bel.size))
              have HS2 := Lib.hid (show w.heap.size + 2 ≤ w1.heap.size ∧ w1.heap.size < W2.heap.size by omega)
              have HW2 := Lib.hid (show W2 = _ by rw [hW2, hW1])
              clear hs0 hb1 b1 hol hW1 oz ht hz19 hW2 ox2 bb st2 rg2 hb2 hm1 ro
              go_wp2_with (first | ((with_reducible refine wpList_store_cs rfl 47 (.tmp 12) (.tmp 20) rfl w1.heap.size 0 oc ?_ ?_ THO.out HIO.out HOO.out ?_); rfl; rfl) | ((with_reducible refine wpList_load_mid rfl 30 (.tmp 5) rfl w.heap.size 0 ?_ cs _ RG2.out Try.underlying30 rfl HI.out ?_); rfl))
              rw [← HW2.out]
              refine HC.out.mono ?_
              rintro e w3 ⟨cs3, rfl, ⟨ρ3, s3, hn3⟩, b3⟩
              have h2 := HS2.out
              have hb3 := b3.size
              have st3 := ST2.out.old b3
              have hl3 := s3.len.1
              have hl31 : cs3.length = cs.length := by rw [hl3, HLN.out]
              obtain ⟨W4, hW4⟩ : ∃ W, W = w3.setCells w.heap.size 0 cs3 := ⟨_, rfl⟩
              have TH3 := Lib.hid (show w3.there w.heap.size 0 cs3.length by rw [hl31]; exact st3.there)
              have HI3 := Lib.hid (show (Try.prog.info? 30).map (·.size) = some cs3.length by rw [infoState, hl3])
              have HO3 := Lib.hid s3.rd.one
              have n0 : ρ3 w.heap.size = .none := hn3 _ (by omega) (fun hF => by have := hF.2; omega)
              have n1 : ρ3 (w.heap.size + 1) = .none := hn3 _ (by omega) (fun hF => by have := hF.2; omega)
              have n2 : ρ3 w1.heap.size = .none := hn3 _ (by omega) (fun hF => by have := hF.2; omega)
              have ST4 := Lib.hid (show Bx W4 w.heap.size 30 cs3 by rw [hW4]; exact st3.setAll cs3 hl31)
              have RS4 := Lib.hid (show Bx W4 (w.heap.size + 1) 30 zsC by rw [hW4]; exact (RS2.out.old b3).same (heap_sets _ _ _ _ _ (by omega)))
              have OX4 := Lib.hid (show Bx W4 w1.heap.size 47 oc by rw [hW4]; exact (OX2.out.old b3).same (heap_sets _ _ _ _ _ (by omega)))
              have S4 := Lib.hid (show OwnS ρ3 L W2.heap.size W4 cs3 ds by rw [hW4]; exact s3.asides _ 0 cs3 n0)
              have BEL4 := Lib.hid (show Below w.heap.size w W4 by rw [hW4]; exact below_sets _ _ _ (BEL2.out.trans (b3.mono (by omega))) _ (Nat.le_refl _))
              have N4 := Lib.hid (show ρ3 w.heap.size = .none ∧ ρ3 (w.heap.size + 1) = .none ∧ ρ3 w1.heap.size = .none from ⟨n0, n1, n2⟩)
              have HS4 := Lib.hid (show w.heap.size + 2 ≤ w1.heap.size ∧ w1.heap.size < W4.heap.size ∧ W2.heap.size ≤ W4.heap.size ∧ w.heap.size ≤ W2.heap.size by rw [hW4, sets_size]; omega)
              have HL3 := Lib.hid hl3
              have rg4 := ST4.out.range
              rw [hW4] at rg4
              have RG4 := Lib.hid rg4
              have HW4 := Lib.hid hW4
              clear h2 hb3 st3 hl3 hl31 n0 n1 n2 rg4 s3 hn3 b3 hW4
              have rgo := OX4.out.range
              rw [HW4.out] at rgo
              have RGO4 := Lib.hid rgo
              have HRM := Lib.hid (remove_prog ρ3 L W2.heap.size cs3 ds oc (findO id (dxs ds 1)) W4 S4.out (RO.out.any flatObject) (by have := HS4.out; omega) (by omega) (by
                have e : dint (findO id (dxs ds 1)) 0 = id := by
                  unfold findO
                  cases hf : (dxs ds 1).find? (fun o => dint o 0 == id) with
                  | none => unfold hasO at hh; rw [hf] at hh; cases hh
                  | some x => have := List.find?_some hf; exact eq_of_beq this
                rw [e]; exact hh))
              clear rgo
              go_wp2_with (first | ((with_reducible refine wpList_store_cs rfl 30 (.tmp 5) (.tmp 23) rfl w.heap.size 0 cs3 ?_ ?_ TH3.out HI3.out HO3.out ?_); rfl; rfl) | ((with_reducible refine wpList_load_mid rfl 30 (.tmp 5) rfl w.heap.size 0 ?_ cs3 _ RG4.out Try.underlying30 rfl HI3.out ?_); rfl) | ((with_reducible refine wpList_load_mid rfl 47 (.tmp 12) rfl w1.heap.size 0 ?_ oc _ RGO4.out Try.underlying47 rfl HIO.out ?_); rfl))
              rw [← HW4.out]
              refine HRM.out.mono ?_
              rintro e w5 ⟨cs5, rfl, ρ5, s5, u5⟩
              have s5 : OwnS ρ5 L W2.heap.size w5 cs5 (mvR ds id) := s5
              have h4 := HS4.out
              have h5 := u5.size
              have st5 := ST4.out.same (u5.keep _ (by omega) (.inr (.inl N4.out.1)))
              have rs5 := RS4.out.same (u5.keep _ (by omega) (.inr (.inl N4.out.2.1)))
              have ox5 := OX4.out.same (u5.keep _ (by omega) (.inr (.inl N4.out.2.2)))
              have q0 : ρ5 w.heap.size = .none := (u5.role _ (by omega)).trans N4.out.1
              have q1 : ρ5 (w.heap.size + 1) = .none := (u5.role _ (by omega)).trans N4.out.2.1
              have q2 : ρ5 w1.heap.size = .none := (u5.role _ (by omega)).trans N4.out.2.2
              have hl5 := s5.len.1
              have hl53 : cs5.length = cs3.length := by rw [hl5, HL3.out]
              obtain ⟨W6, hW6⟩ : ∃ W, W = w5.setCells w.heap.size 0 cs5 := ⟨_, rfl⟩
              have TH5 := Lib.hid (show w5.there w.heap.size 0 cs5.length by rw [hl53]; exact st5.there)
              have HI5 := Lib.hid (show (Try.prog.info? 30).map (·.size) = some cs5.length by rw [infoState, hl5])
              have HO5 := Lib.hid s5.rd.one
              have ST6 := Lib.hid (show Bx W6 w.heap.size 30 cs5 by rw [hW6]; exact st5.setAll cs5 hl53)
              have RS6 := Lib.hid (show Bx W6 (w.heap.size + 1) 30 zsC by rw [hW6]; exact rs5.same (heap_sets _ _ _ _ _ (by omega)))
              have OX6 := Lib.hid (show Bx W6 w1.heap.size 47 oc by rw [hW6]; exact ox5.same (heap_sets _ _ _ _ _ (by omega)))
              have S6 := Lib.hid (show OwnS ρ5 L W2.heap.size W6 cs5 (mvR ds id) by rw [hW6]; exact s5.asides _ 0 cs5 q0)
              have BEL6 := Lib.hid (show Below w.heap.size w W6 by rw [hW6]; exact below_sets _ _ _ (u5.below BEL4.out h4.2.2.2 (by omega)) _ (Nat.le_refl _))
              have N6 := Lib.hid (show ρ5 w.heap.size = .none ∧ ρ5 (w.heap.size + 1) = .none ∧ ρ5 w1.heap.size = .none from ⟨q0, q1, q2⟩)
              have HS6 := Lib.hid (show w.heap.size + 2 ≤ w1.heap.size ∧ w1.heap.size < W6.heap.size ∧ W2.heap.size ≤ W6.heap.size ∧ w.heap.size ≤ W2.heap.size by rw [hW6, sets_size]; omega)
              have HL5 := Lib.hid hl5
              have rg6 := ST6.out.range
              have co5 := OX6.out.cell 5 _ (RO.out.bool 5 rfl).1
              rw [ht] at co5
              have rgo := OX6.out.range
              rw [hW6] at rg6 co5 rgo
              have RG6 := Lib.hid rg6
              have RGO6 := Lib.hid rgo
              have HW6 := Lib.hid hW6
              clear h4 h5 st5 rs5 ox5 q0 q1 q2 hl5 hl53 rg6 rgo s5 u5 hW6
              have th6 : W6.there (w.heap.size + 1) 0 cs5.length := by rw [HL5.out]; exact RS6.out.there
              rw [HW6.out] at th6
              have TH6 := Lib.hid th6
              have BE := Lib.hid (RS6.out.setAll cs5 HL5.out)
              clear th6
              go_wp2_with (first | ((with_reducible refine wpList_store_cs rfl 30 (.tmp 5) (.tmp 37) rfl w.heap.size 0 cs5 ?_ ?_ TH5.out HI5.out HO5.out ?_); rfl; rfl) | ((with_reducible refine wpList_load_mid rfl 30 (.tmp 5) rfl w.heap.size 0 ?_ cs5 _ RG6.out Try.underlying30 rfl HI5.out ?_); rfl) | ((with_reducible refine wpList_store_cs rfl 30 (.tmp 10) (.tmp 48) rfl (w.heap.size + 1) 0 cs5 ?_ ?_ TH6.out HI5.out HO5.out ?_); rfl; rfl))
              rw [← HW6.out]
              refine bodyPost_ret (results_cs2 Try.results15 (w.heap.size + 1) ?_ (.int .i64 0) ?_ cs5 _ (Bx.range BE.out) Try.underlying30 rfl HI5.out) rfl ?_
              · rfl
              · rfl
              · exact ⟨cs5, _, rfl, ((S6.out.asides _ 0 cs5 N6.out.2.1).rd).frame (by omega) (Nat.le_refl _) (fun _ _ _ => rfl) (fun _ h _ => h), below_sets _ _ _ BEL6.out _ (Nat.le_succ _)⟩
end Go.Proofs.Ytiebjkbofoppaaa
