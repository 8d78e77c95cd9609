/- Parts of the proof, joined: Chapter 25: Move of the program; Chapter 25: fair, alive; Chapter 25: the arguments of the statements; Equality of structs and arrays without slices, by the shape of the type. It holds for any program; Evaluation of Go code on trees: values, states, one step of each operation. No program in sight; Evaluation on trees: when a memory holds what a state says. No program in sight. -/
import Derived.Test.YtiebjkbofoppaaaMC
import Derived.Test.YtiebjkbofoppaaaRows
import Derived.ProofKit
import Derived.OpenShut
import Derived.ChangeOld
import Derived.ShutString
import Derived.ChangeSlices
import Derived.SizedLaws
import Derived.DeepKeys
import Derived.Orders
section
namespace Go.Proofs.Ytiebjkbofoppaaa
open Go Go.RowKit Go.Sort Cg
theorem below_grownBy {w w1 w2 : World} {r : Option Nat} (hb : Below w.heap.size w w1) (g : w1.grownBy w2 r) : w.grownBy w2 r :=
 ⟨g.os.trans hb.os, g.tape.trans hb.tape, g.output.trans hb.output, Nat.le_trans hb.size g.size, fun k hk hr => (g.block k (Nat.lt_of_lt_of_le hk hb.size) hr).trans (hb.block k hk)⟩
theorem step_append_own2 {P : Program} {ops : Array Oper} {o : Oper} {a : Act} {w : World} {K : Act → World → Prop} {Q : Exit → Act → World → Prop} {E : Prop} (hgd : o.guard = none) (s x : Operand) (t : TypeId)
  (ho : o.op = .call { callee := .builtin .append, args := #[s, x], argTypes := #[t, t] })
  (base : Nat) {e : TypeId} {z : Value} {k bytes : Nat} (hE : ElemIs P t e z k bytes)
  (v : Value) (n : Nat) (xs : List Value) (hs : a.eval s = v) (hown : w.ownsRow base e k v n xs)
  (ad : Addr) (m c : Nat) (news : List Value) (hx : a.eval x = .slice (some ad) m c) (hl : news.length = m * k) (hnews : ∀ j u, news[j]? = some u → w.cell? (ad.add j) = some u) (h1 : ∀ u ∈ news, u.oneCell' = true)
  (h63 : n + m ≤ maxLen) (hbytes : (n + m) * bytes ≤ 140737488355328) (hbase : base ≤ w.heap.size) (hm : 0 < m)
  (h : ∀ v' w', w'.ownsRow base e k v' (n + m) (xs ++ news) → w.grownBy w' v.ownBlock → (v'.ownBlock = v.ownBlock ∨ v'.ownBlock = some w.heap.size) → K (a.put o.dst v') w') :
  if Region.wanted o (yielded ops a.tmps) = true then Oper.wp P o a w K Q else E := by
 have hw : Region.wanted o (yielded ops a.tmps) = true := by simp [Region.wanted, hgd]
 rw [if_pos hw]
 obtain ⟨v', w', hr, h2, h3, h4⟩ := run_append_own2 w base t o.type e hE v n xs hown ad m c news hl hnews h1 h63 hbytes hbase hm
 exact Lib.wp_append_run w s x t t ho v _ hs hx v' w' hr (h v' w' h2 h3 h4)
def mvR (ds : List D) (id : Int) : List D := removeT ds (findO id (dxs ds 1))
def mvC (ds : List D) (id z control : Int) : List Value := movedC (findO id (dxs ds 1)) (dint ds 13) z control (dint ds 14)
def mvP (ds : List D) (id z control : Int) : List D := putT (mvR ds id) ((mvC ds id z control).map .lit)
def mvN (ds : List D) (id z control : Int) : List D := ((mvP ds id z control).set 13 (dI (dint ds 13 + 1))).set 14 (dI (dint ds 14 + 1))
def mvO (ds : List D) (id : Int) : Int := dint (findO id (dxs ds 1)) 2
def mvL (ds : List D) (id z control : Int) (bottom : Bool) : List D := setT (mvN ds id z control) z (mvO ds id) (if (z == 2 && !bottom) = true then [dI (dint ds 13)] :: listT (mvN ds id z control) z (mvO ds id) else listT (mvN ds id z control) z (mvO ds id) ++ [[dI (dint ds 13)]])
def moveT (ds : List D) (id z control : Int) (bottom : Bool) : List D × Int :=
 if hasO id (dxs ds 1) = true ∧ 0 ≤ z ∧ z ≤ 5 then
  if dbool (findO id (dxs ds 1)) 5 = true ∧ z ≠ 0 ∧ z ≠ 5 then (mvR ds id, 0) else (mvL ds id z control bottom, dint ds 13)
 else (ds, 0)
theorem setT_keep (ds : List D) (z p : Int) (l : List (List D)) (c : Nat) (hc : 5 ≤ c) : (setT ds z p l)[c]? = ds[c]? := by
 unfold setT
 split
 ·rw [List.getElem?_set_ne (by omega)]
 split
 ·rw [List.getElem?_set_ne (by omega)]
 split
 ·rfl
 split
 ·rw [List.getElem?_set_ne (by omega)]
 ·rfl
theorem removeT_keep (ds od : List D) (c : Nat) (hc : 5 ≤ c) : (removeT ds od)[c]? = ds[c]? := by
 unfold removeT remC remB
 rw [List.getElem?_set_ne (by omega), setT_keep _ _ _ _ c hc]
 unfold remA
 rw [List.getElem?_set_ne (by omega)]
theorem dint_of {ds ds' : List D} {c : Nat} (h : ds[c]? = ds'[c]?) : dint ds c = dint ds' c := by unfold dint; rw [h]
theorem cons_es {F : Nat → Prop} {L : Nat} {w : World} {es : List (Cl 1)} {xs : List (List D)} (h : Es F L w (kI 1) es xs) (n : Int) : ∃ y : Cl 1, y.1 = [.int .i64 n] ∧ Es F L w (kI 1) (y :: es) ([dI n] :: xs) := by
 refine ⟨⟨[.int .i64 n], rfl, fun u hu => by rw [List.mem_singleton.1 hu]; rfl⟩, rfl, ?_⟩
 have := es_ins h 0 ⟨[.int .i64 n], rfl, fun u hu => by rw [List.mem_singleton.1 hu]; rfl⟩ [dI n] (.cons (.lit ⟨n, rfl⟩) .nil)
 simpa using this
theorem listPtr5 (b : Nat) (ao : Option Addr) (n : Nat) (p : Int) : listPtr b ao n 5 p = none := by
 unfold listPtr
 simp only [show ((5 : Int) == 0) = false from rfl, show ((5 : Int) == 4) = false from rfl, show ((5 : Int) == 1) = false from rfl, show ((5 : Int) == 2) = false from rfl, show ((5 : Int) == 3) = false from rfl, Bool.false_eq_true, if_false]
 split
 ·rfl
 split <;> rfl
set_option maxRecDepth 100000 in
set_option maxHeartbeats 8000000 in
theorem move_prog (F : Nat → Prop) (L : Nat) (cs : List Value) (ds : List D) (id z control : Int) (bottom : Bool) (w : World) (h : RdL F L w kState cs ds) (hL : L + 136 ≤ 140737488355328) (h13 : IntKind.i64.wrap (dint ds 13 + 1) = dint ds 13 + 1) (h14 : IntKind.i64.wrap (dint ds 14 + 1) = dint ds 14 + 1) :
  Calls Try.prog 15 #[.agg cs.toArray, .int .i64 id, .int .i64 z, .int .i64 control, .bool bottom] w fun e w' => ∃ cs' F', e = .returned (.tuple #[.agg cs'.toArray, .int .i64 (moveT ds id z control bottom).2]) ∧ RdL F' (L + 128 + 8) w' kState cs' (moveT ds id z control bottom).1 ∧ Below w.heap.size w w' ∧ ∀ b, b < w.heap.size → F' b → F b := by
 have hl := h.len.1
 rw [kState_len] at hl
 obtain ⟨W0, hW0⟩ : ∃ W, W = (w.alloc (.cells cs.toArray 30)).alloc (.cells #[.slice none 0 0, .slice none 0 0, .slice none 0 0, .slice none 0 0, .slice none 0 0, .slice none 0 0, .slice none 0 0, .int .i64 0, .int .i64 0, .int .i64 0, .bool false, .int .i64 0, .int .i64 0, .int .i64 0, .int .i64 0, .int .u64 0, .slice none 0 0, .int .i64 0, .int .i64 0] 30) := ⟨_, rfl⟩
 have X : Bx2 w W0 cs := by rw [hW0]; exact bx2 w cs
 have HR := Lib.hid (show RdL (fun b => F b ∧ b < w.heap.size) L W0 kState cs ds from (h.imp (fun b hF hlt => ⟨hF, hlt⟩)).old X.bel)
 have HF := Lib.hid (find_prog _ L cs ds id W0 HR.out (by omega))
 have RG := Lib.hid (show ((w.alloc (.cells cs.toArray 30)).alloc (.cells #[.slice none 0 0, .slice none 0 0, .slice none 0 0, .slice none 0 0, .slice none 0 0, .slice none 0 0, .slice none 0 0, .int .i64 0, .int .i64 0, .int .i64 0, .bool false, .int .i64 0, .int .i64 0, .int .i64 0, .int .i64 0, .int .u64 0, .slice none 0 0, .int .i64 0, .int .i64 0] 30)).rangeAt w.heap.size 0 cs from (by have := X.st.range; rw [hW0] at this; exact this))
 have HI := Lib.hid (show (Try.prog.info? 30).map (·.size) = some cs.length by rw [infoState, hl])
 have XX := Lib.hid X
 have HW0 := Lib.hid hW0
 have HLN := Lib.hid hl
 clear hW0 X h hl
 cases hh : hasO id (dxs ds 1)
 ·rw [hh] at HF
  have hmv : moveT ds id z control bottom = (ds, 0) := by unfold moveT; rw [if_neg (fun hx => by rw [hh] at hx; cases hx.1)]
  rw [hmv]
  clear hmv
  go_enter Try.func15, Try.ntmps15
  go_wp2_with ((with_reducible refine wpList_load_mid rfl 30 (.tmp 5) rfl w.heap.size 0 ?_ cs _ RG.out Try.underlying30 rfl HI.out ?_); rfl)
  rw [← HW0.out]
  refine HF.out.mono ?_
  rintro e w1 ⟨oc, rfl, ro, b1⟩
  have hs0 := XX.out.size
  have hb1 := b1.size
  have hol := ro.len.1
  rw [kObject_len] at hol
  obtain ⟨W1, hW1⟩ : ∃ W, W = w1.alloc (.cells #[.int .i64 0, .int .i64 0, .int .i64 0, .int .i64 0, .int .i64 0, .bool false, .bool false, .bool false, .bool false, .int .i64 0, .int .i64 0, .int .i64 0, .int .i64 0, .int .i64 0, .int .i64 0, .int .i64 0, .bool false, .int .i64 0, .int .i64 0] 47) := ⟨_, rfl⟩
  have oz : Bx W1 w1.heap.size 47 zObjC.1 := by rw [hW1]; exact Bx.new w1 zObjC.1 _
  have ht := oz.there
  have hz19 : zObjC.1.length = oc.length := by rw [hol]; rfl
  rw [hz19, hW1] at ht
  have THO := Lib.hid ht
  have HIO := Lib.hid (show (Try.prog.info? 47).map (·.size) = some oc.length by rw [infoObject, hol])
  have HOO := Lib.hid ro.one
  obtain ⟨W2, hW2⟩ : ∃ W, W = W1.setCells w1.heap.size 0 oc := ⟨_, rfl⟩
  have ox2 : Bx W2 w1.heap.size 47 oc := by rw [hW2]; exact oz.setAll oc hz19.symm
  have bb : Below W0.heap.size W0 W2 := by
   rw [hW2]
   exact below_sets _ _ _ (b1.trans (show Below W0.heap.size w1 W1 by rw [hW1]; exact (Below.refl _ _).alloc hb1 _)) _ hb1
  have st2 := XX.out.st.old bb
  have rg2 := st2.range
  rw [hW2, hW1] at rg2
  have RG2 := Lib.hid rg2
  have hb2 := bb.size
  have hm1 : w1.heap.size < W2.heap.size := ox2.lt
  have HC := Lib.hid (copy_prog _ L cs ds W2 (HR.out.old bb) (by omega))
  have ST2 := Lib.hid st2
  have RS2 := Lib.hid (XX.out.rs.old bb)
  have OX2 := Lib.hid ox2
  have RO := Lib.hid ro
  have BEL2 := Lib.hid (XX.out.bel.trans (bb.mono XX.out.bel.size))
  have HS2 := Lib.hid (show w.heap.size + 2 ≤ w1.heap.size ∧ w1.heap.size < W2.heap.size by omega)
  have HW2 := Lib.hid (show W2 = _ by rw [hW2, hW1])
  clear hs0 hb1 b1 hol hW1 oz ht hz19 hW2 ox2 bb st2 rg2 hb2 hm1 ro
  go_wp2_with (first | ((with_reducible refine wpList_store_cs rfl 47 (.tmp 12) (.tmp 20) rfl w1.heap.size 0 oc ?_ ?_ THO.out HIO.out HOO.out ?_); rfl; rfl) | ((with_reducible refine wpList_load_mid rfl 30 (.tmp 5) rfl w.heap.size 0 ?_ cs _ RG2.out Try.underlying30 rfl HI.out ?_); rfl))
  rw [← HW2.out]
  refine HC.out.mono ?_
  rintro e w3 ⟨cs3, rfl, ⟨ρ3, s3, hn3⟩, b3⟩
  have h2 := HS2.out
  have hb3 := b3.size
  have st3 := ST2.out.old b3
  have hl3 := s3.len.1
  have hl31 : cs3.length = cs.length := by rw [hl3, HLN.out]
  obtain ⟨W4, hW4⟩ : ∃ W, W = w3.setCells w.heap.size 0 cs3 := ⟨_, rfl⟩
  have TH3 := Lib.hid (show w3.there w.heap.size 0 cs3.length by rw [hl31]; exact st3.there)
  have HI3 := Lib.hid (show (Try.prog.info? 30).map (·.size) = some cs3.length by rw [infoState, hl3])
  have HO3 := Lib.hid s3.rd.one
  have n0 : ρ3 w.heap.size = .none := hn3 _ (by omega) (fun hF => by have := hF.2; omega)
  have n1 : ρ3 (w.heap.size + 1) = .none := hn3 _ (by omega) (fun hF => by have := hF.2; omega)
  have n2 : ρ3 w1.heap.size = .none := hn3 _ (by omega) (fun hF => by have := hF.2; omega)
  have ST4 := Lib.hid (show Bx W4 w.heap.size 30 cs3 by rw [hW4]; exact st3.setAll cs3 hl31)
  have RS4 := Lib.hid (show Bx W4 (w.heap.size + 1) 30 zsC by rw [hW4]; exact (RS2.out.old b3).same (heap_sets _ _ _ _ _ (by omega)))
  have OX4 := Lib.hid (show Bx W4 w1.heap.size 47 oc by rw [hW4]; exact (OX2.out.old b3).same (heap_sets _ _ _ _ _ (by omega)))
  have S4 := Lib.hid (show OwnS ρ3 L W2.heap.size W4 cs3 ds by rw [hW4]; exact s3.asides _ 0 cs3 n0)
  have BEL4 := Lib.hid (show Below w.heap.size w W4 by rw [hW4]; exact below_sets _ _ _ (BEL2.out.trans (b3.mono (by omega))) _ (Nat.le_refl _))
  have N4 := Lib.hid (show ρ3 w.heap.size = .none ∧ ρ3 (w.heap.size + 1) = .none ∧ ρ3 w1.heap.size = .none from ⟨n0, n1, n2⟩)
  have FR4 := Lib.hid (show ∀ b, b < w.heap.size → ρ3 b ≠ .none → F b from fun b hb hn => Classical.byContradiction fun hF => hn (hn3 b (by omega) (fun h => hF h.1)))
  have HS4 := Lib.hid (show w.heap.size + 2 ≤ w1.heap.size ∧ w1.heap.size < W4.heap.size ∧ W2.heap.size ≤ W4.heap.size ∧ w.heap.size ≤ W2.heap.size by rw [hW4, sets_size]; omega)
  have HL3 := Lib.hid hl3
  have rg4 := ST4.out.range
  rw [hW4] at rg4
  have RG4 := Lib.hid rg4
  have HW4 := Lib.hid hW4
  clear h2 hb3 st3 hl3 hl31 n0 n1 n2 rg4 s3 hn3 b3 hW4
  have th4 : W4.there (w.heap.size + 1) 0 cs3.length := by rw [HL3.out]; exact RS4.out.there
  rw [HW4.out] at th4
  have TH4 := Lib.hid th4
  have BE := Lib.hid (RS4.out.setAll cs3 HL3.out)
  clear th4
  go_wp2_with (first | ((with_reducible refine wpList_store_cs rfl 30 (.tmp 5) (.tmp 23) rfl w.heap.size 0 cs3 ?_ ?_ TH3.out HI3.out HO3.out ?_); rfl; rfl) | ((with_reducible refine wpList_load_mid rfl 30 (.tmp 5) rfl w.heap.size 0 ?_ cs3 _ RG4.out Try.underlying30 rfl HI3.out ?_); rfl) | ((with_reducible refine wpList_store_cs rfl 30 (.tmp 10) (.tmp 34) rfl (w.heap.size + 1) 0 cs3 ?_ ?_ TH4.out HI3.out HO3.out ?_); rfl; rfl))
  rw [← HW4.out]
  refine bodyPost_ret (results_cs2 Try.results15 (w.heap.size + 1) ?_ (.int .i64 0) ?_ cs3 _ (Bx.range BE.out) Try.underlying30 rfl HI3.out) rfl ?_
  ·rfl
  ·rfl
  ·exact ⟨cs3, _, rfl, ((S4.out.asides _ 0 cs3 N4.out.2.1).rd).frame (by omega) (Nat.le_refl _) (fun _ _ _ => rfl) (fun _ h _ => h), below_sets _ _ _ BEL4.out _ (Nat.le_succ _), FR4.out⟩
 ·rw [hh] at HF
  by_cases hz0 : z < 0
  ·have hz0d : decide (z < 0) = true := decide_eq_true hz0
   have hmv : moveT ds id z control bottom = (ds, 0) := by unfold moveT; rw [if_neg (fun hx => by have := hx.2.1; omega)]
   rw [hmv]
   clear hmv
   go_enter Try.func15, Try.ntmps15
   go_wp2_with ((with_reducible refine wpList_load_mid rfl 30 (.tmp 5) rfl w.heap.size 0 ?_ cs _ RG.out Try.underlying30 rfl HI.out ?_); rfl)
   rw [← HW0.out]
   refine HF.out.mono ?_
   rintro e w1 ⟨oc, rfl, ro, b1⟩
   have hs0 := XX.out.size
   have hb1 := b1.size
   have hol := ro.len.1
   rw [kObject_len] at hol
   obtain ⟨W1, hW1⟩ : ∃ W, W = w1.alloc (.cells #[.int .i64 0, .int .i64 0, .int .i64 0, .int .i64 0, .int .i64 0, .bool false, .bool false, .bool false, .bool false, .int .i64 0, .int .i64 0, .int .i64 0, .int .i64 0, .int .i64 0, .int .i64 0, .int .i64 0, .bool false, .int .i64 0, .int .i64 0] 47) := ⟨_, rfl⟩
   have oz : Bx W1 w1.heap.size 47 zObjC.1 := by rw [hW1]; exact Bx.new w1 zObjC.1 _
   have ht := oz.there
   have hz19 : zObjC.1.length = oc.length := by rw [hol]; rfl
   rw [hz19, hW1] at ht
   have THO := Lib.hid ht
   have HIO := Lib.hid (show (Try.prog.info? 47).map (·.size) = some oc.length by rw [infoObject, hol])
   have HOO := Lib.hid ro.one
   obtain ⟨W2, hW2⟩ : ∃ W, W = W1.setCells w1.heap.size 0 oc := ⟨_, rfl⟩
   have ox2 : Bx W2 w1.heap.size 47 oc := by rw [hW2]; exact oz.setAll oc hz19.symm
   have bb : Below W0.heap.size W0 W2 := by
    rw [hW2]
    exact below_sets _ _ _ (b1.trans (show Below W0.heap.size w1 W1 by rw [hW1]; exact (Below.refl _ _).alloc hb1 _)) _ hb1
   have st2 := XX.out.st.old bb
   have rg2 := st2.range
   rw [hW2, hW1] at rg2
   have RG2 := Lib.hid rg2
   have hb2 := bb.size
   have hm1 : w1.heap.size < W2.heap.size := ox2.lt
   have HC := Lib.hid (copy_prog _ L cs ds W2 (HR.out.old bb) (by omega))
   have ST2 := Lib.hid st2
   have RS2 := Lib.hid (XX.out.rs.old bb)
   have OX2 := Lib.hid ox2
   have RO := Lib.hid ro
   have BEL2 := Lib.hid (XX.out.bel.trans (bb.mono XX.out.bel.size))
   have HS2 := Lib.hid (show w.heap.size + 2 ≤ w1.heap.size ∧ w1.heap.size < W2.heap.size by omega)
   have HW2 := Lib.hid (show W2 = _ by rw [hW2, hW1])
   clear hs0 hb1 b1 hol hW1 oz ht hz19 hW2 ox2 bb st2 rg2 hb2 hm1 ro
   go_wp2_with (first | ((with_reducible refine wpList_store_cs rfl 47 (.tmp 12) (.tmp 20) rfl w1.heap.size 0 oc ?_ ?_ THO.out HIO.out HOO.out ?_); rfl; rfl) | ((with_reducible refine wpList_load_mid rfl 30 (.tmp 5) rfl w.heap.size 0 ?_ cs _ RG2.out Try.underlying30 rfl HI.out ?_); rfl))
   rw [← HW2.out]
   refine HC.out.mono ?_
   rintro e w3 ⟨cs3, rfl, ⟨ρ3, s3, hn3⟩, b3⟩
   have h2 := HS2.out
   have hb3 := b3.size
   have st3 := ST2.out.old b3
   have hl3 := s3.len.1
   have hl31 : cs3.length = cs.length := by rw [hl3, HLN.out]
   obtain ⟨W4, hW4⟩ : ∃ W, W = w3.setCells w.heap.size 0 cs3 := ⟨_, rfl⟩
   have TH3 := Lib.hid (show w3.there w.heap.size 0 cs3.length by rw [hl31]; exact st3.there)
   have HI3 := Lib.hid (show (Try.prog.info? 30).map (·.size) = some cs3.length by rw [infoState, hl3])
   have HO3 := Lib.hid s3.rd.one
   have n0 : ρ3 w.heap.size = .none := hn3 _ (by omega) (fun hF => by have := hF.2; omega)
   have n1 : ρ3 (w.heap.size + 1) = .none := hn3 _ (by omega) (fun hF => by have := hF.2; omega)
   have n2 : ρ3 w1.heap.size = .none := hn3 _ (by omega) (fun hF => by have := hF.2; omega)
   have ST4 := Lib.hid (show Bx W4 w.heap.size 30 cs3 by rw [hW4]; exact st3.setAll cs3 hl31)
   have RS4 := Lib.hid (show Bx W4 (w.heap.size + 1) 30 zsC by rw [hW4]; exact (RS2.out.old b3).same (heap_sets _ _ _ _ _ (by omega)))
   have OX4 := Lib.hid (show Bx W4 w1.heap.size 47 oc by rw [hW4]; exact (OX2.out.old b3).same (heap_sets _ _ _ _ _ (by omega)))
   have S4 := Lib.hid (show OwnS ρ3 L W2.heap.size W4 cs3 ds by rw [hW4]; exact s3.asides _ 0 cs3 n0)
   have BEL4 := Lib.hid (show Below w.heap.size w W4 by rw [hW4]; exact below_sets _ _ _ (BEL2.out.trans (b3.mono (by omega))) _ (Nat.le_refl _))
   have N4 := Lib.hid (show ρ3 w.heap.size = .none ∧ ρ3 (w.heap.size + 1) = .none ∧ ρ3 w1.heap.size = .none from ⟨n0, n1, n2⟩)
   have FR4 := Lib.hid (show ∀ b, b < w.heap.size → ρ3 b ≠ .none → F b from fun b hb hn => Classical.byContradiction fun hF => hn (hn3 b (by omega) (fun h => hF h.1)))
   have HS4 := Lib.hid (show w.heap.size + 2 ≤ w1.heap.size ∧ w1.heap.size < W4.heap.size ∧ W2.heap.size ≤ W4.heap.size ∧ w.heap.size ≤ W2.heap.size by rw [hW4, sets_size]; omega)
   have HL3 := Lib.hid hl3
   have rg4 := ST4.out.range
   rw [hW4] at rg4
   have RG4 := Lib.hid rg4
   have HW4 := Lib.hid hW4
   clear h2 hb3 st3 hl3 hl31 n0 n1 n2 rg4 s3 hn3 b3 hW4
   have th4 : W4.there (w.heap.size + 1) 0 cs3.length := by rw [HL3.out]; exact RS4.out.there
   rw [HW4.out] at th4
   have TH4 := Lib.hid th4
   have BE := Lib.hid (RS4.out.setAll cs3 HL3.out)
   clear th4
   go_wp2_with (first | ((with_reducible refine wpList_store_cs rfl 30 (.tmp 5) (.tmp 23) rfl w.heap.size 0 cs3 ?_ ?_ TH3.out HI3.out HO3.out ?_); rfl; rfl) | ((with_reducible refine wpList_load_mid rfl 30 (.tmp 5) rfl w.heap.size 0 ?_ cs3 _ RG4.out Try.underlying30 rfl HI3.out ?_); rfl) | ((with_reducible refine wpList_store_cs rfl 30 (.tmp 10) (.tmp 34) rfl (w.heap.size + 1) 0 cs3 ?_ ?_ TH4.out HI3.out HO3.out ?_); rfl; rfl))
   rw [← HW4.out]
   refine bodyPost_ret (results_cs2 Try.results15 (w.heap.size + 1) ?_ (.int .i64 0) ?_ cs3 _ (Bx.range BE.out) Try.underlying30 rfl HI3.out) rfl ?_
   ·rfl
   ·rfl
   ·exact ⟨cs3, _, rfl, ((S4.out.asides _ 0 cs3 N4.out.2.1).rd).frame (by omega) (Nat.le_refl _) (fun _ _ _ => rfl) (fun _ h _ => h), below_sets _ _ _ BEL4.out _ (Nat.le_succ _), FR4.out⟩
  ·by_cases hz5 : 5 < z
   ·have hmv : moveT ds id z control bottom = (ds, 0) := by unfold moveT; rw [if_neg (fun hx => by have := hx.2.2; omega)]
    rw [hmv]
    clear hmv
    go_enter Try.func15, Try.ntmps15
    go_wp2_with ((with_reducible refine wpList_load_mid rfl 30 (.tmp 5) rfl w.heap.size 0 ?_ cs _ RG.out Try.underlying30 rfl HI.out ?_); rfl)
    rw [← HW0.out]
    refine HF.out.mono ?_
    rintro e w1 ⟨oc, rfl, ro, b1⟩
    have hs0 := XX.out.size
    have hb1 := b1.size
    have hol := ro.len.1
    rw [kObject_len] at hol
    obtain ⟨W1, hW1⟩ : ∃ W, W = w1.alloc (.cells #[.int .i64 0, .int .i64 0, .int .i64 0, .int .i64 0, .int .i64 0, .bool false, .bool false, .bool false, .bool false, .int .i64 0, .int .i64 0, .int .i64 0, .int .i64 0, .int .i64 0, .int .i64 0, .int .i64 0, .bool false, .int .i64 0, .int .i64 0] 47) := ⟨_, rfl⟩
    have oz : Bx W1 w1.heap.size 47 zObjC.1 := by rw [hW1]; exact Bx.new w1 zObjC.1 _
    have ht := oz.there
    have hz19 : zObjC.1.length = oc.length := by rw [hol]; rfl
    rw [hz19, hW1] at ht
    have THO := Lib.hid ht
    have HIO := Lib.hid (show (Try.prog.info? 47).map (·.size) = some oc.length by rw [infoObject, hol])
    have HOO := Lib.hid ro.one
    obtain ⟨W2, hW2⟩ : ∃ W, W = W1.setCells w1.heap.size 0 oc := ⟨_, rfl⟩
    have ox2 : Bx W2 w1.heap.size 47 oc := by rw [hW2]; exact oz.setAll oc hz19.symm
    have bb : Below W0.heap.size W0 W2 := by
     rw [hW2]
     exact below_sets _ _ _ (b1.trans (show Below W0.heap.size w1 W1 by rw [hW1]; exact (Below.refl _ _).alloc hb1 _)) _ hb1
    have st2 := XX.out.st.old bb
    have rg2 := st2.range
    rw [hW2, hW1] at rg2
    have RG2 := Lib.hid rg2
    have hb2 := bb.size
    have hm1 : w1.heap.size < W2.heap.size := ox2.lt
    have HC := Lib.hid (copy_prog _ L cs ds W2 (HR.out.old bb) (by omega))
    have ST2 := Lib.hid st2
    have RS2 := Lib.hid (XX.out.rs.old bb)
    have OX2 := Lib.hid ox2
    have RO := Lib.hid ro
    have BEL2 := Lib.hid (XX.out.bel.trans (bb.mono XX.out.bel.size))
    have HS2 := Lib.hid (show w.heap.size + 2 ≤ w1.heap.size ∧ w1.heap.size < W2.heap.size by omega)
    have HW2 := Lib.hid (show W2 = _ by rw [hW2, hW1])
    clear hs0 hb1 b1 hol hW1 oz ht hz19 hW2 ox2 bb st2 rg2 hb2 hm1 ro
    go_wp2_with (first | ((with_reducible refine wpList_store_cs rfl 47 (.tmp 12) (.tmp 20) rfl w1.heap.size 0 oc ?_ ?_ THO.out HIO.out HOO.out ?_); rfl; rfl) | ((with_reducible refine wpList_load_mid rfl 30 (.tmp 5) rfl w.heap.size 0 ?_ cs _ RG2.out Try.underlying30 rfl HI.out ?_); rfl))
    rw [← HW2.out]
    refine HC.out.mono ?_
    rintro e w3 ⟨cs3, rfl, ⟨ρ3, s3, hn3⟩, b3⟩
    have h2 := HS2.out
    have hb3 := b3.size
    have st3 := ST2.out.old b3
    have hl3 := s3.len.1
    have hl31 : cs3.length = cs.length := by rw [hl3, HLN.out]
    obtain ⟨W4, hW4⟩ : ∃ W, W = w3.setCells w.heap.size 0 cs3 := ⟨_, rfl⟩
    have TH3 := Lib.hid (show w3.there w.heap.size 0 cs3.length by rw [hl31]; exact st3.there)
    have HI3 := Lib.hid (show (Try.prog.info? 30).map (·.size) = some cs3.length by rw [infoState, hl3])
    have HO3 := Lib.hid s3.rd.one
    have n0 : ρ3 w.heap.size = .none := hn3 _ (by omega) (fun hF => by have := hF.2; omega)
    have n1 : ρ3 (w.heap.size + 1) = .none := hn3 _ (by omega) (fun hF => by have := hF.2; omega)
    have n2 : ρ3 w1.heap.size = .none := hn3 _ (by omega) (fun hF => by have := hF.2; omega)
    have ST4 := Lib.hid (show Bx W4 w.heap.size 30 cs3 by rw [hW4]; exact st3.setAll cs3 hl31)
    have RS4 := Lib.hid (show Bx W4 (w.heap.size + 1) 30 zsC by rw [hW4]; exact (RS2.out.old b3).same (heap_sets _ _ _ _ _ (by omega)))
    have OX4 := Lib.hid (show Bx W4 w1.heap.size 47 oc by rw [hW4]; exact (OX2.out.old b3).same (heap_sets _ _ _ _ _ (by omega)))
    have S4 := Lib.hid (show OwnS ρ3 L W2.heap.size W4 cs3 ds by rw [hW4]; exact s3.asides _ 0 cs3 n0)
    have BEL4 := Lib.hid (show Below w.heap.size w W4 by rw [hW4]; exact below_sets _ _ _ (BEL2.out.trans (b3.mono (by omega))) _ (Nat.le_refl _))
    have N4 := Lib.hid (show ρ3 w.heap.size = .none ∧ ρ3 (w.heap.size + 1) = .none ∧ ρ3 w1.heap.size = .none from ⟨n0, n1, n2⟩)
    have FR4 := Lib.hid (show ∀ b, b < w.heap.size → ρ3 b ≠ .none → F b from fun b hb hn => Classical.byContradiction fun hF => hn (hn3 b (by omega) (fun h => hF h.1)))
    have HS4 := Lib.hid (show w.heap.size + 2 ≤ w1.heap.size ∧ w1.heap.size < W4.heap.size ∧ W2.heap.size ≤ W4.heap.size ∧ w.heap.size ≤ W2.heap.size by rw [hW4, sets_size]; omega)
    have HL3 := Lib.hid hl3
    have rg4 := ST4.out.range
    rw [hW4] at rg4
    have RG4 := Lib.hid rg4
    have HW4 := Lib.hid hW4
    clear h2 hb3 st3 hl3 hl31 n0 n1 n2 rg4 s3 hn3 b3 hW4
    have th4 : W4.there (w.heap.size + 1) 0 cs3.length := by rw [HL3.out]; exact RS4.out.there
    rw [HW4.out] at th4
    have TH4 := Lib.hid th4
    have BE := Lib.hid (RS4.out.setAll cs3 HL3.out)
    clear th4
    go_wp2_with (first | ((with_reducible refine wpList_store_cs rfl 30 (.tmp 5) (.tmp 23) rfl w.heap.size 0 cs3 ?_ ?_ TH3.out HI3.out HO3.out ?_); rfl; rfl) | ((with_reducible refine wpList_load_mid rfl 30 (.tmp 5) rfl w.heap.size 0 ?_ cs3 _ RG4.out Try.underlying30 rfl HI3.out ?_); rfl) | ((with_reducible refine wpList_store_cs rfl 30 (.tmp 10) (.tmp 34) rfl (w.heap.size + 1) 0 cs3 ?_ ?_ TH4.out HI3.out HO3.out ?_); rfl; rfl))
    rw [← HW4.out]
    refine bodyPost_ret (results_cs2 Try.results15 (w.heap.size + 1) ?_ (.int .i64 0) ?_ cs3 _ (Bx.range BE.out) Try.underlying30 rfl HI3.out) rfl ?_
    ·rfl
    ·rfl
    ·exact ⟨cs3, _, rfl, ((S4.out.asides _ 0 cs3 N4.out.2.1).rd).frame (by omega) (Nat.le_refl _) (fun _ _ _ => rfl) (fun _ h _ => h), below_sets _ _ _ BEL4.out _ (Nat.le_succ _), FR4.out⟩
   ·cases ht : dbool (findO id (dxs ds 1)) 5
    ·have hmv : moveT ds id z control bottom = (mvL ds id z control bottom, dint ds 13) := by unfold moveT; rw [if_pos ⟨hh, by omega, by omega⟩, if_neg (fun hx => by rw [ht] at hx; cases hx.1)]
     rw [hmv]
     dsimp only
     clear hmv
     go_enter Try.func15, Try.ntmps15
     go_wp2_with ((with_reducible refine wpList_load_mid rfl 30 (.tmp 5) rfl w.heap.size 0 ?_ cs _ RG.out Try.underlying30 rfl HI.out ?_); rfl)
     rw [← HW0.out]
     refine HF.out.mono ?_
     rintro e w1 ⟨oc, rfl, ro, b1⟩
     have hs0 := XX.out.size
     have hb1 := b1.size
     have hol := ro.len.1
     rw [kObject_len] at hol
     obtain ⟨W1, hW1⟩ : ∃ W, W = w1.alloc (.cells #[.int .i64 0, .int .i64 0, .int .i64 0, .int .i64 0, .int .i64 0, .bool false, .bool false, .bool false, .bool false, .int .i64 0, .int .i64 0, .int .i64 0, .int .i64 0, .int .i64 0, .int .i64 0, .int .i64 0, .bool false, .int .i64 0, .int .i64 0] 47) := ⟨_, rfl⟩
     have oz : Bx W1 w1.heap.size 47 zObjC.1 := by rw [hW1]; exact Bx.new w1 zObjC.1 _
     have ht := oz.there
     have hz19 : zObjC.1.length = oc.length := by rw [hol]; rfl
     rw [hz19, hW1] at ht
     have THO := Lib.hid ht
     have HIO := Lib.hid (show (Try.prog.info? 47).map (·.size) = some oc.length by rw [infoObject, hol])
     have HOO := Lib.hid ro.one
     obtain ⟨W2, hW2⟩ : ∃ W, W = W1.setCells w1.heap.size 0 oc := ⟨_, rfl⟩
     have ox2 : Bx W2 w1.heap.size 47 oc := by rw [hW2]; exact oz.setAll oc hz19.symm
     have bb : Below W0.heap.size W0 W2 := by
      rw [hW2]
      exact below_sets _ _ _ (b1.trans (show Below W0.heap.size w1 W1 by rw [hW1]; exact (Below.refl _ _).alloc hb1 _)) _ hb1
     have st2 := XX.out.st.old bb
     have rg2 := st2.range
     rw [hW2, hW1] at rg2
     have RG2 := Lib.hid rg2
     have hb2 := bb.size
     have hm1 : w1.heap.size < W2.heap.size := ox2.lt
     have HC := Lib.hid (copy_prog _ L cs ds W2 (HR.out.old bb) (by omega))
     have ST2 := Lib.hid st2
     have RS2 := Lib.hid (XX.out.rs.old bb)
     have OX2 := Lib.hid ox2
     have RO := Lib.hid ro
     have BEL2 := Lib.hid (XX.out.bel.trans (bb.mono XX.out.bel.size))
     have HS2 := Lib.hid (show w.heap.size + 2 ≤ w1.heap.size ∧ w1.heap.size < W2.heap.size by omega)
     have HW2 := Lib.hid (show W2 = _ by rw [hW2, hW1])
     clear hs0 hb1 b1 hol hW1 oz ht hz19 hW2 ox2 bb st2 rg2 hb2 hm1 ro
     go_wp2_with (first | ((with_reducible refine wpList_store_cs rfl 47 (.tmp 12) (.tmp 20) rfl w1.heap.size 0 oc ?_ ?_ THO.out HIO.out HOO.out ?_); rfl; rfl) | ((with_reducible refine wpList_load_mid rfl 30 (.tmp 5) rfl w.heap.size 0 ?_ cs _ RG2.out Try.underlying30 rfl HI.out ?_); rfl))
     rw [← HW2.out]
     refine HC.out.mono ?_
     rintro e w3 ⟨cs3, rfl, ⟨ρ3, s3, hn3⟩, b3⟩
     have h2 := HS2.out
     have hb3 := b3.size
     have st3 := ST2.out.old b3
     have hl3 := s3.len.1
     have hl31 : cs3.length = cs.length := by rw [hl3, HLN.out]
     obtain ⟨W4, hW4⟩ : ∃ W, W = w3.setCells w.heap.size 0 cs3 := ⟨_, rfl⟩
     have TH3 := Lib.hid (show w3.there w.heap.size 0 cs3.length by rw [hl31]; exact st3.there)
     have HI3 := Lib.hid (show (Try.prog.info? 30).map (·.size) = some cs3.length by rw [infoState, hl3])
     have HO3 := Lib.hid s3.rd.one
     have n0 : ρ3 w.heap.size = .none := hn3 _ (by omega) (fun hF => by have := hF.2; omega)
     have n1 : ρ3 (w.heap.size + 1) = .none := hn3 _ (by omega) (fun hF => by have := hF.2; omega)
     have n2 : ρ3 w1.heap.size = .none := hn3 _ (by omega) (fun hF => by have := hF.2; omega)
     have ST4 := Lib.hid (show Bx W4 w.heap.size 30 cs3 by rw [hW4]; exact st3.setAll cs3 hl31)
     have RS4 := Lib.hid (show Bx W4 (w.heap.size + 1) 30 zsC by rw [hW4]; exact (RS2.out.old b3).same (heap_sets _ _ _ _ _ (by omega)))
     have OX4 := Lib.hid (show Bx W4 w1.heap.size 47 oc by rw [hW4]; exact (OX2.out.old b3).same (heap_sets _ _ _ _ _ (by omega)))
     have S4 := Lib.hid (show OwnS ρ3 L W2.heap.size W4 cs3 ds by rw [hW4]; exact s3.asides _ 0 cs3 n0)
     have BEL4 := Lib.hid (show Below w.heap.size w W4 by rw [hW4]; exact below_sets _ _ _ (BEL2.out.trans (b3.mono (by omega))) _ (Nat.le_refl _))
     have N4 := Lib.hid (show ρ3 w.heap.size = .none ∧ ρ3 (w.heap.size + 1) = .none ∧ ρ3 w1.heap.size = .none from ⟨n0, n1, n2⟩)
     have FR4 := Lib.hid (show ∀ b, b < w.heap.size → ρ3 b ≠ .none → F b from fun b hb hn => Classical.byContradiction fun hF => hn (hn3 b (by omega) (fun h => hF h.1)))
     have HS4 := Lib.hid (show w.heap.size + 2 ≤ w1.heap.size ∧ w1.heap.size < W4.heap.size ∧ W2.heap.size ≤ W4.heap.size ∧ w.heap.size ≤ W2.heap.size by rw [hW4, sets_size]; omega)
     have HL3 := Lib.hid hl3
     have rg4 := ST4.out.range
     rw [hW4] at rg4
     have RG4 := Lib.hid rg4
     have HW4 := Lib.hid hW4
     clear h2 hb3 st3 hl3 hl31 n0 n1 n2 rg4 s3 hn3 b3 hW4
     have rgo := OX4.out.range
     rw [HW4.out] at rgo
     have RGO4 := Lib.hid rgo
     have HRM := Lib.hid (remove_prog ρ3 L W2.heap.size cs3 ds oc (findO id (dxs ds 1)) W4 S4.out (RO.out.any flatObject) (by have := HS4.out; omega) (by omega) (by
      have e : dint (findO id (dxs ds 1)) 0 = id := by
       unfold findO
       cases hf : (dxs ds 1).find? (fun o => dint o 0 == id) with
       | none => unfold hasO at hh; rw [hf] at hh; cases hh
       | some x => have := List.find?_some hf; exact eq_of_beq this
      rw [e]; exact hh))
     clear rgo
     go_wp2_with (first | ((with_reducible refine wpList_store_cs rfl 30 (.tmp 5) (.tmp 23) rfl w.heap.size 0 cs3 ?_ ?_ TH3.out HI3.out HO3.out ?_); rfl; rfl) | ((with_reducible refine wpList_load_mid rfl 30 (.tmp 5) rfl w.heap.size 0 ?_ cs3 _ RG4.out Try.underlying30 rfl HI3.out ?_); rfl) | ((with_reducible refine wpList_load_mid rfl 47 (.tmp 12) rfl w1.heap.size 0 ?_ oc _ RGO4.out Try.underlying47 rfl HIO.out ?_); rfl))
     rw [← HW4.out]
     refine HRM.out.mono ?_
     rintro e w5 ⟨cs5, rfl, ρ5, s5, u5⟩
     have s5 : OwnS ρ5 L W2.heap.size w5 cs5 (mvR ds id) := s5
     have h4 := HS4.out
     have h5 := u5.size
     have st5 := ST4.out.same (u5.keep _ (by omega) (.inr (.inl N4.out.1)))
     have rs5 := RS4.out.same (u5.keep _ (by omega) (.inr (.inl N4.out.2.1)))
     have ox5 := OX4.out.same (u5.keep _ (by omega) (.inr (.inl N4.out.2.2)))
     have q0 : ρ5 w.heap.size = .none := (u5.role _ (by omega)).trans N4.out.1
     have q1 : ρ5 (w.heap.size + 1) = .none := (u5.role _ (by omega)).trans N4.out.2.1
     have q2 : ρ5 w1.heap.size = .none := (u5.role _ (by omega)).trans N4.out.2.2
     have hl5 := s5.len.1
     have hl53 : cs5.length = cs3.length := by rw [hl5, HL3.out]
     obtain ⟨W6, hW6⟩ : ∃ W, W = w5.setCells w.heap.size 0 cs5 := ⟨_, rfl⟩
     have TH5 := Lib.hid (show w5.there w.heap.size 0 cs5.length by rw [hl53]; exact st5.there)
     have HI5 := Lib.hid (show (Try.prog.info? 30).map (·.size) = some cs5.length by rw [infoState, hl5])
     have HO5 := Lib.hid s5.rd.one
     have ST6 := Lib.hid (show Bx W6 w.heap.size 30 cs5 by rw [hW6]; exact st5.setAll cs5 hl53)
     have RS6 := Lib.hid (show Bx W6 (w.heap.size + 1) 30 zsC by rw [hW6]; exact rs5.same (heap_sets _ _ _ _ _ (by omega)))
     have OX6 := Lib.hid (show Bx W6 w1.heap.size 47 oc by rw [hW6]; exact ox5.same (heap_sets _ _ _ _ _ (by omega)))
     have S6 := Lib.hid (show OwnS ρ5 L W2.heap.size W6 cs5 (mvR ds id) by rw [hW6]; exact s5.asides _ 0 cs5 q0)
     have BEL6 := Lib.hid (show Below w.heap.size w W6 by rw [hW6]; exact below_sets _ _ _ (u5.below BEL4.out h4.2.2.2 (by omega)) _ (Nat.le_refl _))
     have N6 := Lib.hid (show ρ5 w.heap.size = .none ∧ ρ5 (w.heap.size + 1) = .none ∧ ρ5 w1.heap.size = .none from ⟨q0, q1, q2⟩)
     have FR6 := Lib.hid (show ∀ b, b < w.heap.size → ρ5 b ≠ .none → F b from fun b hb hn => FR4.out b hb fun e => hn ((u5.role b (by omega)).trans e))
     have HS6 := Lib.hid (show w.heap.size + 2 ≤ w1.heap.size ∧ w1.heap.size < W6.heap.size ∧ W2.heap.size ≤ W6.heap.size ∧ w.heap.size ≤ W2.heap.size by rw [hW6, sets_size]; omega)
     have HL5 := Lib.hid hl5
     have rg6 := ST6.out.range
     have co5 := OX6.out.cell 5 _ (RO.out.bool 5 rfl).1
     rw [ht] at co5
     have rgo := OX6.out.range
     rw [hW6] at rg6 co5 rgo
     have RG6 := Lib.hid rg6
     have RGO6 := Lib.hid rgo
     have HW6 := Lib.hid hW6
     clear h4 h5 st5 rs5 ox5 q0 q1 q2 hl5 hl53 rg6 rgo s5 u5 hW6
     have c13 := ST6.out.cell 13 _ (S6.out.rd.int 13 rfl).1
     have c14 := ST6.out.cell 14 _ (S6.out.rd.int 14 rfl).1
     have e13 : dint (mvR ds id) 13 = dint ds 13 := dint_of (removeT_keep _ _ 13 (by omega))
     have e14 : dint (mvR ds id) 14 = dint ds 14 := dint_of (removeT_keep _ _ 14 (by omega))
     rw [e13, HW6.out] at c13
     rw [e14, HW6.out] at c14
     have HMV := Lib.hid (moved_prog oc (findO id (dxs ds 1)) (dint ds 13) z control (dint ds 14) W6 (RO.out.any flatObject))
     obtain ⟨ml, hml⟩ : ∃ ml, ml = mvC ds id z control := ⟨_, rfl⟩
     have hml2 : movedC (findO id (dxs ds 1)) (dint ds 13) z control (dint ds 14) = ml := hml.symm
     rw [hml2] at HMV
     have HML := Lib.hid hml
     clear e13 e14 hml hml2
     go_wp2_with (first | ((with_reducible refine wpList_store_cs rfl 30 (.tmp 5) (.tmp 37) rfl w.heap.size 0 cs5 ?_ ?_ TH5.out HI5.out HO5.out ?_); rfl; rfl) | ((with_reducible refine wpList_load_mid rfl 47 (.tmp 12) rfl w1.heap.size 0 ?_ oc _ RGO6.out Try.underlying47 rfl HIO.out ?_); rfl))
     rw [← HW6.out]
     refine HMV.out.mono ?_
     rintro e w7 ⟨rfl, b7⟩
     clear c13 c14 co5
     have hmn : ml.length = 19 := by rw [HML.out]; rfl
     have h6 := HS6.out
     have h7 := b7.size
     obtain ⟨W7, hW7⟩ : ∃ W, W = w7.alloc (.cells #[.int .i64 0, .int .i64 0, .int .i64 0, .int .i64 0, .int .i64 0, .bool false, .bool false, .bool false, .bool false, .int .i64 0, .int .i64 0, .int .i64 0, .int .i64 0, .int .i64 0, .int .i64 0, .int .i64 0, .bool false, .int .i64 0, .int .i64 0] 47) := ⟨_, rfl⟩
     have mz : Bx W7 w7.heap.size 47 zObjC.1 := by rw [hW7]; exact Bx.new w7 zObjC.1 _
     have b7' : Below w7.heap.size w7 W7 := by rw [hW7]; exact (Below.refl _ _).alloc (Nat.le_refl _) _
     have ht7 : W7.there w7.heap.size 0 ml.length := by rw [hmn]; exact mz.there
     rw [hW7] at ht7
     have THM := Lib.hid ht7
     have HIM := Lib.hid (show (Try.prog.info? 47).map (·.size) = some ml.length by rw [infoObject, hmn])
     have hmr : RdL (fun _ => False) 0 w7 kObject ml ((mvC ds id z control).map .lit) := by rw [HML.out]; exact movedC_rd _ _ _ _ _ _
     have HOM := Lib.hid hmr.one
     obtain ⟨W8, hW8⟩ : ∃ W, W = W7.setCells w7.heap.size 0 ml := ⟨_, rfl⟩
     have mx8 : Bx W8 w7.heap.size 47 ml := by rw [hW8]; exact mz.setAll ml hmn
     have b8 : Below W6.heap.size W6 W8 := by rw [hW8]; exact below_sets _ _ _ (b7.trans (b7'.mono h7)) _ h7
     obtain ⟨ρ8, s8, hnone8, hsame8⟩ := S6.out.new b8
     have hm8 : w7.heap.size < W8.heap.size := mx8.lt
     have ST8 := Lib.hid (ST6.out.old b8)
     have RS8 := Lib.hid (RS6.out.old b8)
     have MX8 := Lib.hid mx8
     have HP := Lib.hid (put_prog ρ8 L W2.heap.size cs5 (mvR ds id) ml _ W8 s8 (hmr.any flatObject) (by omega) (by omega))
     have N8 := Lib.hid (show ρ8 w.heap.size = .none ∧ ρ8 (w.heap.size + 1) = .none ∧ ρ8 w7.heap.size = .none from ⟨(hsame8 _ (by omega)).trans N6.out.1, (hsame8 _ (by omega)).trans N6.out.2.1, hnone8 _ h7⟩)
     have FR8 := Lib.hid (show ∀ b, b < w.heap.size → ρ8 b ≠ .none → F b from fun b hb hn => FR6.out b hb fun e => hn ((hsame8 b (by omega)).trans e))
     have BEL8 := Lib.hid (BEL6.out.trans (b8.mono (by omega)))
     have HS8 := Lib.hid (show w.heap.size + 2 ≤ w7.heap.size ∧ w7.heap.size < W8.heap.size ∧ W2.heap.size ≤ W8.heap.size ∧ w.heap.size ≤ W2.heap.size by omega)
     have rg8 := ST8.out.range
     have rgm := mx8.range
     rw [hW8, hW7] at rg8 rgm
     have RG8 := Lib.hid rg8
     have RGM := Lib.hid rgm
     have HW8 := Lib.hid (show W8 = _ by rw [hW8, hW7])
     clear hmn h6 h7 b7 hW7 mz b7' ht7 hmr hW8 mx8 b8 s8 hnone8 hsame8 hm8 rg8 rgm
     go_wp2_with (first | ((with_reducible refine wpList_store_cs rfl 47 (.tmp 14) (.tmp 56) rfl w7.heap.size 0 ml ?_ ?_ THM.out HIM.out HOM.out ?_); rfl; rfl) | ((with_reducible refine wpList_load_mid rfl 30 (.tmp 5) rfl w.heap.size 0 ?_ cs5 _ RG8.out Try.underlying30 rfl HI5.out ?_); rfl) | ((with_reducible refine wpList_load_mid rfl 47 (.tmp 14) rfl w7.heap.size 0 ?_ ml _ RGM.out Try.underlying47 rfl HIM.out ?_); rfl))
     rw [← HW8.out]
     refine HP.out.mono ?_
     rintro e w9 ⟨cs9, rfl, ρ9, s9, u9⟩
     have s9 : OwnS ρ9 (L + 128) W2.heap.size w9 cs9 (mvP ds id z control) := s9
     have h8 := HS8.out
     have h9 := u9.size
     have st9 := ST8.out.same (u9.keep _ (by omega) (.inr (.inl N8.out.1)))
     have rs9 := RS8.out.same (u9.keep _ (by omega) (.inr (.inl N8.out.2.1)))
     have mx9 := MX8.out.same (u9.keep _ (by omega) (.inr (.inl N8.out.2.2)))
     have q0 : ρ9 w.heap.size = .none := (u9.role _ (by omega)).trans N8.out.1
     have q1 : ρ9 (w.heap.size + 1) = .none := (u9.role _ (by omega)).trans N8.out.2.1
     have q2 : ρ9 w7.heap.size = .none := (u9.role _ (by omega)).trans N8.out.2.2
     have FR9 := Lib.hid (show ∀ b, b < w.heap.size → ρ9 b ≠ .none → F b from fun b hb hn => FR8.out b hb fun e => hn ((u9.role b (by omega)).trans e))
     have hl9 := s9.len.1
     have hl95 : cs9.length = cs5.length := by rw [hl9, HL5.out]
     have TH9 := Lib.hid (show w9.there w.heap.size 0 cs9.length by rw [hl95]; exact st9.there)
     have HI9 := Lib.hid (show (Try.prog.info? 30).map (·.size) = some cs9.length by rw [infoState, hl9])
     have HO9 := Lib.hid s9.rd.one
     obtain ⟨W10, hW10⟩ : ∃ W, W = w9.setCells w.heap.size 0 cs9 := ⟨_, rfl⟩
     have st10 : Bx W10 w.heap.size 30 cs9 := by rw [hW10]; exact st9.setAll cs9 hl95
     have s10 : OwnS ρ9 (L + 128) W2.heap.size W10 cs9 (mvP ds id z control) := by rw [hW10]; exact s9.asides _ 0 cs9 q0
     have e13 : dint (mvP ds id z control) 13 = dint ds 13 := (dint_ne _ _ _ _ (by omega)).trans (dint_of (removeT_keep _ _ 13 (by omega)))
     have e14 : dint (mvP ds id z control) 14 = dint ds 14 := (dint_ne _ _ _ _ (by omega)).trans (dint_of (removeT_keep _ _ 14 (by omega)))
     have c13 := st10.cell 13 _ (s10.rd.int 13 rfl).1
     have c14 := st10.cell 14 _ (s10.rd.int 14 rfl).1
     have f13 := st10.frozen 13
     have f14 := st10.frozen 14
     rw [e13, hW10] at c13
     rw [e14, hW10] at c14
     rw [hW10] at f13 f14
     obtain ⟨cs12, hcs12⟩ : ∃ l, l = (cs9.set 13 (.int .i64 (dint ds 13 + 1))).set 14 (.int .i64 (dint ds 14 + 1)) := ⟨_, rfl⟩
     obtain ⟨W12, hW12⟩ : ∃ W, W = (W10.setCell ⟨w.heap.size, 13, none⟩ (.int .i64 (dint ds 13 + 1))).setCell ⟨w.heap.size, 14, none⟩ (.int .i64 (dint ds 14 + 1)) := ⟨_, rfl⟩
     have st12 : Bx W12 w.heap.size 30 cs12 := by rw [hW12, hcs12]; exact (st10.set 13 _).set 14 _
     have rs12 : Bx W12 (w.heap.size + 1) 30 zsC := by rw [hW12, hW10]; exact ((rs9.same (heap_sets _ _ _ _ _ (by omega))).other 13 _ (by omega)).other 14 _ (by omega)
     have mx12 : Bx W12 w7.heap.size 47 ml := by rw [hW12, hW10]; exact ((mx9.same (heap_sets _ _ _ _ _ (by omega))).other 13 _ (by omega)).other 14 _ (by omega)
     have s12 : OwnS ρ9 (L + 128) W2.heap.size W12 cs12 (mvN ds id z control) := by
      rw [hW12, hcs12]
      exact (((s10.aside w.heap.size 13 (.int .i64 (dint ds 13 + 1)) q0).setLit 13 (by omega) .int rfl (.int .i64 (dint ds 13 + 1)) ⟨_, rfl⟩).aside w.heap.size 14 (.int .i64 (dint ds 14 + 1)) q0).setLit 14 (by omega) .int rfl (.int .i64 (dint ds 14 + 1)) ⟨_, rfl⟩
     have bel12 : Below w.heap.size w W12 := by
      rw [hW12, hW10]
      exact below_set (below_set (below_sets _ _ _ (u9.below BEL8.out h8.2.2.2 (by omega)) _ (Nat.le_refl _)) _ _ _ (Nat.le_refl _)) _ _ _ (Nat.le_refl _)
     have hz12 : W12.heap.size = w9.heap.size := by rw [hW12, hW10]; simp only [World.setCell, Array.size_modify, sets_size]
     have co2 := mx12.cell 2 (.int .i64 (mvO ds id)) (by rw [HML.out]; rfl)
     rw [hW12, hW10] at co2
     obtain ⟨ao, nn, cc, hc0, hn, hnl, hx⟩ := s12.at_list w.heap.size st12 q0 z (mvO ds id)
     have hplb : (dxs (mvN ds id z control) 0).length * 152 ≤ L + 128 := by obtain ⟨_, _, _, pl⟩ := s12.ply; exact pl.bytes
     have HLS := Lib.hid (list_prog w.heap.size ao nn cc z (mvO ds id) W12 (st12.cell 0 _ hc0) hn (by omega))
     have ST12 := Lib.hid st12
     have RS12 := Lib.hid rs12
     have MX12 := Lib.hid mx12
     have S12 := Lib.hid s12
     have BEL12 := Lib.hid bel12
     have N12 := Lib.hid (show ρ9 w.heap.size = .none ∧ ρ9 (w.heap.size + 1) = .none ∧ ρ9 w7.heap.size = .none from ⟨q0, q1, q2⟩)
     have HS12 := Lib.hid (show w.heap.size + 2 ≤ w7.heap.size ∧ w7.heap.size < W12.heap.size ∧ W2.heap.size ≤ W12.heap.size ∧ w.heap.size ≤ W2.heap.size by omega)
     have HW12 := Lib.hid (show W12 = _ by rw [hW12, hW10])
     clear h8 h9 st9 rs9 mx9 q0 q1 q2 hl9 hl95 hW10 st10 s10 e13 e14 hcs12 hW12 st12 rs12 mx12 s12 bel12 hz12 hc0 hn hnl hplb s9 u9
     rcases hx with ⟨hp, _, hset⟩ | ⟨ab, oo, v, hp, A⟩
     ·rw [hp] at HLS
      have hLN : mvL ds id z control bottom = mvN ds id z control := hset _
      have STF := ST12
      have RSF := RS12
      have MXF := MX12
      have SF_ := Lib.hid (show OwnS ρ9 (L + 128 + 8) W2.heap.size W12 cs12 (mvL ds id z control bottom) by rw [hLN]; exact S12.out.frame (by omega) (Nat.le_refl _) (fun _ _ _ => rfl) (fun _ _ => rfl))
      have BELF := BEL12
      have NF := Lib.hid N12.out.2.1
      clear hp hset hLN
      go_wp2_with ((with_reducible refine wpList_store_cs rfl 30 (.tmp 5) (.tmp 59) rfl w.heap.size 0 cs9 ?_ ?_ TH9.out HI9.out HO9.out ?_); rfl; rfl)
      rw [← HW12.out]
      refine HLS.out.mono ?_
      rintro e w13 ⟨rfl, rfl⟩
      obtain ⟨WF, hWF⟩ : ∃ W, W = w13 := ⟨_, rfl⟩
      rw [← hWF] at STF RSF MXF SF_ BELF ⊢
      clear hWF c13 c14 f13 f14 co2
      go_wp2_with fail
      have h12 := HS12.out
      have hlF := SF_.out.len.1
      have SS0 := Lib.hid (show Bx WF w.heap.size 30 cs12 ∧ Bx WF w7.heap.size 47 ml from ⟨STF.out, MXF.out⟩)
      have HIF := Lib.hid (show (Try.prog.info? 30).map (·.size) = some cs12.length by rw [infoState, hlF])
      have THF := Lib.hid (show WF.drew.there (w.heap.size + 1) 0 cs12.length by rw [hlF]; exact RSF.out.drew.there)
      have HOF := Lib.hid SF_.out.rd.one
      have BE := Lib.hid (RSF.out.drew.setAll cs12 hlF)
      have SE := Lib.hid ((SF_.out.old (Below.refl _ _).drew).asides (w.heap.size + 1) 0 cs12 NF.out)
      have BF := Lib.hid (below_sets cs12 0 WF.drew BELF.out.drew (w.heap.size + 1) (Nat.le_succ _))
      have SS1 := Lib.hid (show Bx (WF.drew.setCells (w.heap.size + 1) 0 cs12) w.heap.size 30 cs12 ∧ Bx (WF.drew.setCells (w.heap.size + 1) 0 cs12) w7.heap.size 47 ml from ⟨STF.out.drew.same (heap_sets _ _ _ _ _ (by omega)), MXF.out.drew.same (heap_sets _ _ _ _ _ (by omega))⟩)
      have HC0 := Lib.hid (show ml[0]? = some (.int .i64 (dint ds 13)) by rw [HML.out]; rfl)
      clear h12 hlF
      refine wp_region_noPanic ?_
      refine wp_region_held_drew (S := fun wS => Bx wS w.heap.size 30 cs12 ∧ Bx wS w7.heap.size 47 ml) (by kernel_rfl) (SS0.out) (fun hHeld => ?_)
      refine wpAnyH_take (i := 0) (oi := ?oiT16a0x) (v := .agg cs12.toArray) ?hiT16a0x (by kernel_rfl) (by kernel_rfl) (by kernel_rfl) ?hqT16a0x ?hyT16a0x (by assumption) ?restT16a0x
      case hiT16a0x => (simp only [List.getElem?_toArray, List.getElem?_cons_zero] <;> rfl)
      case hqT16a0x => exact fun _ _ _ h => h
      case hyT16a0x => exact (yieldsIf_load_mid (by rfl) 30 (.tmp 5) rfl w.heap.size 0 (by simp [Act.eval]) cs12 _ (fun _ h => Bx.range h.1) Try.underlying30 rfl HIF.out)
      try simp only [Act.put, List.setIfInBounds_toArray, List.set_cons_zero, List.set_cons_succ]
      refine wpAnyH_take (i := 1) (oi := ?oiT16a1x) (v := ?vT16a1x) ?hiT16a1x (by kernel_rfl) (by kernel_rfl) (by kernel_rfl) ?hqT16a1x ?hyT16a1x (by assumption) ?restT16a1x
      case hiT16a1x => (simp only [List.getElem?_toArray, List.getElem?_cons_succ, List.getElem?_cons_zero] <;> rfl)
      case hqT16a1x => exact fun _ _ _ h => h
      case hyT16a1x => exact Or.inl ⟨by rfl, by (intro wS hSw; have s5 := Bx.cell hSw.2 0 _ HC0.out; go_simp; try with_reducible rfl)⟩
      try simp only [Act.put, List.setIfInBounds_toArray, List.set_cons_zero, List.set_cons_succ]
      refine wpAnyH_take (i := 2) (oi := ?oiT16a2x) (v := ?vT16a2x) ?hiT16a2x (by kernel_rfl) (by kernel_rfl) (by kernel_rfl) ?hqT16a2x ?hyT16a2x (by assumption) ?restT16a2x
      case hiT16a2x => (simp only [List.getElem?_toArray, List.getElem?_cons_succ, List.getElem?_cons_zero] <;> rfl)
      case hqT16a2x => exact fun _ _ _ h => h
      case hyT16a2x => exact Or.inl ⟨by rfl, by (intro wS hSw; have s5 := Bx.cell hSw.2 0 _ HC0.out; go_simp; try with_reducible rfl)⟩
      try simp only [Act.put, List.setIfInBounds_toArray, List.set_cons_zero, List.set_cons_succ]
      refine wpAnyH_ready (rs := [3]) (by kernel_rfl) (by simp) ?_
      refine AllReadyH.cons (o := ?oiT16a3x) ?hiT16a3x (fun K hK => ?hsT16a3x) AllReadyH.nil
      case hiT16a3x => (simp only [List.getElem?_toArray, List.getElem?_cons_succ, List.getElem?_cons_zero] <;> rfl)
      refine step_store_mid rfl 30 (.tmp 10) (.tmp 98) rfl (w.heap.size + 1) 0 cs12 (by simp [Act.eval]) (by simp [Act.eval]) THF.out HIF.out HOF.out ?_
      refine hK.out _ _ SS1.out (fun hHeld3 => ?_)
      clear hK K
      try simp only [Act.put]
      refine wpAnyH_take (i := 4) (oi := ?oiT16a4x) (v := ?vT16a4x) ?hiT16a4x (by kernel_rfl) (by kernel_rfl) (by kernel_rfl) ?hqT16a4x ?hyT16a4x (by assumption) ?restT16a4x
      case hiT16a4x => (simp only [List.getElem?_toArray, List.getElem?_cons_succ, List.getElem?_cons_zero] <;> rfl)
      case hqT16a4x => exact fun _ _ _ h => h
      case hyT16a4x => exact Or.inl ⟨by rfl, by (intro wS hSw; have s5 := Bx.cell hSw.2 0 _ HC0.out; go_simp; try with_reducible rfl)⟩
      try simp only [Act.put, List.setIfInBounds_toArray, List.set_cons_zero, List.set_cons_succ]
      refine wpAnyH_done (by kernel_rfl) ?_ _
      refine NoPanic.normal ?_
      go_wp2_with fail
      refine bodyPost_ret (results_cs2 Try.results15 (w.heap.size + 1) ?_ (.int .i64 (dint ds 13)) ?_ cs12 _ (Bx.range BE.out) Try.underlying30 rfl HIF.out) rfl ?_
      ·rfl
      ·rfl
      ·exact ⟨cs12, _, rfl, SE.out.rd, BF.out, FR9.out⟩
     ·cases h2 : z == 2
      ·have hzb : (z == 2 && !bottom) = false := by rw [h2]; rfl
       rw [hp] at HLS
       obtain ⟨lx, hlx⟩ : ∃ lx, lx = listT (mvN ds id z control) z (mvO ds id) := ⟨_, rfl⟩
       have AL := Lib.hid A
       obtain ⟨r, ow⟩ := A.own
       rw [← hlx] at ow
       obtain ⟨es, row, hes⟩ := ow.row
       have hby := ow.bytes
       have HBY := Lib.hid hby
       have hel := hes.len
       obtain ⟨pu, nu, ku, rfl⟩ := own_sl row
       obtain ⟨hnu, _⟩ := own_cap row
       subst hnu
       obtain ⟨Wd, hWd⟩ : ∃ W, W = W12.drew := ⟨_, rfl⟩
       obtain ⟨WA, hWA⟩ : ∃ W, W = Wd.alloc (.cells #[.int .i64 (dint ds 13)] 3) := ⟨_, rfl⟩
       have bd : Below W12.heap.size W12 Wd := by rw [hWd]; exact (Below.refl _ _).drew
       have ba : Below W12.heap.size W12 WA := by rw [hWA]; exact bd.alloc bd.size _
       have hzd : Wd.heap.size = W12.heap.size := by rw [hWd]; rfl
       have hza : WA.heap.size = W12.heap.size + 1 := by rw [hWA]; simp [hzd]
       have cad := (AL.out.there Wd (below_grown bd)).1
       have caa := (AL.out.there WA (below_grown ba)).1
       have MXD := Lib.hid (MX12.out.old bd)
       have MXA := Lib.hid (MX12.out.old ba)
       have bn : Bx WA Wd.heap.size 3 [.int .i64 (dint ds 13)] := by rw [hWA]; exact Bx.new Wd _ _
       obtain ⟨y, hy, hesy⟩ := snoc_es hes (dint ds 13)
       have rowA := own_block row ba
       have HLV := Lib.hid (show mvL ds id z control bottom = setT (mvN ds id z control) z (mvO ds id) (lx ++ [[dI (dint ds 13)]]) by unfold mvL; rw [hzb, ← hlx]; rfl)
       have HES := Lib.hid hesy
       have HY := Lib.hid hy
       have HEL := Lib.hid hel
       have ROWA := Lib.hid rowA
       have hBS : W2.heap.size ≤ WA.heap.size := by have := HS12.out; omega
       have BA := Lib.hid ba
       have HZA := Lib.hid hza
       have HZD := Lib.hid hzd
       have HC0 := Lib.hid (show ml[0]? = some (.int .i64 (dint ds 13)) by rw [HML.out]; rfl)
       have HBS := Lib.hid hBS
       have HWD := Lib.hid hWd
       have HWA := Lib.hid hWA
       obtain ⟨zi, hEi⟩ := elemint
       have HEI := Lib.hid hEi
       have HBG := Lib.hid (show (es.length + 1) * 8 ≤ 140737488355328 by omega)
       have HMX := Lib.hid (show es.length + 1 ≤ maxLen by simp only [maxLen]; omega)
       have HCN := Lib.hid (show ∀ (j : Nat) (u : Value), ([.int .i64 (dint ds 13)] : List Value)[j]? = some u → WA.cell? (Addr.add ⟨Wd.heap.size, 0, none⟩ j) = some u from fun j u hj => by rw [Addr.add_lit, Nat.zero_add]; exact bn.cell j u hj)
       clear hEi
       clear hWd hWA hp A ow row hes hby hel bd ba hzd hza bn hy hesy rowA hBS hlx
       go_wp2_with ((with_reducible refine wpList_store_cs rfl 30 (.tmp 5) (.tmp 59) rfl w.heap.size 0 cs9 ?_ ?_ TH9.out HI9.out HO9.out ?_); rfl; rfl)
       rw [← HW12.out]
       refine HLS.out.mono ?_
       rintro e w13 ⟨rfl, rfl⟩
       clear c13 c14 f13 f14 co2
       go_wp2_with fail
       refine wp_region_noPanic ?_
       refine wp_region_held_drew (S := fun wS => Bx wS w7.heap.size 47 ml) (by kernel_rfl) (by rw [← HWD.out]; exact MXD.out) (fun hHeld => ?_)
       rw [← HWD.out]
       refine wpAnyH_take (i := 0) (oi := ?oiT1a0x) (v := ?vT1a0x) ?hiT1a0x (by kernel_rfl) (by kernel_rfl) (by kernel_rfl) ?hqT1a0x ?hyT1a0x (by assumption) ?restT1a0x
       case hiT1a0x => (simp only [List.getElem?_toArray, List.getElem?_cons_zero] <;> rfl)
       case hqT1a0x => exact fun _ _ _ h => h
       case hyT1a0x => exact Or.inl ⟨by rfl, by (intro wS hSw; have s5 := Bx.cell hSw 0 _ HC0.out; go_simp; try with_reducible rfl)⟩
       try simp only [Act.put, List.setIfInBounds_toArray, List.set_cons_zero, List.set_cons_succ]
       refine wpAnyH_take (i := 1) (oi := ?oiT1a1x) (v := ?vT1a1x) ?hiT1a1x (by kernel_rfl) (by kernel_rfl) (by kernel_rfl) ?hqT1a1x ?hyT1a1x (by assumption) ?restT1a1x
       case hiT1a1x => (simp only [List.getElem?_toArray, List.getElem?_cons_succ, List.getElem?_cons_zero] <;> rfl)
       case hqT1a1x => exact fun _ _ _ h => h
       case hyT1a1x => exact Or.inl ⟨by rfl, by (intro wS hSw; have s5 := Bx.cell hSw 0 _ HC0.out; go_simp; try with_reducible rfl)⟩
       try simp only [Act.put, List.setIfInBounds_toArray, List.set_cons_zero, List.set_cons_succ]
       refine wpAnyH_take (i := 2) (oi := ?oiT1a2x) (v := ?vT1a2x) ?hiT1a2x (by kernel_rfl) (by kernel_rfl) (by kernel_rfl) ?hqT1a2x ?hyT1a2x (by assumption) ?restT1a2x
       case hiT1a2x => (simp only [List.getElem?_toArray, List.getElem?_cons_succ, List.getElem?_cons_zero] <;> rfl)
       case hqT1a2x => exact fun _ _ _ h => h
       case hyT1a2x => exact Or.inl ⟨by rfl, by (intro wS hSw; have s5 := Bx.cell hSw 0 _ HC0.out; go_simp; try with_reducible rfl)⟩
       try simp only [Act.put, List.setIfInBounds_toArray, List.set_cons_zero, List.set_cons_succ]
       refine wpAnyH_take (i := 4) (oi := ?oiT1a4x) (v := ?vT1a4x) ?hiT1a4x (by kernel_rfl) (by kernel_rfl) (by kernel_rfl) ?hqT1a4x ?hyT1a4x (by assumption) ?restT1a4x
       case hiT1a4x => (simp only [List.getElem?_toArray, List.getElem?_cons_succ, List.getElem?_cons_zero] <;> rfl)
       case hqT1a4x => exact fun _ _ _ h => h
       case hyT1a4x => exact Or.inl ⟨by rfl, by (intro wS hSw; have s5 := Bx.cell hSw 0 _ HC0.out; go_simp; try with_reducible rfl)⟩
       try simp only [Act.put, List.setIfInBounds_toArray, List.set_cons_zero, List.set_cons_succ]
       refine wpAnyH_take (i := 5) (oi := ?oiT1a5x) (v := ?vT1a5x) ?hiT1a5x (by kernel_rfl) (by kernel_rfl) (by kernel_rfl) ?hqT1a5x ?hyT1a5x (by assumption) ?restT1a5x
       case hiT1a5x => (simp only [List.getElem?_toArray, List.getElem?_cons_succ, List.getElem?_cons_zero] <;> rfl)
       case hqT1a5x => exact fun _ _ _ h => h
       case hyT1a5x => exact Or.inl ⟨by rfl, by (intro wS hSw; have s5 := Bx.cell hSw 0 _ HC0.out; go_simp; try with_reducible rfl)⟩
       try simp only [Act.put, List.setIfInBounds_toArray, List.set_cons_zero, List.set_cons_succ]
       refine wpAnyH_ready (rs := [3, 6]) (by kernel_rfl) (by simp) ?_
       refine AllReadyH.cons (o := ?oaT1a) ?haT1a (fun K hK => ?saT1a) (AllReadyH.cons (o := ?obT1a) ?hbT1a (fun K hK => ?sbT1a) AllReadyH.nil)
       case haT1a => (simp only [List.getElem?_toArray, List.getElem?_cons_succ, List.getElem?_cons_zero] <;> rfl)
       case hbT1a => (simp only [List.getElem?_toArray, List.getElem?_cons_succ, List.getElem?_cons_zero] <;> rfl)
       case saT1a =>
        go_simp
        refine hK.out _ _ MXD.out (fun hHeld3 => ?_)
        clear hK K
        try simp only [Act.put, List.setIfInBounds_toArray, List.set_cons_zero, List.set_cons_succ]
        refine wpAnyH_ready (rs := [6]) (by kernel_rfl) (by simp) ?_
        refine AllReadyH.cons (o := ?oiT2a6x) ?hiT2a6x (fun K hK => ?hsT2a6x) AllReadyH.nil
        case hiT2a6x => (simp only [List.getElem?_toArray, List.getElem?_cons_succ, List.getElem?_cons_zero] <;> rfl)
        go_simp
        rw [← HWA.out]
        refine hK.out _ _ MXA.out (fun hHeld6 => ?_)
        clear hK K
        try simp only [Act.put, List.setIfInBounds_toArray, List.set_cons_zero, List.set_cons_succ]
        refine wpAnyH_ready (rs := [7]) (by kernel_rfl) (by simp) ?_
        refine AllReadyH.cons (o := ?oiT2a7x) ?hiT2a7x (fun K hK => ?hsT2a7x) AllReadyH.nil
        case hiT2a7x => (simp only [List.getElem?_toArray, List.getElem?_cons_succ, List.getElem?_cons_zero] <;> rfl)
        refine step_append_own2 rfl (.tmp 92) (.tmp 95) 24 rfl W2.heap.size HEI.out (.slice pu es.length ku) es.length (es.flatMap Subtype.val) rfl ROWA.out ⟨Wd.heap.size, 0, none⟩ 1 1 [.int .i64 (dint ds 13)] rfl rfl HCN.out (fun u hu => by rw [List.mem_singleton.1 hu]; rfl) HMX.out HBG.out HBS.out (by decide) ?_
        intro v9 w14 own9 gr9 fr9
        obtain ⟨p9, n9, k9, rfl⟩ := own_sl own9
        obtain ⟨ca9, fa9⟩ := AL.out.there w14 (below_grownBy BA.out gr9)
        have O9 := Lib.hid own9
        have G9 := Lib.hid gr9
        have F9 := Lib.hid fr9
        have S9 := Lib.hid (MXA.out.same (gr9.block _ (by have := HS12.out; have := HZA.out; omega) (fun e => AL.out.nb _ N12.out.2.2 e.symm)))
        clear own9 gr9 fr9
        refine hK.out _ _ S9.out (fun hHeld7 => ?_)
        clear hK K
        try simp only [Act.put, List.setIfInBounds_toArray, List.set_cons_zero, List.set_cons_succ]
        refine wpAnyH_take (i := 8) (oi := ?oiT2a8x) (v := ?vT2a8x) ?hiT2a8x (by kernel_rfl) (by kernel_rfl) (by kernel_rfl) ?hqT2a8x ?hyT2a8x (by assumption) ?restT2a8x
        case hiT2a8x => (simp only [List.getElem?_toArray, List.getElem?_cons_succ, List.getElem?_cons_zero] <;> rfl)
        case hqT2a8x => exact fun _ _ _ h => h
        case hyT2a8x => exact Or.inl ⟨by rfl, by (intro wS hSw; have s5 := Bx.cell hSw 0 _ HC0.out; go_simp; try with_reducible rfl)⟩
        try simp only [Act.put, List.setIfInBounds_toArray, List.set_cons_zero, List.set_cons_succ]
        refine wpAnyH_ready (rs := [9]) (by kernel_rfl) (by simp) ?_
        refine AllReadyH.cons (o := ?oiT2a9x) ?hiT2a9x (fun K hK => ?hsT2a9x) AllReadyH.nil
        case hiT2a9x => (simp only [List.getElem?_toArray, List.getElem?_cons_succ, List.getElem?_cons_zero] <;> rfl)
        go_simp
        have h12 := HS12.out
        obtain ⟨ρF, csF, sF, xF, hro, hno, hu⟩ := AL.out.put w14 (L + 128 + 8) (.slice p9 n9 k9) (lx ++ [[dI (dint ds 13)]]) (by omega) (below_grownBy BA.out G9.out) ⟨es ++ [y], (by rw [List.length_append, List.flatMap_append, show [y].flatMap Subtype.val = [.int .i64 (dint ds 13)] by rw [List.flatMap_cons, HY.out]; rfl]; exact O9.out), HES.out.frame (by omega) (Nat.le_refl _) (fun _ _ _ => rfl) (fun _ h _ => h)⟩ (by simp only [List.length_append, List.length_singleton]; have := HBY.out; omega) (fun g hg => by
         rcases F9.out with e | e
         ·exact .inl (by rw [← hg, e])
         ·rw [e] at hg
          cases hg
          exact .inr (by have := HZA.out; omega))
        obtain ⟨WF, hWF⟩ : ∃ W, W = w14.setCell ⟨ab, oo, none⟩ (.slice p9 n9 k9) := ⟨_, rfl⟩
        rw [← hWF] at sF xF hno hu
        have SF_ := Lib.hid (show OwnS ρF (L + 128 + 8) W2.heap.size WF csF (mvL ds id z control bottom) by rw [HLV.out]; exact sF)
        have STF := Lib.hid xF
        have RSF := Lib.hid (RS12.out.same (hno _ (by omega) (by omega) N12.out.2.1))
        have MXF := Lib.hid (MX12.out.same (hno _ (by omega) (by omega) N12.out.2.2))
        have BELF := Lib.hid ((hu w.heap.size (by omega) (Nat.le_refl _)).below BEL12.out h12.2.2.2 (Nat.le_refl _))
        have NF := Lib.hid ((hro _ (by omega)).trans N12.out.2.1)
        have FRF := Lib.hid (show ∀ b, b < w.heap.size → ρF b ≠ .none → F b from fun b hb hn => FR9.out b hb fun e => hn ((hro b (by omega)).trans e))
        have HWF := Lib.hid hWF
        have SX := Lib.hid (show Bx (w14.setCell ⟨ab, oo, none⟩ (.slice p9 n9 k9)) w7.heap.size 47 ml from by rw [← hWF]; exact MXF.out)
        clear h12 sF xF hro hno hu hWF ca9 fa9
        refine hK.out _ _ SX.out (fun hHeld9 => ?_)
        clear hK K
        try simp only [Act.put, List.setIfInBounds_toArray, List.set_cons_zero, List.set_cons_succ]
        refine wpAnyH_done (by kernel_rfl) ?_ _
        refine NoPanic.normal ?_
        rw [← HWF.out]
        go_wp2_with fail
        have h12 := HS12.out
        have hlF := SF_.out.len.1
        have SS0 := Lib.hid (show Bx WF w.heap.size 30 csF ∧ Bx WF w7.heap.size 47 ml from ⟨STF.out, MXF.out⟩)
        have HIF := Lib.hid (show (Try.prog.info? 30).map (·.size) = some csF.length by rw [infoState, hlF])
        have THF := Lib.hid (show WF.drew.there (w.heap.size + 1) 0 csF.length by rw [hlF]; exact RSF.out.drew.there)
        have HOF := Lib.hid SF_.out.rd.one
        have BE := Lib.hid (RSF.out.drew.setAll csF hlF)
        have SE := Lib.hid ((SF_.out.old (Below.refl _ _).drew).asides (w.heap.size + 1) 0 csF NF.out)
        have BF := Lib.hid (below_sets csF 0 WF.drew BELF.out.drew (w.heap.size + 1) (Nat.le_succ _))
        have SS1 := Lib.hid (show Bx (WF.drew.setCells (w.heap.size + 1) 0 csF) w.heap.size 30 csF ∧ Bx (WF.drew.setCells (w.heap.size + 1) 0 csF) w7.heap.size 47 ml from ⟨STF.out.drew.same (heap_sets _ _ _ _ _ (by omega)), MXF.out.drew.same (heap_sets _ _ _ _ _ (by omega))⟩)
        have HC0 := Lib.hid (show ml[0]? = some (.int .i64 (dint ds 13)) by rw [HML.out]; rfl)
        clear h12 hlF
        refine wp_region_noPanic ?_
        refine wp_region_held_drew (S := fun wS => Bx wS w.heap.size 30 csF ∧ Bx wS w7.heap.size 47 ml) (by kernel_rfl) (SS0.out) (fun hHeld => ?_)
        refine wpAnyH_take (i := 0) (oi := ?oiT4a0x) (v := .agg csF.toArray) ?hiT4a0x (by kernel_rfl) (by kernel_rfl) (by kernel_rfl) ?hqT4a0x ?hyT4a0x (by assumption) ?restT4a0x
        case hiT4a0x => (simp only [List.getElem?_toArray, List.getElem?_cons_zero] <;> rfl)
        case hqT4a0x => exact fun _ _ _ h => h
        case hyT4a0x => exact (yieldsIf_load_mid (by rfl) 30 (.tmp 5) rfl w.heap.size 0 (by simp [Act.eval]) csF _ (fun _ h => Bx.range h.1) Try.underlying30 rfl HIF.out)
        try simp only [Act.put, List.setIfInBounds_toArray, List.set_cons_zero, List.set_cons_succ]
        refine wpAnyH_take (i := 1) (oi := ?oiT4a1x) (v := ?vT4a1x) ?hiT4a1x (by kernel_rfl) (by kernel_rfl) (by kernel_rfl) ?hqT4a1x ?hyT4a1x (by assumption) ?restT4a1x
        case hiT4a1x => (simp only [List.getElem?_toArray, List.getElem?_cons_succ, List.getElem?_cons_zero] <;> rfl)
        case hqT4a1x => exact fun _ _ _ h => h
        case hyT4a1x => exact Or.inl ⟨by rfl, by (intro wS hSw; have s5 := Bx.cell hSw.2 0 _ HC0.out; go_simp; try with_reducible rfl)⟩
        try simp only [Act.put, List.setIfInBounds_toArray, List.set_cons_zero, List.set_cons_succ]
        refine wpAnyH_take (i := 2) (oi := ?oiT4a2x) (v := ?vT4a2x) ?hiT4a2x (by kernel_rfl) (by kernel_rfl) (by kernel_rfl) ?hqT4a2x ?hyT4a2x (by assumption) ?restT4a2x
        case hiT4a2x => (simp only [List.getElem?_toArray, List.getElem?_cons_succ, List.getElem?_cons_zero] <;> rfl)
        case hqT4a2x => exact fun _ _ _ h => h
        case hyT4a2x => exact Or.inl ⟨by rfl, by (intro wS hSw; have s5 := Bx.cell hSw.2 0 _ HC0.out; go_simp; try with_reducible rfl)⟩
        try simp only [Act.put, List.setIfInBounds_toArray, List.set_cons_zero, List.set_cons_succ]
        refine wpAnyH_ready (rs := [3]) (by kernel_rfl) (by simp) ?_
        refine AllReadyH.cons (o := ?oiT4a3x) ?hiT4a3x (fun K hK => ?hsT4a3x) AllReadyH.nil
        case hiT4a3x => (simp only [List.getElem?_toArray, List.getElem?_cons_succ, List.getElem?_cons_zero] <;> rfl)
        refine step_store_mid rfl 30 (.tmp 10) (.tmp 98) rfl (w.heap.size + 1) 0 csF (by simp [Act.eval]) (by simp [Act.eval]) THF.out HIF.out HOF.out ?_
        refine hK.out _ _ SS1.out (fun hHeld3 => ?_)
        clear hK K
        try simp only [Act.put]
        refine wpAnyH_take (i := 4) (oi := ?oiT4a4x) (v := ?vT4a4x) ?hiT4a4x (by kernel_rfl) (by kernel_rfl) (by kernel_rfl) ?hqT4a4x ?hyT4a4x (by assumption) ?restT4a4x
        case hiT4a4x => (simp only [List.getElem?_toArray, List.getElem?_cons_succ, List.getElem?_cons_zero] <;> rfl)
        case hqT4a4x => exact fun _ _ _ h => h
        case hyT4a4x => exact Or.inl ⟨by rfl, by (intro wS hSw; have s5 := Bx.cell hSw.2 0 _ HC0.out; go_simp; try with_reducible rfl)⟩
        try simp only [Act.put, List.setIfInBounds_toArray, List.set_cons_zero, List.set_cons_succ]
        refine wpAnyH_done (by kernel_rfl) ?_ _
        refine NoPanic.normal ?_
        go_wp2_with fail
        refine bodyPost_ret (results_cs2 Try.results15 (w.heap.size + 1) ?_ (.int .i64 (dint ds 13)) ?_ csF _ (Bx.range BE.out) Try.underlying30 rfl HIF.out) rfl ?_
        ·rfl
        ·rfl
        ·exact ⟨csF, _, rfl, SE.out.rd, BF.out, FRF.out⟩
       case sbT1a =>
        go_simp
        rw [← HWA.out]
        refine hK.out _ _ MXA.out (fun hHeld6 => ?_)
        clear hK K
        try simp only [Act.put, List.setIfInBounds_toArray, List.set_cons_zero, List.set_cons_succ]
        refine wpAnyH_ready (rs := [3]) (by kernel_rfl) (by simp) ?_
        refine AllReadyH.cons (o := ?oiT3a3x) ?hiT3a3x (fun K hK => ?hsT3a3x) AllReadyH.nil
        case hiT3a3x => (simp only [List.getElem?_toArray, List.getElem?_cons_succ, List.getElem?_cons_zero] <;> rfl)
        go_simp
        refine hK.out _ _ MXA.out (fun hHeld3 => ?_)
        clear hK K
        try simp only [Act.put, List.setIfInBounds_toArray, List.set_cons_zero, List.set_cons_succ]
        refine wpAnyH_ready (rs := [7]) (by kernel_rfl) (by simp) ?_
        refine AllReadyH.cons (o := ?oiT3a7x) ?hiT3a7x (fun K hK => ?hsT3a7x) AllReadyH.nil
        case hiT3a7x => (simp only [List.getElem?_toArray, List.getElem?_cons_succ, List.getElem?_cons_zero] <;> rfl)
        refine step_append_own2 rfl (.tmp 92) (.tmp 95) 24 rfl W2.heap.size HEI.out (.slice pu es.length ku) es.length (es.flatMap Subtype.val) rfl ROWA.out ⟨Wd.heap.size, 0, none⟩ 1 1 [.int .i64 (dint ds 13)] rfl rfl HCN.out (fun u hu => by rw [List.mem_singleton.1 hu]; rfl) HMX.out HBG.out HBS.out (by decide) ?_
        intro v9 w14 own9 gr9 fr9
        obtain ⟨p9, n9, k9, rfl⟩ := own_sl own9
        obtain ⟨ca9, fa9⟩ := AL.out.there w14 (below_grownBy BA.out gr9)
        have O9 := Lib.hid own9
        have G9 := Lib.hid gr9
        have F9 := Lib.hid fr9
        have S9 := Lib.hid (MXA.out.same (gr9.block _ (by have := HS12.out; have := HZA.out; omega) (fun e => AL.out.nb _ N12.out.2.2 e.symm)))
        clear own9 gr9 fr9
        refine hK.out _ _ S9.out (fun hHeld7 => ?_)
        clear hK K
        try simp only [Act.put, List.setIfInBounds_toArray, List.set_cons_zero, List.set_cons_succ]
        refine wpAnyH_take (i := 8) (oi := ?oiT3a8x) (v := ?vT3a8x) ?hiT3a8x (by kernel_rfl) (by kernel_rfl) (by kernel_rfl) ?hqT3a8x ?hyT3a8x (by assumption) ?restT3a8x
        case hiT3a8x => (simp only [List.getElem?_toArray, List.getElem?_cons_succ, List.getElem?_cons_zero] <;> rfl)
        case hqT3a8x => exact fun _ _ _ h => h
        case hyT3a8x => exact Or.inl ⟨by rfl, by (intro wS hSw; have s5 := Bx.cell hSw 0 _ HC0.out; go_simp; try with_reducible rfl)⟩
        try simp only [Act.put, List.setIfInBounds_toArray, List.set_cons_zero, List.set_cons_succ]
        refine wpAnyH_ready (rs := [9]) (by kernel_rfl) (by simp) ?_
        refine AllReadyH.cons (o := ?oiT3a9x) ?hiT3a9x (fun K hK => ?hsT3a9x) AllReadyH.nil
        case hiT3a9x => (simp only [List.getElem?_toArray, List.getElem?_cons_succ, List.getElem?_cons_zero] <;> rfl)
        go_simp
        have h12 := HS12.out
        obtain ⟨ρF, csF, sF, xF, hro, hno, hu⟩ := AL.out.put w14 (L + 128 + 8) (.slice p9 n9 k9) (lx ++ [[dI (dint ds 13)]]) (by omega) (below_grownBy BA.out G9.out) ⟨es ++ [y], (by rw [List.length_append, List.flatMap_append, show [y].flatMap Subtype.val = [.int .i64 (dint ds 13)] by rw [List.flatMap_cons, HY.out]; rfl]; exact O9.out), HES.out.frame (by omega) (Nat.le_refl _) (fun _ _ _ => rfl) (fun _ h _ => h)⟩ (by simp only [List.length_append, List.length_singleton]; have := HBY.out; omega) (fun g hg => by
         rcases F9.out with e | e
         ·exact .inl (by rw [← hg, e])
         ·rw [e] at hg
          cases hg
          exact .inr (by have := HZA.out; omega))
        obtain ⟨WF, hWF⟩ : ∃ W, W = w14.setCell ⟨ab, oo, none⟩ (.slice p9 n9 k9) := ⟨_, rfl⟩
        rw [← hWF] at sF xF hno hu
        have SF_ := Lib.hid (show OwnS ρF (L + 128 + 8) W2.heap.size WF csF (mvL ds id z control bottom) by rw [HLV.out]; exact sF)
        have STF := Lib.hid xF
        have RSF := Lib.hid (RS12.out.same (hno _ (by omega) (by omega) N12.out.2.1))
        have MXF := Lib.hid (MX12.out.same (hno _ (by omega) (by omega) N12.out.2.2))
        have BELF := Lib.hid ((hu w.heap.size (by omega) (Nat.le_refl _)).below BEL12.out h12.2.2.2 (Nat.le_refl _))
        have NF := Lib.hid ((hro _ (by omega)).trans N12.out.2.1)
        have FRF := Lib.hid (show ∀ b, b < w.heap.size → ρF b ≠ .none → F b from fun b hb hn => FR9.out b hb fun e => hn ((hro b (by omega)).trans e))
        have HWF := Lib.hid hWF
        have SX := Lib.hid (show Bx (w14.setCell ⟨ab, oo, none⟩ (.slice p9 n9 k9)) w7.heap.size 47 ml from by rw [← hWF]; exact MXF.out)
        clear h12 sF xF hro hno hu hWF ca9 fa9
        refine hK.out _ _ SX.out (fun hHeld9 => ?_)
        clear hK K
        try simp only [Act.put, List.setIfInBounds_toArray, List.set_cons_zero, List.set_cons_succ]
        refine wpAnyH_done (by kernel_rfl) ?_ _
        refine NoPanic.normal ?_
        rw [← HWF.out]
        go_wp2_with fail
        have h12 := HS12.out
        have hlF := SF_.out.len.1
        have SS0 := Lib.hid (show Bx WF w.heap.size 30 csF ∧ Bx WF w7.heap.size 47 ml from ⟨STF.out, MXF.out⟩)
        have HIF := Lib.hid (show (Try.prog.info? 30).map (·.size) = some csF.length by rw [infoState, hlF])
        have THF := Lib.hid (show WF.drew.there (w.heap.size + 1) 0 csF.length by rw [hlF]; exact RSF.out.drew.there)
        have HOF := Lib.hid SF_.out.rd.one
        have BE := Lib.hid (RSF.out.drew.setAll csF hlF)
        have SE := Lib.hid ((SF_.out.old (Below.refl _ _).drew).asides (w.heap.size + 1) 0 csF NF.out)
        have BF := Lib.hid (below_sets csF 0 WF.drew BELF.out.drew (w.heap.size + 1) (Nat.le_succ _))
        have SS1 := Lib.hid (show Bx (WF.drew.setCells (w.heap.size + 1) 0 csF) w.heap.size 30 csF ∧ Bx (WF.drew.setCells (w.heap.size + 1) 0 csF) w7.heap.size 47 ml from ⟨STF.out.drew.same (heap_sets _ _ _ _ _ (by omega)), MXF.out.drew.same (heap_sets _ _ _ _ _ (by omega))⟩)
        have HC0 := Lib.hid (show ml[0]? = some (.int .i64 (dint ds 13)) by rw [HML.out]; rfl)
        clear h12 hlF
        refine wp_region_noPanic ?_
        refine wp_region_held_drew (S := fun wS => Bx wS w.heap.size 30 csF ∧ Bx wS w7.heap.size 47 ml) (by kernel_rfl) (SS0.out) (fun hHeld => ?_)
        refine wpAnyH_take (i := 0) (oi := ?oiT5a0x) (v := .agg csF.toArray) ?hiT5a0x (by kernel_rfl) (by kernel_rfl) (by kernel_rfl) ?hqT5a0x ?hyT5a0x (by assumption) ?restT5a0x
        case hiT5a0x => (simp only [List.getElem?_toArray, List.getElem?_cons_zero] <;> rfl)
        case hqT5a0x => exact fun _ _ _ h => h
        case hyT5a0x => exact (yieldsIf_load_mid (by rfl) 30 (.tmp 5) rfl w.heap.size 0 (by simp [Act.eval]) csF _ (fun _ h => Bx.range h.1) Try.underlying30 rfl HIF.out)
        try simp only [Act.put, List.setIfInBounds_toArray, List.set_cons_zero, List.set_cons_succ]
        refine wpAnyH_take (i := 1) (oi := ?oiT5a1x) (v := ?vT5a1x) ?hiT5a1x (by kernel_rfl) (by kernel_rfl) (by kernel_rfl) ?hqT5a1x ?hyT5a1x (by assumption) ?restT5a1x
        case hiT5a1x => (simp only [List.getElem?_toArray, List.getElem?_cons_succ, List.getElem?_cons_zero] <;> rfl)
        case hqT5a1x => exact fun _ _ _ h => h
        case hyT5a1x => exact Or.inl ⟨by rfl, by (intro wS hSw; have s5 := Bx.cell hSw.2 0 _ HC0.out; go_simp; try with_reducible rfl)⟩
        try simp only [Act.put, List.setIfInBounds_toArray, List.set_cons_zero, List.set_cons_succ]
        refine wpAnyH_take (i := 2) (oi := ?oiT5a2x) (v := ?vT5a2x) ?hiT5a2x (by kernel_rfl) (by kernel_rfl) (by kernel_rfl) ?hqT5a2x ?hyT5a2x (by assumption) ?restT5a2x
        case hiT5a2x => (simp only [List.getElem?_toArray, List.getElem?_cons_succ, List.getElem?_cons_zero] <;> rfl)
        case hqT5a2x => exact fun _ _ _ h => h
        case hyT5a2x => exact Or.inl ⟨by rfl, by (intro wS hSw; have s5 := Bx.cell hSw.2 0 _ HC0.out; go_simp; try with_reducible rfl)⟩
        try simp only [Act.put, List.setIfInBounds_toArray, List.set_cons_zero, List.set_cons_succ]
        refine wpAnyH_ready (rs := [3]) (by kernel_rfl) (by simp) ?_
        refine AllReadyH.cons (o := ?oiT5a3x) ?hiT5a3x (fun K hK => ?hsT5a3x) AllReadyH.nil
        case hiT5a3x => (simp only [List.getElem?_toArray, List.getElem?_cons_succ, List.getElem?_cons_zero] <;> rfl)
        refine step_store_mid rfl 30 (.tmp 10) (.tmp 98) rfl (w.heap.size + 1) 0 csF (by simp [Act.eval]) (by simp [Act.eval]) THF.out HIF.out HOF.out ?_
        refine hK.out _ _ SS1.out (fun hHeld3 => ?_)
        clear hK K
        try simp only [Act.put]
        refine wpAnyH_take (i := 4) (oi := ?oiT5a4x) (v := ?vT5a4x) ?hiT5a4x (by kernel_rfl) (by kernel_rfl) (by kernel_rfl) ?hqT5a4x ?hyT5a4x (by assumption) ?restT5a4x
        case hiT5a4x => (simp only [List.getElem?_toArray, List.getElem?_cons_succ, List.getElem?_cons_zero] <;> rfl)
        case hqT5a4x => exact fun _ _ _ h => h
        case hyT5a4x => exact Or.inl ⟨by rfl, by (intro wS hSw; have s5 := Bx.cell hSw.2 0 _ HC0.out; go_simp; try with_reducible rfl)⟩
        try simp only [Act.put, List.setIfInBounds_toArray, List.set_cons_zero, List.set_cons_succ]
        refine wpAnyH_done (by kernel_rfl) ?_ _
        refine NoPanic.normal ?_
        go_wp2_with fail
        refine bodyPost_ret (results_cs2 Try.results15 (w.heap.size + 1) ?_ (.int .i64 (dint ds 13)) ?_ csF _ (Bx.range BE.out) Try.underlying30 rfl HIF.out) rfl ?_
        ·rfl
        ·rfl
        ·exact ⟨csF, _, rfl, SE.out.rd, BF.out, FRF.out⟩
      ·rcases Bool.eq_false_or_eq_true bottom with hbt | hbt
       ·have hzb : (z == 2 && !bottom) = false := by rw [h2, hbt]; rfl
        rw [hp] at HLS
        obtain ⟨lx, hlx⟩ : ∃ lx, lx = listT (mvN ds id z control) z (mvO ds id) := ⟨_, rfl⟩
        have AL := Lib.hid A
        obtain ⟨r, ow⟩ := A.own
        rw [← hlx] at ow
        obtain ⟨es, row, hes⟩ := ow.row
        have hby := ow.bytes
        have HBY := Lib.hid hby
        have hel := hes.len
        obtain ⟨pu, nu, ku, rfl⟩ := own_sl row
        obtain ⟨hnu, _⟩ := own_cap row
        subst hnu
        obtain ⟨Wd, hWd⟩ : ∃ W, W = W12.drew := ⟨_, rfl⟩
        obtain ⟨WA, hWA⟩ : ∃ W, W = Wd.alloc (.cells #[.int .i64 (dint ds 13)] 3) := ⟨_, rfl⟩
        have bd : Below W12.heap.size W12 Wd := by rw [hWd]; exact (Below.refl _ _).drew
        have ba : Below W12.heap.size W12 WA := by rw [hWA]; exact bd.alloc bd.size _
        have hzd : Wd.heap.size = W12.heap.size := by rw [hWd]; rfl
        have hza : WA.heap.size = W12.heap.size + 1 := by rw [hWA]; simp [hzd]
        have cad := (AL.out.there Wd (below_grown bd)).1
        have caa := (AL.out.there WA (below_grown ba)).1
        have MXD := Lib.hid (MX12.out.old bd)
        have MXA := Lib.hid (MX12.out.old ba)
        have bn : Bx WA Wd.heap.size 3 [.int .i64 (dint ds 13)] := by rw [hWA]; exact Bx.new Wd _ _
        obtain ⟨y, hy, hesy⟩ := snoc_es hes (dint ds 13)
        have rowA := own_block row ba
        have HLV := Lib.hid (show mvL ds id z control bottom = setT (mvN ds id z control) z (mvO ds id) (lx ++ [[dI (dint ds 13)]]) by unfold mvL; rw [hzb, ← hlx]; rfl)
        have HES := Lib.hid hesy
        have HY := Lib.hid hy
        have HEL := Lib.hid hel
        have ROWA := Lib.hid rowA
        have hBS : W2.heap.size ≤ WA.heap.size := by have := HS12.out; omega
        have BA := Lib.hid ba
        have HZA := Lib.hid hza
        have HZD := Lib.hid hzd
        have HC0 := Lib.hid (show ml[0]? = some (.int .i64 (dint ds 13)) by rw [HML.out]; rfl)
        have HBS := Lib.hid hBS
        have HWD := Lib.hid hWd
        have HWA := Lib.hid hWA
        obtain ⟨zi, hEi⟩ := elemint
        have HEI := Lib.hid hEi
        have HBG := Lib.hid (show (es.length + 1) * 8 ≤ 140737488355328 by omega)
        have HMX := Lib.hid (show es.length + 1 ≤ maxLen by simp only [maxLen]; omega)
        have HCN := Lib.hid (show ∀ (j : Nat) (u : Value), ([.int .i64 (dint ds 13)] : List Value)[j]? = some u → WA.cell? (Addr.add ⟨Wd.heap.size, 0, none⟩ j) = some u from fun j u hj => by rw [Addr.add_lit, Nat.zero_add]; exact bn.cell j u hj)
        clear hEi
        clear hWd hWA hp A ow row hes hby hel bd ba hzd hza bn hy hesy rowA hBS hlx
        go_wp2_with ((with_reducible refine wpList_store_cs rfl 30 (.tmp 5) (.tmp 59) rfl w.heap.size 0 cs9 ?_ ?_ TH9.out HI9.out HO9.out ?_); rfl; rfl)
        rw [← HW12.out]
        refine HLS.out.mono ?_
        rintro e w13 ⟨rfl, rfl⟩
        clear c13 c14 f13 f14 co2
        go_wp2_with fail
        refine wp_region_noPanic ?_
        refine wp_region_held_drew (S := fun wS => Bx wS w7.heap.size 47 ml) (by kernel_rfl) (by rw [← HWD.out]; exact MXD.out) (fun hHeld => ?_)
        rw [← HWD.out]
        refine wpAnyH_take (i := 0) (oi := ?oiT6a0x) (v := ?vT6a0x) ?hiT6a0x (by kernel_rfl) (by kernel_rfl) (by kernel_rfl) ?hqT6a0x ?hyT6a0x (by assumption) ?restT6a0x
        case hiT6a0x => (simp only [List.getElem?_toArray, List.getElem?_cons_zero] <;> rfl)
        case hqT6a0x => exact fun _ _ _ h => h
        case hyT6a0x => exact Or.inl ⟨by rfl, by (intro wS hSw; have s5 := Bx.cell hSw 0 _ HC0.out; go_simp; try with_reducible rfl)⟩
        try simp only [Act.put, List.setIfInBounds_toArray, List.set_cons_zero, List.set_cons_succ]
        refine wpAnyH_take (i := 1) (oi := ?oiT6a1x) (v := ?vT6a1x) ?hiT6a1x (by kernel_rfl) (by kernel_rfl) (by kernel_rfl) ?hqT6a1x ?hyT6a1x (by assumption) ?restT6a1x
        case hiT6a1x => (simp only [List.getElem?_toArray, List.getElem?_cons_succ, List.getElem?_cons_zero] <;> rfl)
        case hqT6a1x => exact fun _ _ _ h => h
        case hyT6a1x => exact Or.inl ⟨by rfl, by (intro wS hSw; have s5 := Bx.cell hSw 0 _ HC0.out; go_simp; try with_reducible rfl)⟩
        try simp only [Act.put, List.setIfInBounds_toArray, List.set_cons_zero, List.set_cons_succ]
        refine wpAnyH_take (i := 2) (oi := ?oiT6a2x) (v := ?vT6a2x) ?hiT6a2x (by kernel_rfl) (by kernel_rfl) (by kernel_rfl) ?hqT6a2x ?hyT6a2x (by assumption) ?restT6a2x
        case hiT6a2x => (simp only [List.getElem?_toArray, List.getElem?_cons_succ, List.getElem?_cons_zero] <;> rfl)
        case hqT6a2x => exact fun _ _ _ h => h
        case hyT6a2x => exact Or.inl ⟨by rfl, by (intro wS hSw; have s5 := Bx.cell hSw 0 _ HC0.out; go_simp; try with_reducible rfl)⟩
        try simp only [Act.put, List.setIfInBounds_toArray, List.set_cons_zero, List.set_cons_succ]
        refine wpAnyH_take (i := 4) (oi := ?oiT6a4x) (v := ?vT6a4x) ?hiT6a4x (by kernel_rfl) (by kernel_rfl) (by kernel_rfl) ?hqT6a4x ?hyT6a4x (by assumption) ?restT6a4x
        case hiT6a4x => (simp only [List.getElem?_toArray, List.getElem?_cons_succ, List.getElem?_cons_zero] <;> rfl)
        case hqT6a4x => exact fun _ _ _ h => h
        case hyT6a4x => exact Or.inl ⟨by rfl, by (intro wS hSw; have s5 := Bx.cell hSw 0 _ HC0.out; go_simp; try with_reducible rfl)⟩
        try simp only [Act.put, List.setIfInBounds_toArray, List.set_cons_zero, List.set_cons_succ]
        refine wpAnyH_take (i := 5) (oi := ?oiT6a5x) (v := ?vT6a5x) ?hiT6a5x (by kernel_rfl) (by kernel_rfl) (by kernel_rfl) ?hqT6a5x ?hyT6a5x (by assumption) ?restT6a5x
        case hiT6a5x => (simp only [List.getElem?_toArray, List.getElem?_cons_succ, List.getElem?_cons_zero] <;> rfl)
        case hqT6a5x => exact fun _ _ _ h => h
        case hyT6a5x => exact Or.inl ⟨by rfl, by (intro wS hSw; have s5 := Bx.cell hSw 0 _ HC0.out; go_simp; try with_reducible rfl)⟩
        try simp only [Act.put, List.setIfInBounds_toArray, List.set_cons_zero, List.set_cons_succ]
        refine wpAnyH_ready (rs := [3, 6]) (by kernel_rfl) (by simp) ?_
        refine AllReadyH.cons (o := ?oaT6a) ?haT6a (fun K hK => ?saT6a) (AllReadyH.cons (o := ?obT6a) ?hbT6a (fun K hK => ?sbT6a) AllReadyH.nil)
        case haT6a => (simp only [List.getElem?_toArray, List.getElem?_cons_succ, List.getElem?_cons_zero] <;> rfl)
        case hbT6a => (simp only [List.getElem?_toArray, List.getElem?_cons_succ, List.getElem?_cons_zero] <;> rfl)
        case saT6a =>
         go_simp
         refine hK.out _ _ MXD.out (fun hHeld3 => ?_)
         clear hK K
         try simp only [Act.put, List.setIfInBounds_toArray, List.set_cons_zero, List.set_cons_succ]
         refine wpAnyH_ready (rs := [6]) (by kernel_rfl) (by simp) ?_
         refine AllReadyH.cons (o := ?oiT7a6x) ?hiT7a6x (fun K hK => ?hsT7a6x) AllReadyH.nil
         case hiT7a6x => (simp only [List.getElem?_toArray, List.getElem?_cons_succ, List.getElem?_cons_zero] <;> rfl)
         go_simp
         rw [← HWA.out]
         refine hK.out _ _ MXA.out (fun hHeld6 => ?_)
         clear hK K
         try simp only [Act.put, List.setIfInBounds_toArray, List.set_cons_zero, List.set_cons_succ]
         refine wpAnyH_ready (rs := [7]) (by kernel_rfl) (by simp) ?_
         refine AllReadyH.cons (o := ?oiT7a7x) ?hiT7a7x (fun K hK => ?hsT7a7x) AllReadyH.nil
         case hiT7a7x => (simp only [List.getElem?_toArray, List.getElem?_cons_succ, List.getElem?_cons_zero] <;> rfl)
         refine step_append_own2 rfl (.tmp 92) (.tmp 95) 24 rfl W2.heap.size HEI.out (.slice pu es.length ku) es.length (es.flatMap Subtype.val) rfl ROWA.out ⟨Wd.heap.size, 0, none⟩ 1 1 [.int .i64 (dint ds 13)] rfl rfl HCN.out (fun u hu => by rw [List.mem_singleton.1 hu]; rfl) HMX.out HBG.out HBS.out (by decide) ?_
         intro v9 w14 own9 gr9 fr9
         obtain ⟨p9, n9, k9, rfl⟩ := own_sl own9
         obtain ⟨ca9, fa9⟩ := AL.out.there w14 (below_grownBy BA.out gr9)
         have O9 := Lib.hid own9
         have G9 := Lib.hid gr9
         have F9 := Lib.hid fr9
         have S9 := Lib.hid (MXA.out.same (gr9.block _ (by have := HS12.out; have := HZA.out; omega) (fun e => AL.out.nb _ N12.out.2.2 e.symm)))
         clear own9 gr9 fr9
         refine hK.out _ _ S9.out (fun hHeld7 => ?_)
         clear hK K
         try simp only [Act.put, List.setIfInBounds_toArray, List.set_cons_zero, List.set_cons_succ]
         refine wpAnyH_take (i := 8) (oi := ?oiT7a8x) (v := ?vT7a8x) ?hiT7a8x (by kernel_rfl) (by kernel_rfl) (by kernel_rfl) ?hqT7a8x ?hyT7a8x (by assumption) ?restT7a8x
         case hiT7a8x => (simp only [List.getElem?_toArray, List.getElem?_cons_succ, List.getElem?_cons_zero] <;> rfl)
         case hqT7a8x => exact fun _ _ _ h => h
         case hyT7a8x => exact Or.inl ⟨by rfl, by (intro wS hSw; have s5 := Bx.cell hSw 0 _ HC0.out; go_simp; try with_reducible rfl)⟩
         try simp only [Act.put, List.setIfInBounds_toArray, List.set_cons_zero, List.set_cons_succ]
         refine wpAnyH_ready (rs := [9]) (by kernel_rfl) (by simp) ?_
         refine AllReadyH.cons (o := ?oiT7a9x) ?hiT7a9x (fun K hK => ?hsT7a9x) AllReadyH.nil
         case hiT7a9x => (simp only [List.getElem?_toArray, List.getElem?_cons_succ, List.getElem?_cons_zero] <;> rfl)
         go_simp
         have h12 := HS12.out
         obtain ⟨ρF, csF, sF, xF, hro, hno, hu⟩ := AL.out.put w14 (L + 128 + 8) (.slice p9 n9 k9) (lx ++ [[dI (dint ds 13)]]) (by omega) (below_grownBy BA.out G9.out) ⟨es ++ [y], (by rw [List.length_append, List.flatMap_append, show [y].flatMap Subtype.val = [.int .i64 (dint ds 13)] by rw [List.flatMap_cons, HY.out]; rfl]; exact O9.out), HES.out.frame (by omega) (Nat.le_refl _) (fun _ _ _ => rfl) (fun _ h _ => h)⟩ (by simp only [List.length_append, List.length_singleton]; have := HBY.out; omega) (fun g hg => by
          rcases F9.out with e | e
          ·exact .inl (by rw [← hg, e])
          ·rw [e] at hg
           cases hg
           exact .inr (by have := HZA.out; omega))
         obtain ⟨WF, hWF⟩ : ∃ W, W = w14.setCell ⟨ab, oo, none⟩ (.slice p9 n9 k9) := ⟨_, rfl⟩
         rw [← hWF] at sF xF hno hu
         have SF_ := Lib.hid (show OwnS ρF (L + 128 + 8) W2.heap.size WF csF (mvL ds id z control bottom) by rw [HLV.out]; exact sF)
         have STF := Lib.hid xF
         have RSF := Lib.hid (RS12.out.same (hno _ (by omega) (by omega) N12.out.2.1))
         have MXF := Lib.hid (MX12.out.same (hno _ (by omega) (by omega) N12.out.2.2))
         have BELF := Lib.hid ((hu w.heap.size (by omega) (Nat.le_refl _)).below BEL12.out h12.2.2.2 (Nat.le_refl _))
         have NF := Lib.hid ((hro _ (by omega)).trans N12.out.2.1)
         have FRF := Lib.hid (show ∀ b, b < w.heap.size → ρF b ≠ .none → F b from fun b hb hn => FR9.out b hb fun e => hn ((hro b (by omega)).trans e))
         have HWF := Lib.hid hWF
         have SX := Lib.hid (show Bx (w14.setCell ⟨ab, oo, none⟩ (.slice p9 n9 k9)) w7.heap.size 47 ml from by rw [← hWF]; exact MXF.out)
         clear h12 sF xF hro hno hu hWF ca9 fa9
         refine hK.out _ _ SX.out (fun hHeld9 => ?_)
         clear hK K
         try simp only [Act.put, List.setIfInBounds_toArray, List.set_cons_zero, List.set_cons_succ]
         refine wpAnyH_done (by kernel_rfl) ?_ _
         refine NoPanic.normal ?_
         rw [← HWF.out]
         go_wp2_with fail
         have h12 := HS12.out
         have hlF := SF_.out.len.1
         have SS0 := Lib.hid (show Bx WF w.heap.size 30 csF ∧ Bx WF w7.heap.size 47 ml from ⟨STF.out, MXF.out⟩)
         have HIF := Lib.hid (show (Try.prog.info? 30).map (·.size) = some csF.length by rw [infoState, hlF])
         have THF := Lib.hid (show WF.drew.there (w.heap.size + 1) 0 csF.length by rw [hlF]; exact RSF.out.drew.there)
         have HOF := Lib.hid SF_.out.rd.one
         have BE := Lib.hid (RSF.out.drew.setAll csF hlF)
         have SE := Lib.hid ((SF_.out.old (Below.refl _ _).drew).asides (w.heap.size + 1) 0 csF NF.out)
         have BF := Lib.hid (below_sets csF 0 WF.drew BELF.out.drew (w.heap.size + 1) (Nat.le_succ _))
         have SS1 := Lib.hid (show Bx (WF.drew.setCells (w.heap.size + 1) 0 csF) w.heap.size 30 csF ∧ Bx (WF.drew.setCells (w.heap.size + 1) 0 csF) w7.heap.size 47 ml from ⟨STF.out.drew.same (heap_sets _ _ _ _ _ (by omega)), MXF.out.drew.same (heap_sets _ _ _ _ _ (by omega))⟩)
         have HC0 := Lib.hid (show ml[0]? = some (.int .i64 (dint ds 13)) by rw [HML.out]; rfl)
         clear h12 hlF
         refine wp_region_noPanic ?_
         refine wp_region_held_drew (S := fun wS => Bx wS w.heap.size 30 csF ∧ Bx wS w7.heap.size 47 ml) (by kernel_rfl) (SS0.out) (fun hHeld => ?_)
         refine wpAnyH_take (i := 0) (oi := ?oiT9a0x) (v := .agg csF.toArray) ?hiT9a0x (by kernel_rfl) (by kernel_rfl) (by kernel_rfl) ?hqT9a0x ?hyT9a0x (by assumption) ?restT9a0x
         case hiT9a0x => (simp only [List.getElem?_toArray, List.getElem?_cons_zero] <;> rfl)
         case hqT9a0x => exact fun _ _ _ h => h
         case hyT9a0x => exact (yieldsIf_load_mid (by rfl) 30 (.tmp 5) rfl w.heap.size 0 (by simp [Act.eval]) csF _ (fun _ h => Bx.range h.1) Try.underlying30 rfl HIF.out)
         try simp only [Act.put, List.setIfInBounds_toArray, List.set_cons_zero, List.set_cons_succ]
         refine wpAnyH_take (i := 1) (oi := ?oiT9a1x) (v := ?vT9a1x) ?hiT9a1x (by kernel_rfl) (by kernel_rfl) (by kernel_rfl) ?hqT9a1x ?hyT9a1x (by assumption) ?restT9a1x
         case hiT9a1x => (simp only [List.getElem?_toArray, List.getElem?_cons_succ, List.getElem?_cons_zero] <;> rfl)
         case hqT9a1x => exact fun _ _ _ h => h
         case hyT9a1x => exact Or.inl ⟨by rfl, by (intro wS hSw; have s5 := Bx.cell hSw.2 0 _ HC0.out; go_simp; try with_reducible rfl)⟩
         try simp only [Act.put, List.setIfInBounds_toArray, List.set_cons_zero, List.set_cons_succ]
         refine wpAnyH_take (i := 2) (oi := ?oiT9a2x) (v := ?vT9a2x) ?hiT9a2x (by kernel_rfl) (by kernel_rfl) (by kernel_rfl) ?hqT9a2x ?hyT9a2x (by assumption) ?restT9a2x
         case hiT9a2x => (simp only [List.getElem?_toArray, List.getElem?_cons_succ, List.getElem?_cons_zero] <;> rfl)
         case hqT9a2x => exact fun _ _ _ h => h
         case hyT9a2x => exact Or.inl ⟨by rfl, by (intro wS hSw; have s5 := Bx.cell hSw.2 0 _ HC0.out; go_simp; try with_reducible rfl)⟩
         try simp only [Act.put, List.setIfInBounds_toArray, List.set_cons_zero, List.set_cons_succ]
         refine wpAnyH_ready (rs := [3]) (by kernel_rfl) (by simp) ?_
         refine AllReadyH.cons (o := ?oiT9a3x) ?hiT9a3x (fun K hK => ?hsT9a3x) AllReadyH.nil
         case hiT9a3x => (simp only [List.getElem?_toArray, List.getElem?_cons_succ, List.getElem?_cons_zero] <;> rfl)
         refine step_store_mid rfl 30 (.tmp 10) (.tmp 98) rfl (w.heap.size + 1) 0 csF (by simp [Act.eval]) (by simp [Act.eval]) THF.out HIF.out HOF.out ?_
         refine hK.out _ _ SS1.out (fun hHeld3 => ?_)
         clear hK K
         try simp only [Act.put]
         refine wpAnyH_take (i := 4) (oi := ?oiT9a4x) (v := ?vT9a4x) ?hiT9a4x (by kernel_rfl) (by kernel_rfl) (by kernel_rfl) ?hqT9a4x ?hyT9a4x (by assumption) ?restT9a4x
         case hiT9a4x => (simp only [List.getElem?_toArray, List.getElem?_cons_succ, List.getElem?_cons_zero] <;> rfl)
         case hqT9a4x => exact fun _ _ _ h => h
         case hyT9a4x => exact Or.inl ⟨by rfl, by (intro wS hSw; have s5 := Bx.cell hSw.2 0 _ HC0.out; go_simp; try with_reducible rfl)⟩
         try simp only [Act.put, List.setIfInBounds_toArray, List.set_cons_zero, List.set_cons_succ]
         refine wpAnyH_done (by kernel_rfl) ?_ _
         refine NoPanic.normal ?_
         go_wp2_with fail
         refine bodyPost_ret (results_cs2 Try.results15 (w.heap.size + 1) ?_ (.int .i64 (dint ds 13)) ?_ csF _ (Bx.range BE.out) Try.underlying30 rfl HIF.out) rfl ?_
         ·rfl
         ·rfl
         ·exact ⟨csF, _, rfl, SE.out.rd, BF.out, FRF.out⟩
        case sbT6a =>
         go_simp
         rw [← HWA.out]
         refine hK.out _ _ MXA.out (fun hHeld6 => ?_)
         clear hK K
         try simp only [Act.put, List.setIfInBounds_toArray, List.set_cons_zero, List.set_cons_succ]
         refine wpAnyH_ready (rs := [3]) (by kernel_rfl) (by simp) ?_
         refine AllReadyH.cons (o := ?oiT8a3x) ?hiT8a3x (fun K hK => ?hsT8a3x) AllReadyH.nil
         case hiT8a3x => (simp only [List.getElem?_toArray, List.getElem?_cons_succ, List.getElem?_cons_zero] <;> rfl)
         go_simp
         refine hK.out _ _ MXA.out (fun hHeld3 => ?_)
         clear hK K
         try simp only [Act.put, List.setIfInBounds_toArray, List.set_cons_zero, List.set_cons_succ]
         refine wpAnyH_ready (rs := [7]) (by kernel_rfl) (by simp) ?_
         refine AllReadyH.cons (o := ?oiT8a7x) ?hiT8a7x (fun K hK => ?hsT8a7x) AllReadyH.nil
         case hiT8a7x => (simp only [List.getElem?_toArray, List.getElem?_cons_succ, List.getElem?_cons_zero] <;> rfl)
         refine step_append_own2 rfl (.tmp 92) (.tmp 95) 24 rfl W2.heap.size HEI.out (.slice pu es.length ku) es.length (es.flatMap Subtype.val) rfl ROWA.out ⟨Wd.heap.size, 0, none⟩ 1 1 [.int .i64 (dint ds 13)] rfl rfl HCN.out (fun u hu => by rw [List.mem_singleton.1 hu]; rfl) HMX.out HBG.out HBS.out (by decide) ?_
         intro v9 w14 own9 gr9 fr9
         obtain ⟨p9, n9, k9, rfl⟩ := own_sl own9
         obtain ⟨ca9, fa9⟩ := AL.out.there w14 (below_grownBy BA.out gr9)
         have O9 := Lib.hid own9
         have G9 := Lib.hid gr9
         have F9 := Lib.hid fr9
         have S9 := Lib.hid (MXA.out.same (gr9.block _ (by have := HS12.out; have := HZA.out; omega) (fun e => AL.out.nb _ N12.out.2.2 e.symm)))
         clear own9 gr9 fr9
         refine hK.out _ _ S9.out (fun hHeld7 => ?_)
         clear hK K
         try simp only [Act.put, List.setIfInBounds_toArray, List.set_cons_zero, List.set_cons_succ]
         refine wpAnyH_take (i := 8) (oi := ?oiT8a8x) (v := ?vT8a8x) ?hiT8a8x (by kernel_rfl) (by kernel_rfl) (by kernel_rfl) ?hqT8a8x ?hyT8a8x (by assumption) ?restT8a8x
         case hiT8a8x => (simp only [List.getElem?_toArray, List.getElem?_cons_succ, List.getElem?_cons_zero] <;> rfl)
         case hqT8a8x => exact fun _ _ _ h => h
         case hyT8a8x => exact Or.inl ⟨by rfl, by (intro wS hSw; have s5 := Bx.cell hSw 0 _ HC0.out; go_simp; try with_reducible rfl)⟩
         try simp only [Act.put, List.setIfInBounds_toArray, List.set_cons_zero, List.set_cons_succ]
         refine wpAnyH_ready (rs := [9]) (by kernel_rfl) (by simp) ?_
         refine AllReadyH.cons (o := ?oiT8a9x) ?hiT8a9x (fun K hK => ?hsT8a9x) AllReadyH.nil
         case hiT8a9x => (simp only [List.getElem?_toArray, List.getElem?_cons_succ, List.getElem?_cons_zero] <;> rfl)
         go_simp
         have h12 := HS12.out
         obtain ⟨ρF, csF, sF, xF, hro, hno, hu⟩ := AL.out.put w14 (L + 128 + 8) (.slice p9 n9 k9) (lx ++ [[dI (dint ds 13)]]) (by omega) (below_grownBy BA.out G9.out) ⟨es ++ [y], (by rw [List.length_append, List.flatMap_append, show [y].flatMap Subtype.val = [.int .i64 (dint ds 13)] by rw [List.flatMap_cons, HY.out]; rfl]; exact O9.out), HES.out.frame (by omega) (Nat.le_refl _) (fun _ _ _ => rfl) (fun _ h _ => h)⟩ (by simp only [List.length_append, List.length_singleton]; have := HBY.out; omega) (fun g hg => by
          rcases F9.out with e | e
          ·exact .inl (by rw [← hg, e])
          ·rw [e] at hg
           cases hg
           exact .inr (by have := HZA.out; omega))
         obtain ⟨WF, hWF⟩ : ∃ W, W = w14.setCell ⟨ab, oo, none⟩ (.slice p9 n9 k9) := ⟨_, rfl⟩
         rw [← hWF] at sF xF hno hu
         have SF_ := Lib.hid (show OwnS ρF (L + 128 + 8) W2.heap.size WF csF (mvL ds id z control bottom) by rw [HLV.out]; exact sF)
         have STF := Lib.hid xF
         have RSF := Lib.hid (RS12.out.same (hno _ (by omega) (by omega) N12.out.2.1))
         have MXF := Lib.hid (MX12.out.same (hno _ (by omega) (by omega) N12.out.2.2))
         have BELF := Lib.hid ((hu w.heap.size (by omega) (Nat.le_refl _)).below BEL12.out h12.2.2.2 (Nat.le_refl _))
         have NF := Lib.hid ((hro _ (by omega)).trans N12.out.2.1)
         have FRF := Lib.hid (show ∀ b, b < w.heap.size → ρF b ≠ .none → F b from fun b hb hn => FR9.out b hb fun e => hn ((hro b (by omega)).trans e))
         have HWF := Lib.hid hWF
         have SX := Lib.hid (show Bx (w14.setCell ⟨ab, oo, none⟩ (.slice p9 n9 k9)) w7.heap.size 47 ml from by rw [← hWF]; exact MXF.out)
         clear h12 sF xF hro hno hu hWF ca9 fa9
         refine hK.out _ _ SX.out (fun hHeld9 => ?_)
         clear hK K
         try simp only [Act.put, List.setIfInBounds_toArray, List.set_cons_zero, List.set_cons_succ]
         refine wpAnyH_done (by kernel_rfl) ?_ _
         refine NoPanic.normal ?_
         rw [← HWF.out]
         go_wp2_with fail
         have h12 := HS12.out
         have hlF := SF_.out.len.1
         have SS0 := Lib.hid (show Bx WF w.heap.size 30 csF ∧ Bx WF w7.heap.size 47 ml from ⟨STF.out, MXF.out⟩)
         have HIF := Lib.hid (show (Try.prog.info? 30).map (·.size) = some csF.length by rw [infoState, hlF])
         have THF := Lib.hid (show WF.drew.there (w.heap.size + 1) 0 csF.length by rw [hlF]; exact RSF.out.drew.there)
         have HOF := Lib.hid SF_.out.rd.one
         have BE := Lib.hid (RSF.out.drew.setAll csF hlF)
         have SE := Lib.hid ((SF_.out.old (Below.refl _ _).drew).asides (w.heap.size + 1) 0 csF NF.out)
         have BF := Lib.hid (below_sets csF 0 WF.drew BELF.out.drew (w.heap.size + 1) (Nat.le_succ _))
         have SS1 := Lib.hid (show Bx (WF.drew.setCells (w.heap.size + 1) 0 csF) w.heap.size 30 csF ∧ Bx (WF.drew.setCells (w.heap.size + 1) 0 csF) w7.heap.size 47 ml from ⟨STF.out.drew.same (heap_sets _ _ _ _ _ (by omega)), MXF.out.drew.same (heap_sets _ _ _ _ _ (by omega))⟩)
         have HC0 := Lib.hid (show ml[0]? = some (.int .i64 (dint ds 13)) by rw [HML.out]; rfl)
         clear h12 hlF
         refine wp_region_noPanic ?_
         refine wp_region_held_drew (S := fun wS => Bx wS w.heap.size 30 csF ∧ Bx wS w7.heap.size 47 ml) (by kernel_rfl) (SS0.out) (fun hHeld => ?_)
         refine wpAnyH_take (i := 0) (oi := ?oiT10a0x) (v := .agg csF.toArray) ?hiT10a0x (by kernel_rfl) (by kernel_rfl) (by kernel_rfl) ?hqT10a0x ?hyT10a0x (by assumption) ?restT10a0x
         case hiT10a0x => (simp only [List.getElem?_toArray, List.getElem?_cons_zero] <;> rfl)
         case hqT10a0x => exact fun _ _ _ h => h
         case hyT10a0x => exact (yieldsIf_load_mid (by rfl) 30 (.tmp 5) rfl w.heap.size 0 (by simp [Act.eval]) csF _ (fun _ h => Bx.range h.1) Try.underlying30 rfl HIF.out)
         try simp only [Act.put, List.setIfInBounds_toArray, List.set_cons_zero, List.set_cons_succ]
         refine wpAnyH_take (i := 1) (oi := ?oiT10a1x) (v := ?vT10a1x) ?hiT10a1x (by kernel_rfl) (by kernel_rfl) (by kernel_rfl) ?hqT10a1x ?hyT10a1x (by assumption) ?restT10a1x
         case hiT10a1x => (simp only [List.getElem?_toArray, List.getElem?_cons_succ, List.getElem?_cons_zero] <;> rfl)
         case hqT10a1x => exact fun _ _ _ h => h
         case hyT10a1x => exact Or.inl ⟨by rfl, by (intro wS hSw; have s5 := Bx.cell hSw.2 0 _ HC0.out; go_simp; try with_reducible rfl)⟩
         try simp only [Act.put, List.setIfInBounds_toArray, List.set_cons_zero, List.set_cons_succ]
         refine wpAnyH_take (i := 2) (oi := ?oiT10a2x) (v := ?vT10a2x) ?hiT10a2x (by kernel_rfl) (by kernel_rfl) (by kernel_rfl) ?hqT10a2x ?hyT10a2x (by assumption) ?restT10a2x
         case hiT10a2x => (simp only [List.getElem?_toArray, List.getElem?_cons_succ, List.getElem?_cons_zero] <;> rfl)
         case hqT10a2x => exact fun _ _ _ h => h
         case hyT10a2x => exact Or.inl ⟨by rfl, by (intro wS hSw; have s5 := Bx.cell hSw.2 0 _ HC0.out; go_simp; try with_reducible rfl)⟩
         try simp only [Act.put, List.setIfInBounds_toArray, List.set_cons_zero, List.set_cons_succ]
         refine wpAnyH_ready (rs := [3]) (by kernel_rfl) (by simp) ?_
         refine AllReadyH.cons (o := ?oiT10a3x) ?hiT10a3x (fun K hK => ?hsT10a3x) AllReadyH.nil
         case hiT10a3x => (simp only [List.getElem?_toArray, List.getElem?_cons_succ, List.getElem?_cons_zero] <;> rfl)
         refine step_store_mid rfl 30 (.tmp 10) (.tmp 98) rfl (w.heap.size + 1) 0 csF (by simp [Act.eval]) (by simp [Act.eval]) THF.out HIF.out HOF.out ?_
         refine hK.out _ _ SS1.out (fun hHeld3 => ?_)
         clear hK K
         try simp only [Act.put]
         refine wpAnyH_take (i := 4) (oi := ?oiT10a4x) (v := ?vT10a4x) ?hiT10a4x (by kernel_rfl) (by kernel_rfl) (by kernel_rfl) ?hqT10a4x ?hyT10a4x (by assumption) ?restT10a4x
         case hiT10a4x => (simp only [List.getElem?_toArray, List.getElem?_cons_succ, List.getElem?_cons_zero] <;> rfl)
         case hqT10a4x => exact fun _ _ _ h => h
         case hyT10a4x => exact Or.inl ⟨by rfl, by (intro wS hSw; have s5 := Bx.cell hSw.2 0 _ HC0.out; go_simp; try with_reducible rfl)⟩
         try simp only [Act.put, List.setIfInBounds_toArray, List.set_cons_zero, List.set_cons_succ]
         refine wpAnyH_done (by kernel_rfl) ?_ _
         refine NoPanic.normal ?_
         go_wp2_with fail
         refine bodyPost_ret (results_cs2 Try.results15 (w.heap.size + 1) ?_ (.int .i64 (dint ds 13)) ?_ csF _ (Bx.range BE.out) Try.underlying30 rfl HIF.out) rfl ?_
         ·rfl
         ·rfl
         ·exact ⟨csF, _, rfl, SE.out.rd, BF.out, FRF.out⟩
       ·have hzb : (z == 2 && !bottom) = true := by rw [h2, hbt]; rfl
        rw [hp] at HLS
        obtain ⟨lx, hlx⟩ : ∃ lx, lx = listT (mvN ds id z control) z (mvO ds id) := ⟨_, rfl⟩
        have AL := Lib.hid A
        obtain ⟨r, ow⟩ := A.own
        rw [← hlx] at ow
        obtain ⟨es, row, hes⟩ := ow.row
        have hby := ow.bytes
        have HBY := Lib.hid hby
        have hel := hes.len
        obtain ⟨pu, nu, ku, rfl⟩ := own_sl row
        obtain ⟨hnu, _⟩ := own_cap row
        subst hnu
        obtain ⟨Wd, hWd⟩ : ∃ W, W = W12.drew := ⟨_, rfl⟩
        obtain ⟨WA, hWA⟩ : ∃ W, W = Wd.alloc (.cells #[.int .i64 (dint ds 13)] 3) := ⟨_, rfl⟩
        have bd : Below W12.heap.size W12 Wd := by rw [hWd]; exact (Below.refl _ _).drew
        have ba : Below W12.heap.size W12 WA := by rw [hWA]; exact bd.alloc bd.size _
        have hzd : Wd.heap.size = W12.heap.size := by rw [hWd]; rfl
        have hza : WA.heap.size = W12.heap.size + 1 := by rw [hWA]; simp [hzd]
        have cad := (AL.out.there Wd (below_grown bd)).1
        have caa := (AL.out.there WA (below_grown ba)).1
        have MXD := Lib.hid (MX12.out.old bd)
        have MXA := Lib.hid (MX12.out.old ba)
        have bn : Bx WA Wd.heap.size 3 [.int .i64 (dint ds 13)] := by rw [hWA]; exact Bx.new Wd _ _
        obtain ⟨y, hy, hesy⟩ := cons_es hes (dint ds 13)
        have rowA := own_block row ba
        have HLV := Lib.hid (show mvL ds id z control bottom = setT (mvN ds id z control) z (mvO ds id) ([dI (dint ds 13)] :: lx) by unfold mvL; rw [hzb, ← hlx]; rfl)
        have HES := Lib.hid hesy
        have HY := Lib.hid hy
        have HEL := Lib.hid hel
        have ROWA := Lib.hid rowA
        have hBS : W2.heap.size ≤ WA.heap.size := by have := HS12.out; omega
        have BA := Lib.hid ba
        have HZA := Lib.hid hza
        have HZD := Lib.hid hzd
        have HC0 := Lib.hid (show ml[0]? = some (.int .i64 (dint ds 13)) by rw [HML.out]; rfl)
        have HBS := Lib.hid hBS
        have HWD := Lib.hid hWd
        have HWA := Lib.hid hWA
        have HIN := Lib.hid (show Calls Try.prog 40 #[.slice pu es.length ku, .int .i64 0, .slice (some ⟨Wd.heap.size, 0, none⟩) 1 1] WA fun e w' => ∃ ao m c, e = .returned (.slice ao m c) ∧ w'.ownsRow W2.heap.size 3 1 (.slice ao m c) (es.length + 1) ((y :: es).flatMap Subtype.val) ∧ WA.grownBy w' (Value.slice pu es.length ku).ownBlock ∧ ((Value.slice ao m c).ownBlock = (Value.slice pu es.length ku).ownBlock ∨ (Value.slice ao m c).ownBlock = some WA.heap.size) from insertint W2.heap.size _ es 0 Wd.heap.size y WA rowA (Nat.zero_le _) (by omega) (by rw [hy]; exact bn) (fun e => by have := (row.lt _ e).2; omega) hBS)
        clear hWd hWA hp A ow row hes hby hel bd ba hzd hza bn hy hesy rowA hBS hlx
        go_wp2_with ((with_reducible refine wpList_store_cs rfl 30 (.tmp 5) (.tmp 59) rfl w.heap.size 0 cs9 ?_ ?_ TH9.out HI9.out HO9.out ?_); rfl; rfl)
        rw [← HW12.out]
        refine HLS.out.mono ?_
        rintro e w13 ⟨rfl, rfl⟩
        clear c13 c14 f13 f14 co2
        go_wp2_with fail
        refine wp_region_noPanic ?_
        refine wp_region_held_drew (S := fun wS => Bx wS w7.heap.size 47 ml) (by kernel_rfl) (by rw [← HWD.out]; exact MXD.out) (fun hHeld => ?_)
        rw [← HWD.out]
        refine wpAnyH_take (i := 0) (oi := ?oiT11a0x) (v := ?vT11a0x) ?hiT11a0x (by kernel_rfl) (by kernel_rfl) (by kernel_rfl) ?hqT11a0x ?hyT11a0x (by assumption) ?restT11a0x
        case hiT11a0x => (simp only [List.getElem?_toArray, List.getElem?_cons_zero] <;> rfl)
        case hqT11a0x => exact fun _ _ _ h => h
        case hyT11a0x => exact Or.inl ⟨by rfl, by (intro wS hSw; have s5 := Bx.cell hSw 0 _ HC0.out; go_simp; try with_reducible rfl)⟩
        try simp only [Act.put, List.setIfInBounds_toArray, List.set_cons_zero, List.set_cons_succ]
        refine wpAnyH_take (i := 1) (oi := ?oiT11a1x) (v := ?vT11a1x) ?hiT11a1x (by kernel_rfl) (by kernel_rfl) (by kernel_rfl) ?hqT11a1x ?hyT11a1x (by assumption) ?restT11a1x
        case hiT11a1x => (simp only [List.getElem?_toArray, List.getElem?_cons_succ, List.getElem?_cons_zero] <;> rfl)
        case hqT11a1x => exact fun _ _ _ h => h
        case hyT11a1x => exact Or.inl ⟨by rfl, by (intro wS hSw; have s5 := Bx.cell hSw 0 _ HC0.out; go_simp; try with_reducible rfl)⟩
        try simp only [Act.put, List.setIfInBounds_toArray, List.set_cons_zero, List.set_cons_succ]
        refine wpAnyH_take (i := 2) (oi := ?oiT11a2x) (v := ?vT11a2x) ?hiT11a2x (by kernel_rfl) (by kernel_rfl) (by kernel_rfl) ?hqT11a2x ?hyT11a2x (by assumption) ?restT11a2x
        case hiT11a2x => (simp only [List.getElem?_toArray, List.getElem?_cons_succ, List.getElem?_cons_zero] <;> rfl)
        case hqT11a2x => exact fun _ _ _ h => h
        case hyT11a2x => exact Or.inl ⟨by rfl, by (intro wS hSw; have s5 := Bx.cell hSw 0 _ HC0.out; go_simp; try with_reducible rfl)⟩
        try simp only [Act.put, List.setIfInBounds_toArray, List.set_cons_zero, List.set_cons_succ]
        refine wpAnyH_take (i := 4) (oi := ?oiT11a4x) (v := ?vT11a4x) ?hiT11a4x (by kernel_rfl) (by kernel_rfl) (by kernel_rfl) ?hqT11a4x ?hyT11a4x (by assumption) ?restT11a4x
        case hiT11a4x => (simp only [List.getElem?_toArray, List.getElem?_cons_succ, List.getElem?_cons_zero] <;> rfl)
        case hqT11a4x => exact fun _ _ _ h => h
        case hyT11a4x => exact Or.inl ⟨by rfl, by (intro wS hSw; have s5 := Bx.cell hSw 0 _ HC0.out; go_simp; try with_reducible rfl)⟩
        try simp only [Act.put, List.setIfInBounds_toArray, List.set_cons_zero, List.set_cons_succ]
        refine wpAnyH_take (i := 5) (oi := ?oiT11a5x) (v := ?vT11a5x) ?hiT11a5x (by kernel_rfl) (by kernel_rfl) (by kernel_rfl) ?hqT11a5x ?hyT11a5x (by assumption) ?restT11a5x
        case hiT11a5x => (simp only [List.getElem?_toArray, List.getElem?_cons_succ, List.getElem?_cons_zero] <;> rfl)
        case hqT11a5x => exact fun _ _ _ h => h
        case hyT11a5x => exact Or.inl ⟨by rfl, by (intro wS hSw; have s5 := Bx.cell hSw 0 _ HC0.out; go_simp; try with_reducible rfl)⟩
        try simp only [Act.put, List.setIfInBounds_toArray, List.set_cons_zero, List.set_cons_succ]
        refine wpAnyH_ready (rs := [3, 6]) (by kernel_rfl) (by simp) ?_
        refine AllReadyH.cons (o := ?oaT11a) ?haT11a (fun K hK => ?saT11a) (AllReadyH.cons (o := ?obT11a) ?hbT11a (fun K hK => ?sbT11a) AllReadyH.nil)
        case haT11a => (simp only [List.getElem?_toArray, List.getElem?_cons_succ, List.getElem?_cons_zero] <;> rfl)
        case hbT11a => (simp only [List.getElem?_toArray, List.getElem?_cons_succ, List.getElem?_cons_zero] <;> rfl)
        case saT11a =>
         go_simp
         refine hK.out _ _ MXD.out (fun hHeld3 => ?_)
         clear hK K
         try simp only [Act.put, List.setIfInBounds_toArray, List.set_cons_zero, List.set_cons_succ]
         refine wpAnyH_ready (rs := [6]) (by kernel_rfl) (by simp) ?_
         refine AllReadyH.cons (o := ?oiT12a6x) ?hiT12a6x (fun K hK => ?hsT12a6x) AllReadyH.nil
         case hiT12a6x => (simp only [List.getElem?_toArray, List.getElem?_cons_succ, List.getElem?_cons_zero] <;> rfl)
         go_simp
         rw [← HWA.out]
         refine hK.out _ _ MXA.out (fun hHeld6 => ?_)
         clear hK K
         try simp only [Act.put, List.setIfInBounds_toArray, List.set_cons_zero, List.set_cons_succ]
         refine wpAnyH_ready (rs := [7]) (by kernel_rfl) (by simp) ?_
         refine AllReadyH.cons (o := ?oiT12a7x) ?hiT12a7x (fun K hK => ?hsT12a7x) AllReadyH.nil
         case hiT12a7x => (simp only [List.getElem?_toArray, List.getElem?_cons_succ, List.getElem?_cons_zero] <;> rfl)
         go_simp
         refine HIN.out.mono ?_
         rintro e w14 ⟨p9, n9, k9, rfl, own9, gr9, fr9⟩
         obtain ⟨ca9, fa9⟩ := AL.out.there w14 (below_grownBy BA.out gr9)
         have O9 := Lib.hid own9
         have G9 := Lib.hid gr9
         have F9 := Lib.hid fr9
         have S9 := Lib.hid (MXA.out.same (gr9.block _ (by have := HS12.out; have := HZA.out; omega) (fun e => AL.out.nb _ N12.out.2.2 e.symm)))
         clear own9 gr9 fr9
         refine hK.out _ _ S9.out (fun hHeld7 => ?_)
         clear hK K
         try simp only [Act.put, List.setIfInBounds_toArray, List.set_cons_zero, List.set_cons_succ]
         refine wpAnyH_take (i := 8) (oi := ?oiT12a8x) (v := ?vT12a8x) ?hiT12a8x (by kernel_rfl) (by kernel_rfl) (by kernel_rfl) ?hqT12a8x ?hyT12a8x (by assumption) ?restT12a8x
         case hiT12a8x => (simp only [List.getElem?_toArray, List.getElem?_cons_succ, List.getElem?_cons_zero] <;> rfl)
         case hqT12a8x => exact fun _ _ _ h => h
         case hyT12a8x => exact Or.inl ⟨by rfl, by (intro wS hSw; have s5 := Bx.cell hSw 0 _ HC0.out; go_simp; try with_reducible rfl)⟩
         try simp only [Act.put, List.setIfInBounds_toArray, List.set_cons_zero, List.set_cons_succ]
         refine wpAnyH_ready (rs := [9]) (by kernel_rfl) (by simp) ?_
         refine AllReadyH.cons (o := ?oiT12a9x) ?hiT12a9x (fun K hK => ?hsT12a9x) AllReadyH.nil
         case hiT12a9x => (simp only [List.getElem?_toArray, List.getElem?_cons_succ, List.getElem?_cons_zero] <;> rfl)
         go_simp
         have h12 := HS12.out
         obtain ⟨ρF, csF, sF, xF, hro, hno, hu⟩ := AL.out.put w14 (L + 128 + 8) (.slice p9 n9 k9) ([dI (dint ds 13)] :: lx) (by omega) (below_grownBy BA.out G9.out) ⟨y :: es, O9.out, HES.out.frame (by omega) (Nat.le_refl _) (fun _ _ _ => rfl) (fun _ h _ => h)⟩ (by simp only [List.length_cons]; have := HBY.out; omega) (fun g hg => by
          rcases F9.out with e | e
          ·exact .inl (by rw [← hg, e])
          ·rw [e] at hg
           cases hg
           exact .inr (by have := HZA.out; omega))
         obtain ⟨WF, hWF⟩ : ∃ W, W = w14.setCell ⟨ab, oo, none⟩ (.slice p9 n9 k9) := ⟨_, rfl⟩
         rw [← hWF] at sF xF hno hu
         have SF_ := Lib.hid (show OwnS ρF (L + 128 + 8) W2.heap.size WF csF (mvL ds id z control bottom) by rw [HLV.out]; exact sF)
         have STF := Lib.hid xF
         have RSF := Lib.hid (RS12.out.same (hno _ (by omega) (by omega) N12.out.2.1))
         have MXF := Lib.hid (MX12.out.same (hno _ (by omega) (by omega) N12.out.2.2))
         have BELF := Lib.hid ((hu w.heap.size (by omega) (Nat.le_refl _)).below BEL12.out h12.2.2.2 (Nat.le_refl _))
         have NF := Lib.hid ((hro _ (by omega)).trans N12.out.2.1)
         have FRF := Lib.hid (show ∀ b, b < w.heap.size → ρF b ≠ .none → F b from fun b hb hn => FR9.out b hb fun e => hn ((hro b (by omega)).trans e))
         have HWF := Lib.hid hWF
         have SX := Lib.hid (show Bx (w14.setCell ⟨ab, oo, none⟩ (.slice p9 n9 k9)) w7.heap.size 47 ml from by rw [← hWF]; exact MXF.out)
         clear h12 sF xF hro hno hu hWF ca9 fa9
         refine hK.out _ _ SX.out (fun hHeld9 => ?_)
         clear hK K
         try simp only [Act.put, List.setIfInBounds_toArray, List.set_cons_zero, List.set_cons_succ]
         refine wpAnyH_done (by kernel_rfl) ?_ _
         refine NoPanic.normal ?_
         rw [← HWF.out]
         go_wp2_with fail
         have h12 := HS12.out
         have hlF := SF_.out.len.1
         have SS0 := Lib.hid (show Bx WF w.heap.size 30 csF ∧ Bx WF w7.heap.size 47 ml from ⟨STF.out, MXF.out⟩)
         have HIF := Lib.hid (show (Try.prog.info? 30).map (·.size) = some csF.length by rw [infoState, hlF])
         have THF := Lib.hid (show WF.drew.there (w.heap.size + 1) 0 csF.length by rw [hlF]; exact RSF.out.drew.there)
         have HOF := Lib.hid SF_.out.rd.one
         have BE := Lib.hid (RSF.out.drew.setAll csF hlF)
         have SE := Lib.hid ((SF_.out.old (Below.refl _ _).drew).asides (w.heap.size + 1) 0 csF NF.out)
         have BF := Lib.hid (below_sets csF 0 WF.drew BELF.out.drew (w.heap.size + 1) (Nat.le_succ _))
         have SS1 := Lib.hid (show Bx (WF.drew.setCells (w.heap.size + 1) 0 csF) w.heap.size 30 csF ∧ Bx (WF.drew.setCells (w.heap.size + 1) 0 csF) w7.heap.size 47 ml from ⟨STF.out.drew.same (heap_sets _ _ _ _ _ (by omega)), MXF.out.drew.same (heap_sets _ _ _ _ _ (by omega))⟩)
         have HC0 := Lib.hid (show ml[0]? = some (.int .i64 (dint ds 13)) by rw [HML.out]; rfl)
         clear h12 hlF
         refine wp_region_noPanic ?_
         refine wp_region_held_drew (S := fun wS => Bx wS w.heap.size 30 csF ∧ Bx wS w7.heap.size 47 ml) (by kernel_rfl) (SS0.out) (fun hHeld => ?_)
         refine wpAnyH_take (i := 0) (oi := ?oiT14a0x) (v := .agg csF.toArray) ?hiT14a0x (by kernel_rfl) (by kernel_rfl) (by kernel_rfl) ?hqT14a0x ?hyT14a0x (by assumption) ?restT14a0x
         case hiT14a0x => (simp only [List.getElem?_toArray, List.getElem?_cons_zero] <;> rfl)
         case hqT14a0x => exact fun _ _ _ h => h
         case hyT14a0x => exact (yieldsIf_load_mid (by rfl) 30 (.tmp 5) rfl w.heap.size 0 (by simp [Act.eval]) csF _ (fun _ h => Bx.range h.1) Try.underlying30 rfl HIF.out)
         try simp only [Act.put, List.setIfInBounds_toArray, List.set_cons_zero, List.set_cons_succ]
         refine wpAnyH_take (i := 1) (oi := ?oiT14a1x) (v := ?vT14a1x) ?hiT14a1x (by kernel_rfl) (by kernel_rfl) (by kernel_rfl) ?hqT14a1x ?hyT14a1x (by assumption) ?restT14a1x
         case hiT14a1x => (simp only [List.getElem?_toArray, List.getElem?_cons_succ, List.getElem?_cons_zero] <;> rfl)
         case hqT14a1x => exact fun _ _ _ h => h
         case hyT14a1x => exact Or.inl ⟨by rfl, by (intro wS hSw; have s5 := Bx.cell hSw.2 0 _ HC0.out; go_simp; try with_reducible rfl)⟩
         try simp only [Act.put, List.setIfInBounds_toArray, List.set_cons_zero, List.set_cons_succ]
         refine wpAnyH_take (i := 2) (oi := ?oiT14a2x) (v := ?vT14a2x) ?hiT14a2x (by kernel_rfl) (by kernel_rfl) (by kernel_rfl) ?hqT14a2x ?hyT14a2x (by assumption) ?restT14a2x
         case hiT14a2x => (simp only [List.getElem?_toArray, List.getElem?_cons_succ, List.getElem?_cons_zero] <;> rfl)
         case hqT14a2x => exact fun _ _ _ h => h
         case hyT14a2x => exact Or.inl ⟨by rfl, by (intro wS hSw; have s5 := Bx.cell hSw.2 0 _ HC0.out; go_simp; try with_reducible rfl)⟩
         try simp only [Act.put, List.setIfInBounds_toArray, List.set_cons_zero, List.set_cons_succ]
         refine wpAnyH_ready (rs := [3]) (by kernel_rfl) (by simp) ?_
         refine AllReadyH.cons (o := ?oiT14a3x) ?hiT14a3x (fun K hK => ?hsT14a3x) AllReadyH.nil
         case hiT14a3x => (simp only [List.getElem?_toArray, List.getElem?_cons_succ, List.getElem?_cons_zero] <;> rfl)
         refine step_store_mid rfl 30 (.tmp 10) (.tmp 98) rfl (w.heap.size + 1) 0 csF (by simp [Act.eval]) (by simp [Act.eval]) THF.out HIF.out HOF.out ?_
         refine hK.out _ _ SS1.out (fun hHeld3 => ?_)
         clear hK K
         try simp only [Act.put]
         refine wpAnyH_take (i := 4) (oi := ?oiT14a4x) (v := ?vT14a4x) ?hiT14a4x (by kernel_rfl) (by kernel_rfl) (by kernel_rfl) ?hqT14a4x ?hyT14a4x (by assumption) ?restT14a4x
         case hiT14a4x => (simp only [List.getElem?_toArray, List.getElem?_cons_succ, List.getElem?_cons_zero] <;> rfl)
         case hqT14a4x => exact fun _ _ _ h => h
         case hyT14a4x => exact Or.inl ⟨by rfl, by (intro wS hSw; have s5 := Bx.cell hSw.2 0 _ HC0.out; go_simp; try with_reducible rfl)⟩
         try simp only [Act.put, List.setIfInBounds_toArray, List.set_cons_zero, List.set_cons_succ]
         refine wpAnyH_done (by kernel_rfl) ?_ _
         refine NoPanic.normal ?_
         go_wp2_with fail
         refine bodyPost_ret (results_cs2 Try.results15 (w.heap.size + 1) ?_ (.int .i64 (dint ds 13)) ?_ csF _ (Bx.range BE.out) Try.underlying30 rfl HIF.out) rfl ?_
         ·rfl
         ·rfl
         ·exact ⟨csF, _, rfl, SE.out.rd, BF.out, FRF.out⟩
        case sbT11a =>
         go_simp
         rw [← HWA.out]
         refine hK.out _ _ MXA.out (fun hHeld6 => ?_)
         clear hK K
         try simp only [Act.put, List.setIfInBounds_toArray, List.set_cons_zero, List.set_cons_succ]
         refine wpAnyH_ready (rs := [3]) (by kernel_rfl) (by simp) ?_
         refine AllReadyH.cons (o := ?oiT13a3x) ?hiT13a3x (fun K hK => ?hsT13a3x) AllReadyH.nil
         case hiT13a3x => (simp only [List.getElem?_toArray, List.getElem?_cons_succ, List.getElem?_cons_zero] <;> rfl)
         go_simp
         refine hK.out _ _ MXA.out (fun hHeld3 => ?_)
         clear hK K
         try simp only [Act.put, List.setIfInBounds_toArray, List.set_cons_zero, List.set_cons_succ]
         refine wpAnyH_ready (rs := [7]) (by kernel_rfl) (by simp) ?_
         refine AllReadyH.cons (o := ?oiT13a7x) ?hiT13a7x (fun K hK => ?hsT13a7x) AllReadyH.nil
         case hiT13a7x => (simp only [List.getElem?_toArray, List.getElem?_cons_succ, List.getElem?_cons_zero] <;> rfl)
         go_simp
         refine HIN.out.mono ?_
         rintro e w14 ⟨p9, n9, k9, rfl, own9, gr9, fr9⟩
         obtain ⟨ca9, fa9⟩ := AL.out.there w14 (below_grownBy BA.out gr9)
         have O9 := Lib.hid own9
         have G9 := Lib.hid gr9
         have F9 := Lib.hid fr9
         have S9 := Lib.hid (MXA.out.same (gr9.block _ (by have := HS12.out; have := HZA.out; omega) (fun e => AL.out.nb _ N12.out.2.2 e.symm)))
         clear own9 gr9 fr9
         refine hK.out _ _ S9.out (fun hHeld7 => ?_)
         clear hK K
         try simp only [Act.put, List.setIfInBounds_toArray, List.set_cons_zero, List.set_cons_succ]
         refine wpAnyH_take (i := 8) (oi := ?oiT13a8x) (v := ?vT13a8x) ?hiT13a8x (by kernel_rfl) (by kernel_rfl) (by kernel_rfl) ?hqT13a8x ?hyT13a8x (by assumption) ?restT13a8x
         case hiT13a8x => (simp only [List.getElem?_toArray, List.getElem?_cons_succ, List.getElem?_cons_zero] <;> rfl)
         case hqT13a8x => exact fun _ _ _ h => h
         case hyT13a8x => exact Or.inl ⟨by rfl, by (intro wS hSw; have s5 := Bx.cell hSw 0 _ HC0.out; go_simp; try with_reducible rfl)⟩
         try simp only [Act.put, List.setIfInBounds_toArray, List.set_cons_zero, List.set_cons_succ]
         refine wpAnyH_ready (rs := [9]) (by kernel_rfl) (by simp) ?_
         refine AllReadyH.cons (o := ?oiT13a9x) ?hiT13a9x (fun K hK => ?hsT13a9x) AllReadyH.nil
         case hiT13a9x => (simp only [List.getElem?_toArray, List.getElem?_cons_succ, List.getElem?_cons_zero] <;> rfl)
         go_simp
         have h12 := HS12.out
         obtain ⟨ρF, csF, sF, xF, hro, hno, hu⟩ := AL.out.put w14 (L + 128 + 8) (.slice p9 n9 k9) ([dI (dint ds 13)] :: lx) (by omega) (below_grownBy BA.out G9.out) ⟨y :: es, O9.out, HES.out.frame (by omega) (Nat.le_refl _) (fun _ _ _ => rfl) (fun _ h _ => h)⟩ (by simp only [List.length_cons]; have := HBY.out; omega) (fun g hg => by
          rcases F9.out with e | e
          ·exact .inl (by rw [← hg, e])
          ·rw [e] at hg
           cases hg
           exact .inr (by have := HZA.out; omega))
         obtain ⟨WF, hWF⟩ : ∃ W, W = w14.setCell ⟨ab, oo, none⟩ (.slice p9 n9 k9) := ⟨_, rfl⟩
         rw [← hWF] at sF xF hno hu
         have SF_ := Lib.hid (show OwnS ρF (L + 128 + 8) W2.heap.size WF csF (mvL ds id z control bottom) by rw [HLV.out]; exact sF)
         have STF := Lib.hid xF
         have RSF := Lib.hid (RS12.out.same (hno _ (by omega) (by omega) N12.out.2.1))
         have MXF := Lib.hid (MX12.out.same (hno _ (by omega) (by omega) N12.out.2.2))
         have BELF := Lib.hid ((hu w.heap.size (by omega) (Nat.le_refl _)).below BEL12.out h12.2.2.2 (Nat.le_refl _))
         have NF := Lib.hid ((hro _ (by omega)).trans N12.out.2.1)
         have FRF := Lib.hid (show ∀ b, b < w.heap.size → ρF b ≠ .none → F b from fun b hb hn => FR9.out b hb fun e => hn ((hro b (by omega)).trans e))
         have HWF := Lib.hid hWF
         have SX := Lib.hid (show Bx (w14.setCell ⟨ab, oo, none⟩ (.slice p9 n9 k9)) w7.heap.size 47 ml from by rw [← hWF]; exact MXF.out)
         clear h12 sF xF hro hno hu hWF ca9 fa9
         refine hK.out _ _ SX.out (fun hHeld9 => ?_)
         clear hK K
         try simp only [Act.put, List.setIfInBounds_toArray, List.set_cons_zero, List.set_cons_succ]
         refine wpAnyH_done (by kernel_rfl) ?_ _
         refine NoPanic.normal ?_
         rw [← HWF.out]
         go_wp2_with fail
         have h12 := HS12.out
         have hlF := SF_.out.len.1
         have SS0 := Lib.hid (show Bx WF w.heap.size 30 csF ∧ Bx WF w7.heap.size 47 ml from ⟨STF.out, MXF.out⟩)
         have HIF := Lib.hid (show (Try.prog.info? 30).map (·.size) = some csF.length by rw [infoState, hlF])
         have THF := Lib.hid (show WF.drew.there (w.heap.size + 1) 0 csF.length by rw [hlF]; exact RSF.out.drew.there)
         have HOF := Lib.hid SF_.out.rd.one
         have BE := Lib.hid (RSF.out.drew.setAll csF hlF)
         have SE := Lib.hid ((SF_.out.old (Below.refl _ _).drew).asides (w.heap.size + 1) 0 csF NF.out)
         have BF := Lib.hid (below_sets csF 0 WF.drew BELF.out.drew (w.heap.size + 1) (Nat.le_succ _))
         have SS1 := Lib.hid (show Bx (WF.drew.setCells (w.heap.size + 1) 0 csF) w.heap.size 30 csF ∧ Bx (WF.drew.setCells (w.heap.size + 1) 0 csF) w7.heap.size 47 ml from ⟨STF.out.drew.same (heap_sets _ _ _ _ _ (by omega)), MXF.out.drew.same (heap_sets _ _ _ _ _ (by omega))⟩)
         have HC0 := Lib.hid (show ml[0]? = some (.int .i64 (dint ds 13)) by rw [HML.out]; rfl)
         clear h12 hlF
         refine wp_region_noPanic ?_
         refine wp_region_held_drew (S := fun wS => Bx wS w.heap.size 30 csF ∧ Bx wS w7.heap.size 47 ml) (by kernel_rfl) (SS0.out) (fun hHeld => ?_)
         refine wpAnyH_take (i := 0) (oi := ?oiT15a0x) (v := .agg csF.toArray) ?hiT15a0x (by kernel_rfl) (by kernel_rfl) (by kernel_rfl) ?hqT15a0x ?hyT15a0x (by assumption) ?restT15a0x
         case hiT15a0x => (simp only [List.getElem?_toArray, List.getElem?_cons_zero] <;> rfl)
         case hqT15a0x => exact fun _ _ _ h => h
         case hyT15a0x => exact (yieldsIf_load_mid (by rfl) 30 (.tmp 5) rfl w.heap.size 0 (by simp [Act.eval]) csF _ (fun _ h => Bx.range h.1) Try.underlying30 rfl HIF.out)
         try simp only [Act.put, List.setIfInBounds_toArray, List.set_cons_zero, List.set_cons_succ]
         refine wpAnyH_take (i := 1) (oi := ?oiT15a1x) (v := ?vT15a1x) ?hiT15a1x (by kernel_rfl) (by kernel_rfl) (by kernel_rfl) ?hqT15a1x ?hyT15a1x (by assumption) ?restT15a1x
         case hiT15a1x => (simp only [List.getElem?_toArray, List.getElem?_cons_succ, List.getElem?_cons_zero] <;> rfl)
         case hqT15a1x => exact fun _ _ _ h => h
         case hyT15a1x => exact Or.inl ⟨by rfl, by (intro wS hSw; have s5 := Bx.cell hSw.2 0 _ HC0.out; go_simp; try with_reducible rfl)⟩
         try simp only [Act.put, List.setIfInBounds_toArray, List.set_cons_zero, List.set_cons_succ]
         refine wpAnyH_take (i := 2) (oi := ?oiT15a2x) (v := ?vT15a2x) ?hiT15a2x (by kernel_rfl) (by kernel_rfl) (by kernel_rfl) ?hqT15a2x ?hyT15a2x (by assumption) ?restT15a2x
         case hiT15a2x => (simp only [List.getElem?_toArray, List.getElem?_cons_succ, List.getElem?_cons_zero] <;> rfl)
         case hqT15a2x => exact fun _ _ _ h => h
         case hyT15a2x => exact Or.inl ⟨by rfl, by (intro wS hSw; have s5 := Bx.cell hSw.2 0 _ HC0.out; go_simp; try with_reducible rfl)⟩
         try simp only [Act.put, List.setIfInBounds_toArray, List.set_cons_zero, List.set_cons_succ]
         refine wpAnyH_ready (rs := [3]) (by kernel_rfl) (by simp) ?_
         refine AllReadyH.cons (o := ?oiT15a3x) ?hiT15a3x (fun K hK => ?hsT15a3x) AllReadyH.nil
         case hiT15a3x => (simp only [List.getElem?_toArray, List.getElem?_cons_succ, List.getElem?_cons_zero] <;> rfl)
         refine step_store_mid rfl 30 (.tmp 10) (.tmp 98) rfl (w.heap.size + 1) 0 csF (by simp [Act.eval]) (by simp [Act.eval]) THF.out HIF.out HOF.out ?_
         refine hK.out _ _ SS1.out (fun hHeld3 => ?_)
         clear hK K
         try simp only [Act.put]
         refine wpAnyH_take (i := 4) (oi := ?oiT15a4x) (v := ?vT15a4x) ?hiT15a4x (by kernel_rfl) (by kernel_rfl) (by kernel_rfl) ?hqT15a4x ?hyT15a4x (by assumption) ?restT15a4x
         case hiT15a4x => (simp only [List.getElem?_toArray, List.getElem?_cons_succ, List.getElem?_cons_zero] <;> rfl)
         case hqT15a4x => exact fun _ _ _ h => h
         case hyT15a4x => exact Or.inl ⟨by rfl, by (intro wS hSw; have s5 := Bx.cell hSw.2 0 _ HC0.out; go_simp; try with_reducible rfl)⟩
         try simp only [Act.put, List.setIfInBounds_toArray, List.set_cons_zero, List.set_cons_succ]
         refine wpAnyH_done (by kernel_rfl) ?_ _
         refine NoPanic.normal ?_
         go_wp2_with fail
         refine bodyPost_ret (results_cs2 Try.results15 (w.heap.size + 1) ?_ (.int .i64 (dint ds 13)) ?_ csF _ (Bx.range BE.out) Try.underlying30 rfl HIF.out) rfl ?_
         ·rfl
         ·rfl
         ·exact ⟨csF, _, rfl, SE.out.rd, BF.out, FRF.out⟩
    ·by_cases hne0 : z = 0
     ·subst hne0
      have hmv : moveT ds id 0 control bottom = (mvL ds id 0 control bottom, dint ds 13) := by unfold moveT; rw [if_pos ⟨hh, by omega, by omega⟩, if_neg (fun hx => hx.2.1 rfl)]
      rw [hmv]
      dsimp only
      clear hmv
      go_enter Try.func15, Try.ntmps15
      go_wp2_with ((with_reducible refine wpList_load_mid rfl 30 (.tmp 5) rfl w.heap.size 0 ?_ cs _ RG.out Try.underlying30 rfl HI.out ?_); rfl)
      rw [← HW0.out]
      refine HF.out.mono ?_
      rintro e w1 ⟨oc, rfl, ro, b1⟩
      have hs0 := XX.out.size
      have hb1 := b1.size
      have hol := ro.len.1
      rw [kObject_len] at hol
      obtain ⟨W1, hW1⟩ : ∃ W, W = w1.alloc (.cells #[.int .i64 0, .int .i64 0, .int .i64 0, .int .i64 0, .int .i64 0, .bool false, .bool false, .bool false, .bool false, .int .i64 0, .int .i64 0, .int .i64 0, .int .i64 0, .int .i64 0, .int .i64 0, .int .i64 0, .bool false, .int .i64 0, .int .i64 0] 47) := ⟨_, rfl⟩
      have oz : Bx W1 w1.heap.size 47 zObjC.1 := by rw [hW1]; exact Bx.new w1 zObjC.1 _
      have ht := oz.there
      have hz19 : zObjC.1.length = oc.length := by rw [hol]; rfl
      rw [hz19, hW1] at ht
      have THO := Lib.hid ht
      have HIO := Lib.hid (show (Try.prog.info? 47).map (·.size) = some oc.length by rw [infoObject, hol])
      have HOO := Lib.hid ro.one
      obtain ⟨W2, hW2⟩ : ∃ W, W = W1.setCells w1.heap.size 0 oc := ⟨_, rfl⟩
      have ox2 : Bx W2 w1.heap.size 47 oc := by rw [hW2]; exact oz.setAll oc hz19.symm
      have bb : Below W0.heap.size W0 W2 := by
       rw [hW2]
       exact below_sets _ _ _ (b1.trans (show Below W0.heap.size w1 W1 by rw [hW1]; exact (Below.refl _ _).alloc hb1 _)) _ hb1
      have st2 := XX.out.st.old bb
      have rg2 := st2.range
      rw [hW2, hW1] at rg2
      have RG2 := Lib.hid rg2
      have hb2 := bb.size
      have hm1 : w1.heap.size < W2.heap.size := ox2.lt
      have HC := Lib.hid (copy_prog _ L cs ds W2 (HR.out.old bb) (by omega))
      have ST2 := Lib.hid st2
      have RS2 := Lib.hid (XX.out.rs.old bb)
      have OX2 := Lib.hid ox2
      have RO := Lib.hid ro
      have BEL2 := Lib.hid (XX.out.bel.trans (bb.mono XX.out.bel.size))
      have HS2 := Lib.hid (show w.heap.size + 2 ≤ w1.heap.size ∧ w1.heap.size < W2.heap.size by omega)
      have HW2 := Lib.hid (show W2 = _ by rw [hW2, hW1])
      clear hs0 hb1 b1 hol hW1 oz ht hz19 hW2 ox2 bb st2 rg2 hb2 hm1 ro
      go_wp2_with (first | ((with_reducible refine wpList_store_cs rfl 47 (.tmp 12) (.tmp 20) rfl w1.heap.size 0 oc ?_ ?_ THO.out HIO.out HOO.out ?_); rfl; rfl) | ((with_reducible refine wpList_load_mid rfl 30 (.tmp 5) rfl w.heap.size 0 ?_ cs _ RG2.out Try.underlying30 rfl HI.out ?_); rfl))
      rw [← HW2.out]
      refine HC.out.mono ?_
      rintro e w3 ⟨cs3, rfl, ⟨ρ3, s3, hn3⟩, b3⟩
      have h2 := HS2.out
      have hb3 := b3.size
      have st3 := ST2.out.old b3
      have hl3 := s3.len.1
      have hl31 : cs3.length = cs.length := by rw [hl3, HLN.out]
      obtain ⟨W4, hW4⟩ : ∃ W, W = w3.setCells w.heap.size 0 cs3 := ⟨_, rfl⟩
      have TH3 := Lib.hid (show w3.there w.heap.size 0 cs3.length by rw [hl31]; exact st3.there)
      have HI3 := Lib.hid (show (Try.prog.info? 30).map (·.size) = some cs3.length by rw [infoState, hl3])
      have HO3 := Lib.hid s3.rd.one
      have n0 : ρ3 w.heap.size = .none := hn3 _ (by omega) (fun hF => by have := hF.2; omega)
      have n1 : ρ3 (w.heap.size + 1) = .none := hn3 _ (by omega) (fun hF => by have := hF.2; omega)
      have n2 : ρ3 w1.heap.size = .none := hn3 _ (by omega) (fun hF => by have := hF.2; omega)
      have ST4 := Lib.hid (show Bx W4 w.heap.size 30 cs3 by rw [hW4]; exact st3.setAll cs3 hl31)
      have RS4 := Lib.hid (show Bx W4 (w.heap.size + 1) 30 zsC by rw [hW4]; exact (RS2.out.old b3).same (heap_sets _ _ _ _ _ (by omega)))
      have OX4 := Lib.hid (show Bx W4 w1.heap.size 47 oc by rw [hW4]; exact (OX2.out.old b3).same (heap_sets _ _ _ _ _ (by omega)))
      have S4 := Lib.hid (show OwnS ρ3 L W2.heap.size W4 cs3 ds by rw [hW4]; exact s3.asides _ 0 cs3 n0)
      have BEL4 := Lib.hid (show Below w.heap.size w W4 by rw [hW4]; exact below_sets _ _ _ (BEL2.out.trans (b3.mono (by omega))) _ (Nat.le_refl _))
      have N4 := Lib.hid (show ρ3 w.heap.size = .none ∧ ρ3 (w.heap.size + 1) = .none ∧ ρ3 w1.heap.size = .none from ⟨n0, n1, n2⟩)
      have FR4 := Lib.hid (show ∀ b, b < w.heap.size → ρ3 b ≠ .none → F b from fun b hb hn => Classical.byContradiction fun hF => hn (hn3 b (by omega) (fun h => hF h.1)))
      have HS4 := Lib.hid (show w.heap.size + 2 ≤ w1.heap.size ∧ w1.heap.size < W4.heap.size ∧ W2.heap.size ≤ W4.heap.size ∧ w.heap.size ≤ W2.heap.size by rw [hW4, sets_size]; omega)
      have HL3 := Lib.hid hl3
      have rg4 := ST4.out.range
      rw [hW4] at rg4
      have RG4 := Lib.hid rg4
      have HW4 := Lib.hid hW4
      clear h2 hb3 st3 hl3 hl31 n0 n1 n2 rg4 s3 hn3 b3 hW4
      have rgo := OX4.out.range
      rw [HW4.out] at rgo
      have RGO4 := Lib.hid rgo
      have HRM := Lib.hid (remove_prog ρ3 L W2.heap.size cs3 ds oc (findO id (dxs ds 1)) W4 S4.out (RO.out.any flatObject) (by have := HS4.out; omega) (by omega) (by
       have e : dint (findO id (dxs ds 1)) 0 = id := by
        unfold findO
        cases hf : (dxs ds 1).find? (fun o => dint o 0 == id) with
        | none => unfold hasO at hh; rw [hf] at hh; cases hh
        | some x => have := List.find?_some hf; exact eq_of_beq this
       rw [e]; exact hh))
      clear rgo
      go_wp2_with (first | ((with_reducible refine wpList_store_cs rfl 30 (.tmp 5) (.tmp 23) rfl w.heap.size 0 cs3 ?_ ?_ TH3.out HI3.out HO3.out ?_); rfl; rfl) | ((with_reducible refine wpList_load_mid rfl 30 (.tmp 5) rfl w.heap.size 0 ?_ cs3 _ RG4.out Try.underlying30 rfl HI3.out ?_); rfl) | ((with_reducible refine wpList_load_mid rfl 47 (.tmp 12) rfl w1.heap.size 0 ?_ oc _ RGO4.out Try.underlying47 rfl HIO.out ?_); rfl))
      rw [← HW4.out]
      refine HRM.out.mono ?_
      rintro e w5 ⟨cs5, rfl, ρ5, s5, u5⟩
      have s5 : OwnS ρ5 L W2.heap.size w5 cs5 (mvR ds id) := s5
      have h4 := HS4.out
      have h5 := u5.size
      have st5 := ST4.out.same (u5.keep _ (by omega) (.inr (.inl N4.out.1)))
      have rs5 := RS4.out.same (u5.keep _ (by omega) (.inr (.inl N4.out.2.1)))
      have ox5 := OX4.out.same (u5.keep _ (by omega) (.inr (.inl N4.out.2.2)))
      have q0 : ρ5 w.heap.size = .none := (u5.role _ (by omega)).trans N4.out.1
      have q1 : ρ5 (w.heap.size + 1) = .none := (u5.role _ (by omega)).trans N4.out.2.1
      have q2 : ρ5 w1.heap.size = .none := (u5.role _ (by omega)).trans N4.out.2.2
      have hl5 := s5.len.1
      have hl53 : cs5.length = cs3.length := by rw [hl5, HL3.out]
      obtain ⟨W6, hW6⟩ : ∃ W, W = w5.setCells w.heap.size 0 cs5 := ⟨_, rfl⟩
      have TH5 := Lib.hid (show w5.there w.heap.size 0 cs5.length by rw [hl53]; exact st5.there)
      have HI5 := Lib.hid (show (Try.prog.info? 30).map (·.size) = some cs5.length by rw [infoState, hl5])
      have HO5 := Lib.hid s5.rd.one
      have ST6 := Lib.hid (show Bx W6 w.heap.size 30 cs5 by rw [hW6]; exact st5.setAll cs5 hl53)
      have RS6 := Lib.hid (show Bx W6 (w.heap.size + 1) 30 zsC by rw [hW6]; exact rs5.same (heap_sets _ _ _ _ _ (by omega)))
      have OX6 := Lib.hid (show Bx W6 w1.heap.size 47 oc by rw [hW6]; exact ox5.same (heap_sets _ _ _ _ _ (by omega)))
      have S6 := Lib.hid (show OwnS ρ5 L W2.heap.size W6 cs5 (mvR ds id) by rw [hW6]; exact s5.asides _ 0 cs5 q0)
      have BEL6 := Lib.hid (show Below w.heap.size w W6 by rw [hW6]; exact below_sets _ _ _ (u5.below BEL4.out h4.2.2.2 (by omega)) _ (Nat.le_refl _))
      have N6 := Lib.hid (show ρ5 w.heap.size = .none ∧ ρ5 (w.heap.size + 1) = .none ∧ ρ5 w1.heap.size = .none from ⟨q0, q1, q2⟩)
      have FR6 := Lib.hid (show ∀ b, b < w.heap.size → ρ5 b ≠ .none → F b from fun b hb hn => FR4.out b hb fun e => hn ((u5.role b (by omega)).trans e))
      have HS6 := Lib.hid (show w.heap.size + 2 ≤ w1.heap.size ∧ w1.heap.size < W6.heap.size ∧ W2.heap.size ≤ W6.heap.size ∧ w.heap.size ≤ W2.heap.size by rw [hW6, sets_size]; omega)
      have HL5 := Lib.hid hl5
      have rg6 := ST6.out.range
      have co5 := OX6.out.cell 5 _ (RO.out.bool 5 rfl).1
      rw [ht] at co5
      have rgo := OX6.out.range
      rw [hW6] at rg6 co5 rgo
      have RG6 := Lib.hid rg6
      have RGO6 := Lib.hid rgo
      have HW6 := Lib.hid hW6
      clear h4 h5 st5 rs5 ox5 q0 q1 q2 hl5 hl53 rg6 rgo s5 u5 hW6
      have c13 := ST6.out.cell 13 _ (S6.out.rd.int 13 rfl).1
      have c14 := ST6.out.cell 14 _ (S6.out.rd.int 14 rfl).1
      have e13 : dint (mvR ds id) 13 = dint ds 13 := dint_of (removeT_keep _ _ 13 (by omega))
      have e14 : dint (mvR ds id) 14 = dint ds 14 := dint_of (removeT_keep _ _ 14 (by omega))
      rw [e13, HW6.out] at c13
      rw [e14, HW6.out] at c14
      have HMV := Lib.hid (moved_prog oc (findO id (dxs ds 1)) (dint ds 13) 0 control (dint ds 14) W6 (RO.out.any flatObject))
      obtain ⟨ml, hml⟩ : ∃ ml, ml = mvC ds id 0 control := ⟨_, rfl⟩
      have hml2 : movedC (findO id (dxs ds 1)) (dint ds 13) 0 control (dint ds 14) = ml := hml.symm
      rw [hml2] at HMV
      have HML := Lib.hid hml
      clear e13 e14 hml hml2
      go_wp2_with (first | ((with_reducible refine wpList_store_cs rfl 30 (.tmp 5) (.tmp 37) rfl w.heap.size 0 cs5 ?_ ?_ TH5.out HI5.out HO5.out ?_); rfl; rfl) | ((with_reducible refine wpList_load_mid rfl 47 (.tmp 12) rfl w1.heap.size 0 ?_ oc _ RGO6.out Try.underlying47 rfl HIO.out ?_); rfl))
      rw [← HW6.out]
      refine HMV.out.mono ?_
      rintro e w7 ⟨rfl, b7⟩
      clear c13 c14 co5
      have hmn : ml.length = 19 := by rw [HML.out]; rfl
      have h6 := HS6.out
      have h7 := b7.size
      obtain ⟨W7, hW7⟩ : ∃ W, W = w7.alloc (.cells #[.int .i64 0, .int .i64 0, .int .i64 0, .int .i64 0, .int .i64 0, .bool false, .bool false, .bool false, .bool false, .int .i64 0, .int .i64 0, .int .i64 0, .int .i64 0, .int .i64 0, .int .i64 0, .int .i64 0, .bool false, .int .i64 0, .int .i64 0] 47) := ⟨_, rfl⟩
      have mz : Bx W7 w7.heap.size 47 zObjC.1 := by rw [hW7]; exact Bx.new w7 zObjC.1 _
      have b7' : Below w7.heap.size w7 W7 := by rw [hW7]; exact (Below.refl _ _).alloc (Nat.le_refl _) _
      have ht7 : W7.there w7.heap.size 0 ml.length := by rw [hmn]; exact mz.there
      rw [hW7] at ht7
      have THM := Lib.hid ht7
      have HIM := Lib.hid (show (Try.prog.info? 47).map (·.size) = some ml.length by rw [infoObject, hmn])
      have hmr : RdL (fun _ => False) 0 w7 kObject ml ((mvC ds id 0 control).map .lit) := by rw [HML.out]; exact movedC_rd _ _ _ _ _ _
      have HOM := Lib.hid hmr.one
      obtain ⟨W8, hW8⟩ : ∃ W, W = W7.setCells w7.heap.size 0 ml := ⟨_, rfl⟩
      have mx8 : Bx W8 w7.heap.size 47 ml := by rw [hW8]; exact mz.setAll ml hmn
      have b8 : Below W6.heap.size W6 W8 := by rw [hW8]; exact below_sets _ _ _ (b7.trans (b7'.mono h7)) _ h7
      obtain ⟨ρ8, s8, hnone8, hsame8⟩ := S6.out.new b8
      have hm8 : w7.heap.size < W8.heap.size := mx8.lt
      have ST8 := Lib.hid (ST6.out.old b8)
      have RS8 := Lib.hid (RS6.out.old b8)
      have MX8 := Lib.hid mx8
      have HP := Lib.hid (put_prog ρ8 L W2.heap.size cs5 (mvR ds id) ml _ W8 s8 (hmr.any flatObject) (by omega) (by omega))
      have N8 := Lib.hid (show ρ8 w.heap.size = .none ∧ ρ8 (w.heap.size + 1) = .none ∧ ρ8 w7.heap.size = .none from ⟨(hsame8 _ (by omega)).trans N6.out.1, (hsame8 _ (by omega)).trans N6.out.2.1, hnone8 _ h7⟩)
      have FR8 := Lib.hid (show ∀ b, b < w.heap.size → ρ8 b ≠ .none → F b from fun b hb hn => FR6.out b hb fun e => hn ((hsame8 b (by omega)).trans e))
      have BEL8 := Lib.hid (BEL6.out.trans (b8.mono (by omega)))
      have HS8 := Lib.hid (show w.heap.size + 2 ≤ w7.heap.size ∧ w7.heap.size < W8.heap.size ∧ W2.heap.size ≤ W8.heap.size ∧ w.heap.size ≤ W2.heap.size by omega)
      have rg8 := ST8.out.range
      have rgm := mx8.range
      rw [hW8, hW7] at rg8 rgm
      have RG8 := Lib.hid rg8
      have RGM := Lib.hid rgm
      have HW8 := Lib.hid (show W8 = _ by rw [hW8, hW7])
      clear hmn h6 h7 b7 hW7 mz b7' ht7 hmr hW8 mx8 b8 s8 hnone8 hsame8 hm8 rg8 rgm
      go_wp2_with (first | ((with_reducible refine wpList_store_cs rfl 47 (.tmp 14) (.tmp 56) rfl w7.heap.size 0 ml ?_ ?_ THM.out HIM.out HOM.out ?_); rfl; rfl) | ((with_reducible refine wpList_load_mid rfl 30 (.tmp 5) rfl w.heap.size 0 ?_ cs5 _ RG8.out Try.underlying30 rfl HI5.out ?_); rfl) | ((with_reducible refine wpList_load_mid rfl 47 (.tmp 14) rfl w7.heap.size 0 ?_ ml _ RGM.out Try.underlying47 rfl HIM.out ?_); rfl))
      rw [← HW8.out]
      refine HP.out.mono ?_
      rintro e w9 ⟨cs9, rfl, ρ9, s9, u9⟩
      have s9 : OwnS ρ9 (L + 128) W2.heap.size w9 cs9 (mvP ds id 0 control) := s9
      have h8 := HS8.out
      have h9 := u9.size
      have st9 := ST8.out.same (u9.keep _ (by omega) (.inr (.inl N8.out.1)))
      have rs9 := RS8.out.same (u9.keep _ (by omega) (.inr (.inl N8.out.2.1)))
      have mx9 := MX8.out.same (u9.keep _ (by omega) (.inr (.inl N8.out.2.2)))
      have q0 : ρ9 w.heap.size = .none := (u9.role _ (by omega)).trans N8.out.1
      have q1 : ρ9 (w.heap.size + 1) = .none := (u9.role _ (by omega)).trans N8.out.2.1
      have q2 : ρ9 w7.heap.size = .none := (u9.role _ (by omega)).trans N8.out.2.2
      have FR9 := Lib.hid (show ∀ b, b < w.heap.size → ρ9 b ≠ .none → F b from fun b hb hn => FR8.out b hb fun e => hn ((u9.role b (by omega)).trans e))
      have hl9 := s9.len.1
      have hl95 : cs9.length = cs5.length := by rw [hl9, HL5.out]
      have TH9 := Lib.hid (show w9.there w.heap.size 0 cs9.length by rw [hl95]; exact st9.there)
      have HI9 := Lib.hid (show (Try.prog.info? 30).map (·.size) = some cs9.length by rw [infoState, hl9])
      have HO9 := Lib.hid s9.rd.one
      obtain ⟨W10, hW10⟩ : ∃ W, W = w9.setCells w.heap.size 0 cs9 := ⟨_, rfl⟩
      have st10 : Bx W10 w.heap.size 30 cs9 := by rw [hW10]; exact st9.setAll cs9 hl95
      have s10 : OwnS ρ9 (L + 128) W2.heap.size W10 cs9 (mvP ds id 0 control) := by rw [hW10]; exact s9.asides _ 0 cs9 q0
      have e13 : dint (mvP ds id 0 control) 13 = dint ds 13 := (dint_ne _ _ _ _ (by omega)).trans (dint_of (removeT_keep _ _ 13 (by omega)))
      have e14 : dint (mvP ds id 0 control) 14 = dint ds 14 := (dint_ne _ _ _ _ (by omega)).trans (dint_of (removeT_keep _ _ 14 (by omega)))
      have c13 := st10.cell 13 _ (s10.rd.int 13 rfl).1
      have c14 := st10.cell 14 _ (s10.rd.int 14 rfl).1
      have f13 := st10.frozen 13
      have f14 := st10.frozen 14
      rw [e13, hW10] at c13
      rw [e14, hW10] at c14
      rw [hW10] at f13 f14
      obtain ⟨cs12, hcs12⟩ : ∃ l, l = (cs9.set 13 (.int .i64 (dint ds 13 + 1))).set 14 (.int .i64 (dint ds 14 + 1)) := ⟨_, rfl⟩
      obtain ⟨W12, hW12⟩ : ∃ W, W = (W10.setCell ⟨w.heap.size, 13, none⟩ (.int .i64 (dint ds 13 + 1))).setCell ⟨w.heap.size, 14, none⟩ (.int .i64 (dint ds 14 + 1)) := ⟨_, rfl⟩
      have st12 : Bx W12 w.heap.size 30 cs12 := by rw [hW12, hcs12]; exact (st10.set 13 _).set 14 _
      have rs12 : Bx W12 (w.heap.size + 1) 30 zsC := by rw [hW12, hW10]; exact ((rs9.same (heap_sets _ _ _ _ _ (by omega))).other 13 _ (by omega)).other 14 _ (by omega)
      have mx12 : Bx W12 w7.heap.size 47 ml := by rw [hW12, hW10]; exact ((mx9.same (heap_sets _ _ _ _ _ (by omega))).other 13 _ (by omega)).other 14 _ (by omega)
      have s12 : OwnS ρ9 (L + 128) W2.heap.size W12 cs12 (mvN ds id 0 control) := by
       rw [hW12, hcs12]
       exact (((s10.aside w.heap.size 13 (.int .i64 (dint ds 13 + 1)) q0).setLit 13 (by omega) .int rfl (.int .i64 (dint ds 13 + 1)) ⟨_, rfl⟩).aside w.heap.size 14 (.int .i64 (dint ds 14 + 1)) q0).setLit 14 (by omega) .int rfl (.int .i64 (dint ds 14 + 1)) ⟨_, rfl⟩
      have bel12 : Below w.heap.size w W12 := by
       rw [hW12, hW10]
       exact below_set (below_set (below_sets _ _ _ (u9.below BEL8.out h8.2.2.2 (by omega)) _ (Nat.le_refl _)) _ _ _ (Nat.le_refl _)) _ _ _ (Nat.le_refl _)
      have hz12 : W12.heap.size = w9.heap.size := by rw [hW12, hW10]; simp only [World.setCell, Array.size_modify, sets_size]
      have co2 := mx12.cell 2 (.int .i64 (mvO ds id)) (by rw [HML.out]; rfl)
      rw [hW12, hW10] at co2
      obtain ⟨ao, nn, cc, hc0, hn, hnl, hx⟩ := s12.at_list w.heap.size st12 q0 0 (mvO ds id)
      have hplb : (dxs (mvN ds id 0 control) 0).length * 152 ≤ L + 128 := by obtain ⟨_, _, _, pl⟩ := s12.ply; exact pl.bytes
      have HLS := Lib.hid (list_prog w.heap.size ao nn cc 0 (mvO ds id) W12 (st12.cell 0 _ hc0) hn (by omega))
      have ST12 := Lib.hid st12
      have RS12 := Lib.hid rs12
      have MX12 := Lib.hid mx12
      have S12 := Lib.hid s12
      have BEL12 := Lib.hid bel12
      have N12 := Lib.hid (show ρ9 w.heap.size = .none ∧ ρ9 (w.heap.size + 1) = .none ∧ ρ9 w7.heap.size = .none from ⟨q0, q1, q2⟩)
      have HS12 := Lib.hid (show w.heap.size + 2 ≤ w7.heap.size ∧ w7.heap.size < W12.heap.size ∧ W2.heap.size ≤ W12.heap.size ∧ w.heap.size ≤ W2.heap.size by omega)
      have HW12 := Lib.hid (show W12 = _ by rw [hW12, hW10])
      clear h8 h9 st9 rs9 mx9 q0 q1 q2 hl9 hl95 hW10 st10 s10 e13 e14 hcs12 hW12 st12 rs12 mx12 s12 bel12 hz12 hc0 hn hnl hplb s9 u9
      rcases hx with ⟨hp, _, hset⟩ | ⟨ab, oo, v, hp, A⟩
      ·unfold listPtr at hp; simp at hp
      ·have hzb : ((0 : Int) == 2 && !bottom) = false := rfl
       rw [hp] at HLS
       obtain ⟨lx, hlx⟩ : ∃ lx, lx = listT (mvN ds id 0 control) 0 (mvO ds id) := ⟨_, rfl⟩
       have AL := Lib.hid A
       obtain ⟨r, ow⟩ := A.own
       rw [← hlx] at ow
       obtain ⟨es, row, hes⟩ := ow.row
       have hby := ow.bytes
       have HBY := Lib.hid hby
       have hel := hes.len
       obtain ⟨pu, nu, ku, rfl⟩ := own_sl row
       obtain ⟨hnu, _⟩ := own_cap row
       subst hnu
       obtain ⟨Wd, hWd⟩ : ∃ W, W = W12.drew := ⟨_, rfl⟩
       obtain ⟨WA, hWA⟩ : ∃ W, W = Wd.alloc (.cells #[.int .i64 (dint ds 13)] 3) := ⟨_, rfl⟩
       have bd : Below W12.heap.size W12 Wd := by rw [hWd]; exact (Below.refl _ _).drew
       have ba : Below W12.heap.size W12 WA := by rw [hWA]; exact bd.alloc bd.size _
       have hzd : Wd.heap.size = W12.heap.size := by rw [hWd]; rfl
       have hza : WA.heap.size = W12.heap.size + 1 := by rw [hWA]; simp [hzd]
       have cad := (AL.out.there Wd (below_grown bd)).1
       have caa := (AL.out.there WA (below_grown ba)).1
       have MXD := Lib.hid (MX12.out.old bd)
       have MXA := Lib.hid (MX12.out.old ba)
       have bn : Bx WA Wd.heap.size 3 [.int .i64 (dint ds 13)] := by rw [hWA]; exact Bx.new Wd _ _
       obtain ⟨y, hy, hesy⟩ := snoc_es hes (dint ds 13)
       have rowA := own_block row ba
       have HLV := Lib.hid (show mvL ds id 0 control bottom = setT (mvN ds id 0 control) 0 (mvO ds id) (lx ++ [[dI (dint ds 13)]]) by unfold mvL; rw [hzb, ← hlx]; rfl)
       have HES := Lib.hid hesy
       have HY := Lib.hid hy
       have HEL := Lib.hid hel
       have ROWA := Lib.hid rowA
       have hBS : W2.heap.size ≤ WA.heap.size := by have := HS12.out; omega
       have BA := Lib.hid ba
       have HZA := Lib.hid hza
       have HZD := Lib.hid hzd
       have HC0 := Lib.hid (show ml[0]? = some (.int .i64 (dint ds 13)) by rw [HML.out]; rfl)
       have HBS := Lib.hid hBS
       have HWD := Lib.hid hWd
       have HWA := Lib.hid hWA
       obtain ⟨zi, hEi⟩ := elemint
       have HEI := Lib.hid hEi
       have HBG := Lib.hid (show (es.length + 1) * 8 ≤ 140737488355328 by omega)
       have HMX := Lib.hid (show es.length + 1 ≤ maxLen by simp only [maxLen]; omega)
       have HCN := Lib.hid (show ∀ (j : Nat) (u : Value), ([.int .i64 (dint ds 13)] : List Value)[j]? = some u → WA.cell? (Addr.add ⟨Wd.heap.size, 0, none⟩ j) = some u from fun j u hj => by rw [Addr.add_lit, Nat.zero_add]; exact bn.cell j u hj)
       clear hEi
       clear hWd hWA hp A ow row hes hby hel bd ba hzd hza bn hy hesy rowA hBS hlx
       go_wp2_with ((with_reducible refine wpList_store_cs rfl 30 (.tmp 5) (.tmp 59) rfl w.heap.size 0 cs9 ?_ ?_ TH9.out HI9.out HO9.out ?_); rfl; rfl)
       rw [← HW12.out]
       refine HLS.out.mono ?_
       rintro e w13 ⟨rfl, rfl⟩
       clear c13 c14 f13 f14 co2
       go_wp2_with fail
       refine wp_region_noPanic ?_
       refine wp_region_held_drew (S := fun wS => Bx wS w7.heap.size 47 ml) (by kernel_rfl) (by rw [← HWD.out]; exact MXD.out) (fun hHeld => ?_)
       rw [← HWD.out]
       refine wpAnyH_take (i := 0) (oi := ?oiT17a0x) (v := ?vT17a0x) ?hiT17a0x (by kernel_rfl) (by kernel_rfl) (by kernel_rfl) ?hqT17a0x ?hyT17a0x (by assumption) ?restT17a0x
       case hiT17a0x => (simp only [List.getElem?_toArray, List.getElem?_cons_zero] <;> rfl)
       case hqT17a0x => exact fun _ _ _ h => h
       case hyT17a0x => exact Or.inl ⟨by rfl, by (intro wS hSw; have s5 := Bx.cell hSw 0 _ HC0.out; go_simp; try with_reducible rfl)⟩
       try simp only [Act.put, List.setIfInBounds_toArray, List.set_cons_zero, List.set_cons_succ]
       refine wpAnyH_take (i := 1) (oi := ?oiT17a1x) (v := ?vT17a1x) ?hiT17a1x (by kernel_rfl) (by kernel_rfl) (by kernel_rfl) ?hqT17a1x ?hyT17a1x (by assumption) ?restT17a1x
       case hiT17a1x => (simp only [List.getElem?_toArray, List.getElem?_cons_succ, List.getElem?_cons_zero] <;> rfl)
       case hqT17a1x => exact fun _ _ _ h => h
       case hyT17a1x => exact Or.inl ⟨by rfl, by (intro wS hSw; have s5 := Bx.cell hSw 0 _ HC0.out; go_simp; try with_reducible rfl)⟩
       try simp only [Act.put, List.setIfInBounds_toArray, List.set_cons_zero, List.set_cons_succ]
       refine wpAnyH_take (i := 2) (oi := ?oiT17a2x) (v := ?vT17a2x) ?hiT17a2x (by kernel_rfl) (by kernel_rfl) (by kernel_rfl) ?hqT17a2x ?hyT17a2x (by assumption) ?restT17a2x
       case hiT17a2x => (simp only [List.getElem?_toArray, List.getElem?_cons_succ, List.getElem?_cons_zero] <;> rfl)
       case hqT17a2x => exact fun _ _ _ h => h
       case hyT17a2x => exact Or.inl ⟨by rfl, by (intro wS hSw; have s5 := Bx.cell hSw 0 _ HC0.out; go_simp; try with_reducible rfl)⟩
       try simp only [Act.put, List.setIfInBounds_toArray, List.set_cons_zero, List.set_cons_succ]
       refine wpAnyH_take (i := 4) (oi := ?oiT17a4x) (v := ?vT17a4x) ?hiT17a4x (by kernel_rfl) (by kernel_rfl) (by kernel_rfl) ?hqT17a4x ?hyT17a4x (by assumption) ?restT17a4x
       case hiT17a4x => (simp only [List.getElem?_toArray, List.getElem?_cons_succ, List.getElem?_cons_zero] <;> rfl)
       case hqT17a4x => exact fun _ _ _ h => h
       case hyT17a4x => exact Or.inl ⟨by rfl, by (intro wS hSw; have s5 := Bx.cell hSw 0 _ HC0.out; go_simp; try with_reducible rfl)⟩
       try simp only [Act.put, List.setIfInBounds_toArray, List.set_cons_zero, List.set_cons_succ]
       refine wpAnyH_take (i := 5) (oi := ?oiT17a5x) (v := ?vT17a5x) ?hiT17a5x (by kernel_rfl) (by kernel_rfl) (by kernel_rfl) ?hqT17a5x ?hyT17a5x (by assumption) ?restT17a5x
       case hiT17a5x => (simp only [List.getElem?_toArray, List.getElem?_cons_succ, List.getElem?_cons_zero] <;> rfl)
       case hqT17a5x => exact fun _ _ _ h => h
       case hyT17a5x => exact Or.inl ⟨by rfl, by (intro wS hSw; have s5 := Bx.cell hSw 0 _ HC0.out; go_simp; try with_reducible rfl)⟩
       try simp only [Act.put, List.setIfInBounds_toArray, List.set_cons_zero, List.set_cons_succ]
       refine wpAnyH_ready (rs := [3, 6]) (by kernel_rfl) (by simp) ?_
       refine AllReadyH.cons (o := ?oaT17a) ?haT17a (fun K hK => ?saT17a) (AllReadyH.cons (o := ?obT17a) ?hbT17a (fun K hK => ?sbT17a) AllReadyH.nil)
       case haT17a => (simp only [List.getElem?_toArray, List.getElem?_cons_succ, List.getElem?_cons_zero] <;> rfl)
       case hbT17a => (simp only [List.getElem?_toArray, List.getElem?_cons_succ, List.getElem?_cons_zero] <;> rfl)
       case saT17a =>
        go_simp
        refine hK.out _ _ MXD.out (fun hHeld3 => ?_)
        clear hK K
        try simp only [Act.put, List.setIfInBounds_toArray, List.set_cons_zero, List.set_cons_succ]
        refine wpAnyH_ready (rs := [6]) (by kernel_rfl) (by simp) ?_
        refine AllReadyH.cons (o := ?oiT18a6x) ?hiT18a6x (fun K hK => ?hsT18a6x) AllReadyH.nil
        case hiT18a6x => (simp only [List.getElem?_toArray, List.getElem?_cons_succ, List.getElem?_cons_zero] <;> rfl)
        go_simp
        rw [← HWA.out]
        refine hK.out _ _ MXA.out (fun hHeld6 => ?_)
        clear hK K
        try simp only [Act.put, List.setIfInBounds_toArray, List.set_cons_zero, List.set_cons_succ]
        refine wpAnyH_ready (rs := [7]) (by kernel_rfl) (by simp) ?_
        refine AllReadyH.cons (o := ?oiT18a7x) ?hiT18a7x (fun K hK => ?hsT18a7x) AllReadyH.nil
        case hiT18a7x => (simp only [List.getElem?_toArray, List.getElem?_cons_succ, List.getElem?_cons_zero] <;> rfl)
        refine step_append_own2 rfl (.tmp 92) (.tmp 95) 24 rfl W2.heap.size HEI.out (.slice pu es.length ku) es.length (es.flatMap Subtype.val) rfl ROWA.out ⟨Wd.heap.size, 0, none⟩ 1 1 [.int .i64 (dint ds 13)] rfl rfl HCN.out (fun u hu => by rw [List.mem_singleton.1 hu]; rfl) HMX.out HBG.out HBS.out (by decide) ?_
        intro v9 w14 own9 gr9 fr9
        obtain ⟨p9, n9, k9, rfl⟩ := own_sl own9
        obtain ⟨ca9, fa9⟩ := AL.out.there w14 (below_grownBy BA.out gr9)
        have O9 := Lib.hid own9
        have G9 := Lib.hid gr9
        have F9 := Lib.hid fr9
        have S9 := Lib.hid (MXA.out.same (gr9.block _ (by have := HS12.out; have := HZA.out; omega) (fun e => AL.out.nb _ N12.out.2.2 e.symm)))
        clear own9 gr9 fr9
        refine hK.out _ _ S9.out (fun hHeld7 => ?_)
        clear hK K
        try simp only [Act.put, List.setIfInBounds_toArray, List.set_cons_zero, List.set_cons_succ]
        refine wpAnyH_take (i := 8) (oi := ?oiT18a8x) (v := ?vT18a8x) ?hiT18a8x (by kernel_rfl) (by kernel_rfl) (by kernel_rfl) ?hqT18a8x ?hyT18a8x (by assumption) ?restT18a8x
        case hiT18a8x => (simp only [List.getElem?_toArray, List.getElem?_cons_succ, List.getElem?_cons_zero] <;> rfl)
        case hqT18a8x => exact fun _ _ _ h => h
        case hyT18a8x => exact Or.inl ⟨by rfl, by (intro wS hSw; have s5 := Bx.cell hSw 0 _ HC0.out; go_simp; try with_reducible rfl)⟩
        try simp only [Act.put, List.setIfInBounds_toArray, List.set_cons_zero, List.set_cons_succ]
        refine wpAnyH_ready (rs := [9]) (by kernel_rfl) (by simp) ?_
        refine AllReadyH.cons (o := ?oiT18a9x) ?hiT18a9x (fun K hK => ?hsT18a9x) AllReadyH.nil
        case hiT18a9x => (simp only [List.getElem?_toArray, List.getElem?_cons_succ, List.getElem?_cons_zero] <;> rfl)
        go_simp
        have h12 := HS12.out
        obtain ⟨ρF, csF, sF, xF, hro, hno, hu⟩ := AL.out.put w14 (L + 128 + 8) (.slice p9 n9 k9) (lx ++ [[dI (dint ds 13)]]) (by omega) (below_grownBy BA.out G9.out) ⟨es ++ [y], (by rw [List.length_append, List.flatMap_append, show [y].flatMap Subtype.val = [.int .i64 (dint ds 13)] by rw [List.flatMap_cons, HY.out]; rfl]; exact O9.out), HES.out.frame (by omega) (Nat.le_refl _) (fun _ _ _ => rfl) (fun _ h _ => h)⟩ (by simp only [List.length_append, List.length_singleton]; have := HBY.out; omega) (fun g hg => by
         rcases F9.out with e | e
         ·exact .inl (by rw [← hg, e])
         ·rw [e] at hg
          cases hg
          exact .inr (by have := HZA.out; omega))
        obtain ⟨WF, hWF⟩ : ∃ W, W = w14.setCell ⟨ab, oo, none⟩ (.slice p9 n9 k9) := ⟨_, rfl⟩
        rw [← hWF] at sF xF hno hu
        have SF_ := Lib.hid (show OwnS ρF (L + 128 + 8) W2.heap.size WF csF (mvL ds id 0 control bottom) by rw [HLV.out]; exact sF)
        have STF := Lib.hid xF
        have RSF := Lib.hid (RS12.out.same (hno _ (by omega) (by omega) N12.out.2.1))
        have MXF := Lib.hid (MX12.out.same (hno _ (by omega) (by omega) N12.out.2.2))
        have BELF := Lib.hid ((hu w.heap.size (by omega) (Nat.le_refl _)).below BEL12.out h12.2.2.2 (Nat.le_refl _))
        have NF := Lib.hid ((hro _ (by omega)).trans N12.out.2.1)
        have FRF := Lib.hid (show ∀ b, b < w.heap.size → ρF b ≠ .none → F b from fun b hb hn => FR9.out b hb fun e => hn ((hro b (by omega)).trans e))
        have HWF := Lib.hid hWF
        have SX := Lib.hid (show Bx (w14.setCell ⟨ab, oo, none⟩ (.slice p9 n9 k9)) w7.heap.size 47 ml from by rw [← hWF]; exact MXF.out)
        clear h12 sF xF hro hno hu hWF ca9 fa9
        refine hK.out _ _ SX.out (fun hHeld9 => ?_)
        clear hK K
        try simp only [Act.put, List.setIfInBounds_toArray, List.set_cons_zero, List.set_cons_succ]
        refine wpAnyH_done (by kernel_rfl) ?_ _
        refine NoPanic.normal ?_
        rw [← HWF.out]
        go_wp2_with fail
        have h12 := HS12.out
        have hlF := SF_.out.len.1
        have SS0 := Lib.hid (show Bx WF w.heap.size 30 csF ∧ Bx WF w7.heap.size 47 ml from ⟨STF.out, MXF.out⟩)
        have HIF := Lib.hid (show (Try.prog.info? 30).map (·.size) = some csF.length by rw [infoState, hlF])
        have THF := Lib.hid (show WF.drew.there (w.heap.size + 1) 0 csF.length by rw [hlF]; exact RSF.out.drew.there)
        have HOF := Lib.hid SF_.out.rd.one
        have BE := Lib.hid (RSF.out.drew.setAll csF hlF)
        have SE := Lib.hid ((SF_.out.old (Below.refl _ _).drew).asides (w.heap.size + 1) 0 csF NF.out)
        have BF := Lib.hid (below_sets csF 0 WF.drew BELF.out.drew (w.heap.size + 1) (Nat.le_succ _))
        have SS1 := Lib.hid (show Bx (WF.drew.setCells (w.heap.size + 1) 0 csF) w.heap.size 30 csF ∧ Bx (WF.drew.setCells (w.heap.size + 1) 0 csF) w7.heap.size 47 ml from ⟨STF.out.drew.same (heap_sets _ _ _ _ _ (by omega)), MXF.out.drew.same (heap_sets _ _ _ _ _ (by omega))⟩)
        have HC0 := Lib.hid (show ml[0]? = some (.int .i64 (dint ds 13)) by rw [HML.out]; rfl)
        clear h12 hlF
        refine wp_region_noPanic ?_
        refine wp_region_held_drew (S := fun wS => Bx wS w.heap.size 30 csF ∧ Bx wS w7.heap.size 47 ml) (by kernel_rfl) (SS0.out) (fun hHeld => ?_)
        refine wpAnyH_take (i := 0) (oi := ?oiT20a0x) (v := .agg csF.toArray) ?hiT20a0x (by kernel_rfl) (by kernel_rfl) (by kernel_rfl) ?hqT20a0x ?hyT20a0x (by assumption) ?restT20a0x
        case hiT20a0x => (simp only [List.getElem?_toArray, List.getElem?_cons_zero] <;> rfl)
        case hqT20a0x => exact fun _ _ _ h => h
        case hyT20a0x => exact (yieldsIf_load_mid (by rfl) 30 (.tmp 5) rfl w.heap.size 0 (by simp [Act.eval]) csF _ (fun _ h => Bx.range h.1) Try.underlying30 rfl HIF.out)
        try simp only [Act.put, List.setIfInBounds_toArray, List.set_cons_zero, List.set_cons_succ]
        refine wpAnyH_take (i := 1) (oi := ?oiT20a1x) (v := ?vT20a1x) ?hiT20a1x (by kernel_rfl) (by kernel_rfl) (by kernel_rfl) ?hqT20a1x ?hyT20a1x (by assumption) ?restT20a1x
        case hiT20a1x => (simp only [List.getElem?_toArray, List.getElem?_cons_succ, List.getElem?_cons_zero] <;> rfl)
        case hqT20a1x => exact fun _ _ _ h => h
        case hyT20a1x => exact Or.inl ⟨by rfl, by (intro wS hSw; have s5 := Bx.cell hSw.2 0 _ HC0.out; go_simp; try with_reducible rfl)⟩
        try simp only [Act.put, List.setIfInBounds_toArray, List.set_cons_zero, List.set_cons_succ]
        refine wpAnyH_take (i := 2) (oi := ?oiT20a2x) (v := ?vT20a2x) ?hiT20a2x (by kernel_rfl) (by kernel_rfl) (by kernel_rfl) ?hqT20a2x ?hyT20a2x (by assumption) ?restT20a2x
        case hiT20a2x => (simp only [List.getElem?_toArray, List.getElem?_cons_succ, List.getElem?_cons_zero] <;> rfl)
        case hqT20a2x => exact fun _ _ _ h => h
        case hyT20a2x => exact Or.inl ⟨by rfl, by (intro wS hSw; have s5 := Bx.cell hSw.2 0 _ HC0.out; go_simp; try with_reducible rfl)⟩
        try simp only [Act.put, List.setIfInBounds_toArray, List.set_cons_zero, List.set_cons_succ]
        refine wpAnyH_ready (rs := [3]) (by kernel_rfl) (by simp) ?_
        refine AllReadyH.cons (o := ?oiT20a3x) ?hiT20a3x (fun K hK => ?hsT20a3x) AllReadyH.nil
        case hiT20a3x => (simp only [List.getElem?_toArray, List.getElem?_cons_succ, List.getElem?_cons_zero] <;> rfl)
        refine step_store_mid rfl 30 (.tmp 10) (.tmp 98) rfl (w.heap.size + 1) 0 csF (by simp [Act.eval]) (by simp [Act.eval]) THF.out HIF.out HOF.out ?_
        refine hK.out _ _ SS1.out (fun hHeld3 => ?_)
        clear hK K
        try simp only [Act.put]
        refine wpAnyH_take (i := 4) (oi := ?oiT20a4x) (v := ?vT20a4x) ?hiT20a4x (by kernel_rfl) (by kernel_rfl) (by kernel_rfl) ?hqT20a4x ?hyT20a4x (by assumption) ?restT20a4x
        case hiT20a4x => (simp only [List.getElem?_toArray, List.getElem?_cons_succ, List.getElem?_cons_zero] <;> rfl)
        case hqT20a4x => exact fun _ _ _ h => h
        case hyT20a4x => exact Or.inl ⟨by rfl, by (intro wS hSw; have s5 := Bx.cell hSw.2 0 _ HC0.out; go_simp; try with_reducible rfl)⟩
        try simp only [Act.put, List.setIfInBounds_toArray, List.set_cons_zero, List.set_cons_succ]
        refine wpAnyH_done (by kernel_rfl) ?_ _
        refine NoPanic.normal ?_
        go_wp2_with fail
        refine bodyPost_ret (results_cs2 Try.results15 (w.heap.size + 1) ?_ (.int .i64 (dint ds 13)) ?_ csF _ (Bx.range BE.out) Try.underlying30 rfl HIF.out) rfl ?_
        ·rfl
        ·rfl
        ·exact ⟨csF, _, rfl, SE.out.rd, BF.out, FRF.out⟩
       case sbT17a =>
        go_simp
        rw [← HWA.out]
        refine hK.out _ _ MXA.out (fun hHeld6 => ?_)
        clear hK K
        try simp only [Act.put, List.setIfInBounds_toArray, List.set_cons_zero, List.set_cons_succ]
        refine wpAnyH_ready (rs := [3]) (by kernel_rfl) (by simp) ?_
        refine AllReadyH.cons (o := ?oiT19a3x) ?hiT19a3x (fun K hK => ?hsT19a3x) AllReadyH.nil
        case hiT19a3x => (simp only [List.getElem?_toArray, List.getElem?_cons_succ, List.getElem?_cons_zero] <;> rfl)
        go_simp
        refine hK.out _ _ MXA.out (fun hHeld3 => ?_)
        clear hK K
        try simp only [Act.put, List.setIfInBounds_toArray, List.set_cons_zero, List.set_cons_succ]
        refine wpAnyH_ready (rs := [7]) (by kernel_rfl) (by simp) ?_
        refine AllReadyH.cons (o := ?oiT19a7x) ?hiT19a7x (fun K hK => ?hsT19a7x) AllReadyH.nil
        case hiT19a7x => (simp only [List.getElem?_toArray, List.getElem?_cons_succ, List.getElem?_cons_zero] <;> rfl)
        refine step_append_own2 rfl (.tmp 92) (.tmp 95) 24 rfl W2.heap.size HEI.out (.slice pu es.length ku) es.length (es.flatMap Subtype.val) rfl ROWA.out ⟨Wd.heap.size, 0, none⟩ 1 1 [.int .i64 (dint ds 13)] rfl rfl HCN.out (fun u hu => by rw [List.mem_singleton.1 hu]; rfl) HMX.out HBG.out HBS.out (by decide) ?_
        intro v9 w14 own9 gr9 fr9
        obtain ⟨p9, n9, k9, rfl⟩ := own_sl own9
        obtain ⟨ca9, fa9⟩ := AL.out.there w14 (below_grownBy BA.out gr9)
        have O9 := Lib.hid own9
        have G9 := Lib.hid gr9
        have F9 := Lib.hid fr9
        have S9 := Lib.hid (MXA.out.same (gr9.block _ (by have := HS12.out; have := HZA.out; omega) (fun e => AL.out.nb _ N12.out.2.2 e.symm)))
        clear own9 gr9 fr9
        refine hK.out _ _ S9.out (fun hHeld7 => ?_)
        clear hK K
        try simp only [Act.put, List.setIfInBounds_toArray, List.set_cons_zero, List.set_cons_succ]
        refine wpAnyH_take (i := 8) (oi := ?oiT19a8x) (v := ?vT19a8x) ?hiT19a8x (by kernel_rfl) (by kernel_rfl) (by kernel_rfl) ?hqT19a8x ?hyT19a8x (by assumption) ?restT19a8x
        case hiT19a8x => (simp only [List.getElem?_toArray, List.getElem?_cons_succ, List.getElem?_cons_zero] <;> rfl)
        case hqT19a8x => exact fun _ _ _ h => h
        case hyT19a8x => exact Or.inl ⟨by rfl, by (intro wS hSw; have s5 := Bx.cell hSw 0 _ HC0.out; go_simp; try with_reducible rfl)⟩
        try simp only [Act.put, List.setIfInBounds_toArray, List.set_cons_zero, List.set_cons_succ]
        refine wpAnyH_ready (rs := [9]) (by kernel_rfl) (by simp) ?_
        refine AllReadyH.cons (o := ?oiT19a9x) ?hiT19a9x (fun K hK => ?hsT19a9x) AllReadyH.nil
        case hiT19a9x => (simp only [List.getElem?_toArray, List.getElem?_cons_succ, List.getElem?_cons_zero] <;> rfl)
        go_simp
        have h12 := HS12.out
        obtain ⟨ρF, csF, sF, xF, hro, hno, hu⟩ := AL.out.put w14 (L + 128 + 8) (.slice p9 n9 k9) (lx ++ [[dI (dint ds 13)]]) (by omega) (below_grownBy BA.out G9.out) ⟨es ++ [y], (by rw [List.length_append, List.flatMap_append, show [y].flatMap Subtype.val = [.int .i64 (dint ds 13)] by rw [List.flatMap_cons, HY.out]; rfl]; exact O9.out), HES.out.frame (by omega) (Nat.le_refl _) (fun _ _ _ => rfl) (fun _ h _ => h)⟩ (by simp only [List.length_append, List.length_singleton]; have := HBY.out; omega) (fun g hg => by
         rcases F9.out with e | e
         ·exact .inl (by rw [← hg, e])
         ·rw [e] at hg
          cases hg
          exact .inr (by have := HZA.out; omega))
        obtain ⟨WF, hWF⟩ : ∃ W, W = w14.setCell ⟨ab, oo, none⟩ (.slice p9 n9 k9) := ⟨_, rfl⟩
        rw [← hWF] at sF xF hno hu
        have SF_ := Lib.hid (show OwnS ρF (L + 128 + 8) W2.heap.size WF csF (mvL ds id 0 control bottom) by rw [HLV.out]; exact sF)
        have STF := Lib.hid xF
        have RSF := Lib.hid (RS12.out.same (hno _ (by omega) (by omega) N12.out.2.1))
        have MXF := Lib.hid (MX12.out.same (hno _ (by omega) (by omega) N12.out.2.2))
        have BELF := Lib.hid ((hu w.heap.size (by omega) (Nat.le_refl _)).below BEL12.out h12.2.2.2 (Nat.le_refl _))
        have NF := Lib.hid ((hro _ (by omega)).trans N12.out.2.1)
        have FRF := Lib.hid (show ∀ b, b < w.heap.size → ρF b ≠ .none → F b from fun b hb hn => FR9.out b hb fun e => hn ((hro b (by omega)).trans e))
        have HWF := Lib.hid hWF
        have SX := Lib.hid (show Bx (w14.setCell ⟨ab, oo, none⟩ (.slice p9 n9 k9)) w7.heap.size 47 ml from by rw [← hWF]; exact MXF.out)
        clear h12 sF xF hro hno hu hWF ca9 fa9
        refine hK.out _ _ SX.out (fun hHeld9 => ?_)
        clear hK K
        try simp only [Act.put, List.setIfInBounds_toArray, List.set_cons_zero, List.set_cons_succ]
        refine wpAnyH_done (by kernel_rfl) ?_ _
        refine NoPanic.normal ?_
        rw [← HWF.out]
        go_wp2_with fail
        have h12 := HS12.out
        have hlF := SF_.out.len.1
        have SS0 := Lib.hid (show Bx WF w.heap.size 30 csF ∧ Bx WF w7.heap.size 47 ml from ⟨STF.out, MXF.out⟩)
        have HIF := Lib.hid (show (Try.prog.info? 30).map (·.size) = some csF.length by rw [infoState, hlF])
        have THF := Lib.hid (show WF.drew.there (w.heap.size + 1) 0 csF.length by rw [hlF]; exact RSF.out.drew.there)
        have HOF := Lib.hid SF_.out.rd.one
        have BE := Lib.hid (RSF.out.drew.setAll csF hlF)
        have SE := Lib.hid ((SF_.out.old (Below.refl _ _).drew).asides (w.heap.size + 1) 0 csF NF.out)
        have BF := Lib.hid (below_sets csF 0 WF.drew BELF.out.drew (w.heap.size + 1) (Nat.le_succ _))
        have SS1 := Lib.hid (show Bx (WF.drew.setCells (w.heap.size + 1) 0 csF) w.heap.size 30 csF ∧ Bx (WF.drew.setCells (w.heap.size + 1) 0 csF) w7.heap.size 47 ml from ⟨STF.out.drew.same (heap_sets _ _ _ _ _ (by omega)), MXF.out.drew.same (heap_sets _ _ _ _ _ (by omega))⟩)
        have HC0 := Lib.hid (show ml[0]? = some (.int .i64 (dint ds 13)) by rw [HML.out]; rfl)
        clear h12 hlF
        refine wp_region_noPanic ?_
        refine wp_region_held_drew (S := fun wS => Bx wS w.heap.size 30 csF ∧ Bx wS w7.heap.size 47 ml) (by kernel_rfl) (SS0.out) (fun hHeld => ?_)
        refine wpAnyH_take (i := 0) (oi := ?oiT21a0x) (v := .agg csF.toArray) ?hiT21a0x (by kernel_rfl) (by kernel_rfl) (by kernel_rfl) ?hqT21a0x ?hyT21a0x (by assumption) ?restT21a0x
        case hiT21a0x => (simp only [List.getElem?_toArray, List.getElem?_cons_zero] <;> rfl)
        case hqT21a0x => exact fun _ _ _ h => h
        case hyT21a0x => exact (yieldsIf_load_mid (by rfl) 30 (.tmp 5) rfl w.heap.size 0 (by simp [Act.eval]) csF _ (fun _ h => Bx.range h.1) Try.underlying30 rfl HIF.out)
        try simp only [Act.put, List.setIfInBounds_toArray, List.set_cons_zero, List.set_cons_succ]
        refine wpAnyH_take (i := 1) (oi := ?oiT21a1x) (v := ?vT21a1x) ?hiT21a1x (by kernel_rfl) (by kernel_rfl) (by kernel_rfl) ?hqT21a1x ?hyT21a1x (by assumption) ?restT21a1x
        case hiT21a1x => (simp only [List.getElem?_toArray, List.getElem?_cons_succ, List.getElem?_cons_zero] <;> rfl)
        case hqT21a1x => exact fun _ _ _ h => h
        case hyT21a1x => exact Or.inl ⟨by rfl, by (intro wS hSw; have s5 := Bx.cell hSw.2 0 _ HC0.out; go_simp; try with_reducible rfl)⟩
        try simp only [Act.put, List.setIfInBounds_toArray, List.set_cons_zero, List.set_cons_succ]
        refine wpAnyH_take (i := 2) (oi := ?oiT21a2x) (v := ?vT21a2x) ?hiT21a2x (by kernel_rfl) (by kernel_rfl) (by kernel_rfl) ?hqT21a2x ?hyT21a2x (by assumption) ?restT21a2x
        case hiT21a2x => (simp only [List.getElem?_toArray, List.getElem?_cons_succ, List.getElem?_cons_zero] <;> rfl)
        case hqT21a2x => exact fun _ _ _ h => h
        case hyT21a2x => exact Or.inl ⟨by rfl, by (intro wS hSw; have s5 := Bx.cell hSw.2 0 _ HC0.out; go_simp; try with_reducible rfl)⟩
        try simp only [Act.put, List.setIfInBounds_toArray, List.set_cons_zero, List.set_cons_succ]
        refine wpAnyH_ready (rs := [3]) (by kernel_rfl) (by simp) ?_
        refine AllReadyH.cons (o := ?oiT21a3x) ?hiT21a3x (fun K hK => ?hsT21a3x) AllReadyH.nil
        case hiT21a3x => (simp only [List.getElem?_toArray, List.getElem?_cons_succ, List.getElem?_cons_zero] <;> rfl)
        refine step_store_mid rfl 30 (.tmp 10) (.tmp 98) rfl (w.heap.size + 1) 0 csF (by simp [Act.eval]) (by simp [Act.eval]) THF.out HIF.out HOF.out ?_
        refine hK.out _ _ SS1.out (fun hHeld3 => ?_)
        clear hK K
        try simp only [Act.put]
        refine wpAnyH_take (i := 4) (oi := ?oiT21a4x) (v := ?vT21a4x) ?hiT21a4x (by kernel_rfl) (by kernel_rfl) (by kernel_rfl) ?hqT21a4x ?hyT21a4x (by assumption) ?restT21a4x
        case hiT21a4x => (simp only [List.getElem?_toArray, List.getElem?_cons_succ, List.getElem?_cons_zero] <;> rfl)
        case hqT21a4x => exact fun _ _ _ h => h
        case hyT21a4x => exact Or.inl ⟨by rfl, by (intro wS hSw; have s5 := Bx.cell hSw.2 0 _ HC0.out; go_simp; try with_reducible rfl)⟩
        try simp only [Act.put, List.setIfInBounds_toArray, List.set_cons_zero, List.set_cons_succ]
        refine wpAnyH_done (by kernel_rfl) ?_ _
        refine NoPanic.normal ?_
        go_wp2_with fail
        refine bodyPost_ret (results_cs2 Try.results15 (w.heap.size + 1) ?_ (.int .i64 (dint ds 13)) ?_ csF _ (Bx.range BE.out) Try.underlying30 rfl HIF.out) rfl ?_
        ·rfl
        ·rfl
        ·exact ⟨csF, _, rfl, SE.out.rd, BF.out, FRF.out⟩
     ·by_cases hne5 : z = 5
      ·subst hne5
       have hmv : moveT ds id 5 control bottom = (mvL ds id 5 control bottom, dint ds 13) := by unfold moveT; rw [if_pos ⟨hh, by omega, by omega⟩, if_neg (fun hx => hx.2.2 rfl)]
       rw [hmv]
       dsimp only
       clear hmv
       go_enter Try.func15, Try.ntmps15
       go_wp2_with ((with_reducible refine wpList_load_mid rfl 30 (.tmp 5) rfl w.heap.size 0 ?_ cs _ RG.out Try.underlying30 rfl HI.out ?_); rfl)
       rw [← HW0.out]
       refine HF.out.mono ?_
       rintro e w1 ⟨oc, rfl, ro, b1⟩
       have hs0 := XX.out.size
       have hb1 := b1.size
       have hol := ro.len.1
       rw [kObject_len] at hol
       obtain ⟨W1, hW1⟩ : ∃ W, W = w1.alloc (.cells #[.int .i64 0, .int .i64 0, .int .i64 0, .int .i64 0, .int .i64 0, .bool false, .bool false, .bool false, .bool false, .int .i64 0, .int .i64 0, .int .i64 0, .int .i64 0, .int .i64 0, .int .i64 0, .int .i64 0, .bool false, .int .i64 0, .int .i64 0] 47) := ⟨_, rfl⟩
       have oz : Bx W1 w1.heap.size 47 zObjC.1 := by rw [hW1]; exact Bx.new w1 zObjC.1 _
       have ht := oz.there
       have hz19 : zObjC.1.length = oc.length := by rw [hol]; rfl
       rw [hz19, hW1] at ht
       have THO := Lib.hid ht
       have HIO := Lib.hid (show (Try.prog.info? 47).map (·.size) = some oc.length by rw [infoObject, hol])
       have HOO := Lib.hid ro.one
       obtain ⟨W2, hW2⟩ : ∃ W, W = W1.setCells w1.heap.size 0 oc := ⟨_, rfl⟩
       have ox2 : Bx W2 w1.heap.size 47 oc := by rw [hW2]; exact oz.setAll oc hz19.symm
       have bb : Below W0.heap.size W0 W2 := by
        rw [hW2]
        exact below_sets _ _ _ (b1.trans (show Below W0.heap.size w1 W1 by rw [hW1]; exact (Below.refl _ _).alloc hb1 _)) _ hb1
       have st2 := XX.out.st.old bb
       have rg2 := st2.range
       rw [hW2, hW1] at rg2
       have RG2 := Lib.hid rg2
       have hb2 := bb.size
       have hm1 : w1.heap.size < W2.heap.size := ox2.lt
       have HC := Lib.hid (copy_prog _ L cs ds W2 (HR.out.old bb) (by omega))
       have ST2 := Lib.hid st2
       have RS2 := Lib.hid (XX.out.rs.old bb)
       have OX2 := Lib.hid ox2
       have RO := Lib.hid ro
       have BEL2 := Lib.hid (XX.out.bel.trans (bb.mono XX.out.bel.size))
       have HS2 := Lib.hid (show w.heap.size + 2 ≤ w1.heap.size ∧ w1.heap.size < W2.heap.size by omega)
       have HW2 := Lib.hid (show W2 = _ by rw [hW2, hW1])
       clear hs0 hb1 b1 hol hW1 oz ht hz19 hW2 ox2 bb st2 rg2 hb2 hm1 ro
       go_wp2_with (first | ((with_reducible refine wpList_store_cs rfl 47 (.tmp 12) (.tmp 20) rfl w1.heap.size 0 oc ?_ ?_ THO.out HIO.out HOO.out ?_); rfl; rfl) | ((with_reducible refine wpList_load_mid rfl 30 (.tmp 5) rfl w.heap.size 0 ?_ cs _ RG2.out Try.underlying30 rfl HI.out ?_); rfl))
       rw [← HW2.out]
       refine HC.out.mono ?_
       rintro e w3 ⟨cs3, rfl, ⟨ρ3, s3, hn3⟩, b3⟩
       have h2 := HS2.out
       have hb3 := b3.size
       have st3 := ST2.out.old b3
       have hl3 := s3.len.1
       have hl31 : cs3.length = cs.length := by rw [hl3, HLN.out]
       obtain ⟨W4, hW4⟩ : ∃ W, W = w3.setCells w.heap.size 0 cs3 := ⟨_, rfl⟩
       have TH3 := Lib.hid (show w3.there w.heap.size 0 cs3.length by rw [hl31]; exact st3.there)
       have HI3 := Lib.hid (show (Try.prog.info? 30).map (·.size) = some cs3.length by rw [infoState, hl3])
       have HO3 := Lib.hid s3.rd.one
       have n0 : ρ3 w.heap.size = .none := hn3 _ (by omega) (fun hF => by have := hF.2; omega)
       have n1 : ρ3 (w.heap.size + 1) = .none := hn3 _ (by omega) (fun hF => by have := hF.2; omega)
       have n2 : ρ3 w1.heap.size = .none := hn3 _ (by omega) (fun hF => by have := hF.2; omega)
       have ST4 := Lib.hid (show Bx W4 w.heap.size 30 cs3 by rw [hW4]; exact st3.setAll cs3 hl31)
       have RS4 := Lib.hid (show Bx W4 (w.heap.size + 1) 30 zsC by rw [hW4]; exact (RS2.out.old b3).same (heap_sets _ _ _ _ _ (by omega)))
       have OX4 := Lib.hid (show Bx W4 w1.heap.size 47 oc by rw [hW4]; exact (OX2.out.old b3).same (heap_sets _ _ _ _ _ (by omega)))
       have S4 := Lib.hid (show OwnS ρ3 L W2.heap.size W4 cs3 ds by rw [hW4]; exact s3.asides _ 0 cs3 n0)
       have BEL4 := Lib.hid (show Below w.heap.size w W4 by rw [hW4]; exact below_sets _ _ _ (BEL2.out.trans (b3.mono (by omega))) _ (Nat.le_refl _))
       have N4 := Lib.hid (show ρ3 w.heap.size = .none ∧ ρ3 (w.heap.size + 1) = .none ∧ ρ3 w1.heap.size = .none from ⟨n0, n1, n2⟩)
       have FR4 := Lib.hid (show ∀ b, b < w.heap.size → ρ3 b ≠ .none → F b from fun b hb hn => Classical.byContradiction fun hF => hn (hn3 b (by omega) (fun h => hF h.1)))
       have HS4 := Lib.hid (show w.heap.size + 2 ≤ w1.heap.size ∧ w1.heap.size < W4.heap.size ∧ W2.heap.size ≤ W4.heap.size ∧ w.heap.size ≤ W2.heap.size by rw [hW4, sets_size]; omega)
       have HL3 := Lib.hid hl3
       have rg4 := ST4.out.range
       rw [hW4] at rg4
       have RG4 := Lib.hid rg4
       have HW4 := Lib.hid hW4
       clear h2 hb3 st3 hl3 hl31 n0 n1 n2 rg4 s3 hn3 b3 hW4
       have rgo := OX4.out.range
       rw [HW4.out] at rgo
       have RGO4 := Lib.hid rgo
       have HRM := Lib.hid (remove_prog ρ3 L W2.heap.size cs3 ds oc (findO id (dxs ds 1)) W4 S4.out (RO.out.any flatObject) (by have := HS4.out; omega) (by omega) (by
        have e : dint (findO id (dxs ds 1)) 0 = id := by
         unfold findO
         cases hf : (dxs ds 1).find? (fun o => dint o 0 == id) with
         | none => unfold hasO at hh; rw [hf] at hh; cases hh
         | some x => have := List.find?_some hf; exact eq_of_beq this
        rw [e]; exact hh))
       clear rgo
       go_wp2_with (first | ((with_reducible refine wpList_store_cs rfl 30 (.tmp 5) (.tmp 23) rfl w.heap.size 0 cs3 ?_ ?_ TH3.out HI3.out HO3.out ?_); rfl; rfl) | ((with_reducible refine wpList_load_mid rfl 30 (.tmp 5) rfl w.heap.size 0 ?_ cs3 _ RG4.out Try.underlying30 rfl HI3.out ?_); rfl) | ((with_reducible refine wpList_load_mid rfl 47 (.tmp 12) rfl w1.heap.size 0 ?_ oc _ RGO4.out Try.underlying47 rfl HIO.out ?_); rfl))
       rw [← HW4.out]
       refine HRM.out.mono ?_
       rintro e w5 ⟨cs5, rfl, ρ5, s5, u5⟩
       have s5 : OwnS ρ5 L W2.heap.size w5 cs5 (mvR ds id) := s5
       have h4 := HS4.out
       have h5 := u5.size
       have st5 := ST4.out.same (u5.keep _ (by omega) (.inr (.inl N4.out.1)))
       have rs5 := RS4.out.same (u5.keep _ (by omega) (.inr (.inl N4.out.2.1)))
       have ox5 := OX4.out.same (u5.keep _ (by omega) (.inr (.inl N4.out.2.2)))
       have q0 : ρ5 w.heap.size = .none := (u5.role _ (by omega)).trans N4.out.1
       have q1 : ρ5 (w.heap.size + 1) = .none := (u5.role _ (by omega)).trans N4.out.2.1
       have q2 : ρ5 w1.heap.size = .none := (u5.role _ (by omega)).trans N4.out.2.2
       have hl5 := s5.len.1
       have hl53 : cs5.length = cs3.length := by rw [hl5, HL3.out]
       obtain ⟨W6, hW6⟩ : ∃ W, W = w5.setCells w.heap.size 0 cs5 := ⟨_, rfl⟩
       have TH5 := Lib.hid (show w5.there w.heap.size 0 cs5.length by rw [hl53]; exact st5.there)
       have HI5 := Lib.hid (show (Try.prog.info? 30).map (·.size) = some cs5.length by rw [infoState, hl5])
       have HO5 := Lib.hid s5.rd.one
       have ST6 := Lib.hid (show Bx W6 w.heap.size 30 cs5 by rw [hW6]; exact st5.setAll cs5 hl53)
       have RS6 := Lib.hid (show Bx W6 (w.heap.size + 1) 30 zsC by rw [hW6]; exact rs5.same (heap_sets _ _ _ _ _ (by omega)))
       have OX6 := Lib.hid (show Bx W6 w1.heap.size 47 oc by rw [hW6]; exact ox5.same (heap_sets _ _ _ _ _ (by omega)))
       have S6 := Lib.hid (show OwnS ρ5 L W2.heap.size W6 cs5 (mvR ds id) by rw [hW6]; exact s5.asides _ 0 cs5 q0)
       have BEL6 := Lib.hid (show Below w.heap.size w W6 by rw [hW6]; exact below_sets _ _ _ (u5.below BEL4.out h4.2.2.2 (by omega)) _ (Nat.le_refl _))
       have N6 := Lib.hid (show ρ5 w.heap.size = .none ∧ ρ5 (w.heap.size + 1) = .none ∧ ρ5 w1.heap.size = .none from ⟨q0, q1, q2⟩)
       have FR6 := Lib.hid (show ∀ b, b < w.heap.size → ρ5 b ≠ .none → F b from fun b hb hn => FR4.out b hb fun e => hn ((u5.role b (by omega)).trans e))
       have HS6 := Lib.hid (show w.heap.size + 2 ≤ w1.heap.size ∧ w1.heap.size < W6.heap.size ∧ W2.heap.size ≤ W6.heap.size ∧ w.heap.size ≤ W2.heap.size by rw [hW6, sets_size]; omega)
       have HL5 := Lib.hid hl5
       have rg6 := ST6.out.range
       have co5 := OX6.out.cell 5 _ (RO.out.bool 5 rfl).1
       rw [ht] at co5
       have rgo := OX6.out.range
       rw [hW6] at rg6 co5 rgo
       have RG6 := Lib.hid rg6
       have RGO6 := Lib.hid rgo
       have HW6 := Lib.hid hW6
       clear h4 h5 st5 rs5 ox5 q0 q1 q2 hl5 hl53 rg6 rgo s5 u5 hW6
       have c13 := ST6.out.cell 13 _ (S6.out.rd.int 13 rfl).1
       have c14 := ST6.out.cell 14 _ (S6.out.rd.int 14 rfl).1
       have e13 : dint (mvR ds id) 13 = dint ds 13 := dint_of (removeT_keep _ _ 13 (by omega))
       have e14 : dint (mvR ds id) 14 = dint ds 14 := dint_of (removeT_keep _ _ 14 (by omega))
       rw [e13, HW6.out] at c13
       rw [e14, HW6.out] at c14
       have HMV := Lib.hid (moved_prog oc (findO id (dxs ds 1)) (dint ds 13) 5 control (dint ds 14) W6 (RO.out.any flatObject))
       obtain ⟨ml, hml⟩ : ∃ ml, ml = mvC ds id 5 control := ⟨_, rfl⟩
       have hml2 : movedC (findO id (dxs ds 1)) (dint ds 13) 5 control (dint ds 14) = ml := hml.symm
       rw [hml2] at HMV
       have HML := Lib.hid hml
       clear e13 e14 hml hml2
       go_wp2_with (first | ((with_reducible refine wpList_store_cs rfl 30 (.tmp 5) (.tmp 37) rfl w.heap.size 0 cs5 ?_ ?_ TH5.out HI5.out HO5.out ?_); rfl; rfl) | ((with_reducible refine wpList_load_mid rfl 47 (.tmp 12) rfl w1.heap.size 0 ?_ oc _ RGO6.out Try.underlying47 rfl HIO.out ?_); rfl))
       rw [← HW6.out]
       refine HMV.out.mono ?_
       rintro e w7 ⟨rfl, b7⟩
       clear c13 c14 co5
       have hmn : ml.length = 19 := by rw [HML.out]; rfl
       have h6 := HS6.out
       have h7 := b7.size
       obtain ⟨W7, hW7⟩ : ∃ W, W = w7.alloc (.cells #[.int .i64 0, .int .i64 0, .int .i64 0, .int .i64 0, .int .i64 0, .bool false, .bool false, .bool false, .bool false, .int .i64 0, .int .i64 0, .int .i64 0, .int .i64 0, .int .i64 0, .int .i64 0, .int .i64 0, .bool false, .int .i64 0, .int .i64 0] 47) := ⟨_, rfl⟩
       have mz : Bx W7 w7.heap.size 47 zObjC.1 := by rw [hW7]; exact Bx.new w7 zObjC.1 _
       have b7' : Below w7.heap.size w7 W7 := by rw [hW7]; exact (Below.refl _ _).alloc (Nat.le_refl _) _
       have ht7 : W7.there w7.heap.size 0 ml.length := by rw [hmn]; exact mz.there
       rw [hW7] at ht7
       have THM := Lib.hid ht7
       have HIM := Lib.hid (show (Try.prog.info? 47).map (·.size) = some ml.length by rw [infoObject, hmn])
       have hmr : RdL (fun _ => False) 0 w7 kObject ml ((mvC ds id 5 control).map .lit) := by rw [HML.out]; exact movedC_rd _ _ _ _ _ _
       have HOM := Lib.hid hmr.one
       obtain ⟨W8, hW8⟩ : ∃ W, W = W7.setCells w7.heap.size 0 ml := ⟨_, rfl⟩
       have mx8 : Bx W8 w7.heap.size 47 ml := by rw [hW8]; exact mz.setAll ml hmn
       have b8 : Below W6.heap.size W6 W8 := by rw [hW8]; exact below_sets _ _ _ (b7.trans (b7'.mono h7)) _ h7
       obtain ⟨ρ8, s8, hnone8, hsame8⟩ := S6.out.new b8
       have hm8 : w7.heap.size < W8.heap.size := mx8.lt
       have ST8 := Lib.hid (ST6.out.old b8)
       have RS8 := Lib.hid (RS6.out.old b8)
       have MX8 := Lib.hid mx8
       have HP := Lib.hid (put_prog ρ8 L W2.heap.size cs5 (mvR ds id) ml _ W8 s8 (hmr.any flatObject) (by omega) (by omega))
       have N8 := Lib.hid (show ρ8 w.heap.size = .none ∧ ρ8 (w.heap.size + 1) = .none ∧ ρ8 w7.heap.size = .none from ⟨(hsame8 _ (by omega)).trans N6.out.1, (hsame8 _ (by omega)).trans N6.out.2.1, hnone8 _ h7⟩)
       have FR8 := Lib.hid (show ∀ b, b < w.heap.size → ρ8 b ≠ .none → F b from fun b hb hn => FR6.out b hb fun e => hn ((hsame8 b (by omega)).trans e))
       have BEL8 := Lib.hid (BEL6.out.trans (b8.mono (by omega)))
       have HS8 := Lib.hid (show w.heap.size + 2 ≤ w7.heap.size ∧ w7.heap.size < W8.heap.size ∧ W2.heap.size ≤ W8.heap.size ∧ w.heap.size ≤ W2.heap.size by omega)
       have rg8 := ST8.out.range
       have rgm := mx8.range
       rw [hW8, hW7] at rg8 rgm
       have RG8 := Lib.hid rg8
       have RGM := Lib.hid rgm
       have HW8 := Lib.hid (show W8 = _ by rw [hW8, hW7])
       clear hmn h6 h7 b7 hW7 mz b7' ht7 hmr hW8 mx8 b8 s8 hnone8 hsame8 hm8 rg8 rgm
       go_wp2_with (first | ((with_reducible refine wpList_store_cs rfl 47 (.tmp 14) (.tmp 56) rfl w7.heap.size 0 ml ?_ ?_ THM.out HIM.out HOM.out ?_); rfl; rfl) | ((with_reducible refine wpList_load_mid rfl 30 (.tmp 5) rfl w.heap.size 0 ?_ cs5 _ RG8.out Try.underlying30 rfl HI5.out ?_); rfl) | ((with_reducible refine wpList_load_mid rfl 47 (.tmp 14) rfl w7.heap.size 0 ?_ ml _ RGM.out Try.underlying47 rfl HIM.out ?_); rfl))
       rw [← HW8.out]
       refine HP.out.mono ?_
       rintro e w9 ⟨cs9, rfl, ρ9, s9, u9⟩
       have s9 : OwnS ρ9 (L + 128) W2.heap.size w9 cs9 (mvP ds id 5 control) := s9
       have h8 := HS8.out
       have h9 := u9.size
       have st9 := ST8.out.same (u9.keep _ (by omega) (.inr (.inl N8.out.1)))
       have rs9 := RS8.out.same (u9.keep _ (by omega) (.inr (.inl N8.out.2.1)))
       have mx9 := MX8.out.same (u9.keep _ (by omega) (.inr (.inl N8.out.2.2)))
       have q0 : ρ9 w.heap.size = .none := (u9.role _ (by omega)).trans N8.out.1
       have q1 : ρ9 (w.heap.size + 1) = .none := (u9.role _ (by omega)).trans N8.out.2.1
       have q2 : ρ9 w7.heap.size = .none := (u9.role _ (by omega)).trans N8.out.2.2
       have FR9 := Lib.hid (show ∀ b, b < w.heap.size → ρ9 b ≠ .none → F b from fun b hb hn => FR8.out b hb fun e => hn ((u9.role b (by omega)).trans e))
       have hl9 := s9.len.1
       have hl95 : cs9.length = cs5.length := by rw [hl9, HL5.out]
       have TH9 := Lib.hid (show w9.there w.heap.size 0 cs9.length by rw [hl95]; exact st9.there)
       have HI9 := Lib.hid (show (Try.prog.info? 30).map (·.size) = some cs9.length by rw [infoState, hl9])
       have HO9 := Lib.hid s9.rd.one
       obtain ⟨W10, hW10⟩ : ∃ W, W = w9.setCells w.heap.size 0 cs9 := ⟨_, rfl⟩
       have st10 : Bx W10 w.heap.size 30 cs9 := by rw [hW10]; exact st9.setAll cs9 hl95
       have s10 : OwnS ρ9 (L + 128) W2.heap.size W10 cs9 (mvP ds id 5 control) := by rw [hW10]; exact s9.asides _ 0 cs9 q0
       have e13 : dint (mvP ds id 5 control) 13 = dint ds 13 := (dint_ne _ _ _ _ (by omega)).trans (dint_of (removeT_keep _ _ 13 (by omega)))
       have e14 : dint (mvP ds id 5 control) 14 = dint ds 14 := (dint_ne _ _ _ _ (by omega)).trans (dint_of (removeT_keep _ _ 14 (by omega)))
       have c13 := st10.cell 13 _ (s10.rd.int 13 rfl).1
       have c14 := st10.cell 14 _ (s10.rd.int 14 rfl).1
       have f13 := st10.frozen 13
       have f14 := st10.frozen 14
       rw [e13, hW10] at c13
       rw [e14, hW10] at c14
       rw [hW10] at f13 f14
       obtain ⟨cs12, hcs12⟩ : ∃ l, l = (cs9.set 13 (.int .i64 (dint ds 13 + 1))).set 14 (.int .i64 (dint ds 14 + 1)) := ⟨_, rfl⟩
       obtain ⟨W12, hW12⟩ : ∃ W, W = (W10.setCell ⟨w.heap.size, 13, none⟩ (.int .i64 (dint ds 13 + 1))).setCell ⟨w.heap.size, 14, none⟩ (.int .i64 (dint ds 14 + 1)) := ⟨_, rfl⟩
       have st12 : Bx W12 w.heap.size 30 cs12 := by rw [hW12, hcs12]; exact (st10.set 13 _).set 14 _
       have rs12 : Bx W12 (w.heap.size + 1) 30 zsC := by rw [hW12, hW10]; exact ((rs9.same (heap_sets _ _ _ _ _ (by omega))).other 13 _ (by omega)).other 14 _ (by omega)
       have mx12 : Bx W12 w7.heap.size 47 ml := by rw [hW12, hW10]; exact ((mx9.same (heap_sets _ _ _ _ _ (by omega))).other 13 _ (by omega)).other 14 _ (by omega)
       have s12 : OwnS ρ9 (L + 128) W2.heap.size W12 cs12 (mvN ds id 5 control) := by
        rw [hW12, hcs12]
        exact (((s10.aside w.heap.size 13 (.int .i64 (dint ds 13 + 1)) q0).setLit 13 (by omega) .int rfl (.int .i64 (dint ds 13 + 1)) ⟨_, rfl⟩).aside w.heap.size 14 (.int .i64 (dint ds 14 + 1)) q0).setLit 14 (by omega) .int rfl (.int .i64 (dint ds 14 + 1)) ⟨_, rfl⟩
       have bel12 : Below w.heap.size w W12 := by
        rw [hW12, hW10]
        exact below_set (below_set (below_sets _ _ _ (u9.below BEL8.out h8.2.2.2 (by omega)) _ (Nat.le_refl _)) _ _ _ (Nat.le_refl _)) _ _ _ (Nat.le_refl _)
       have hz12 : W12.heap.size = w9.heap.size := by rw [hW12, hW10]; simp only [World.setCell, Array.size_modify, sets_size]
       have co2 := mx12.cell 2 (.int .i64 (mvO ds id)) (by rw [HML.out]; rfl)
       rw [hW12, hW10] at co2
       obtain ⟨ao, nn, cc, hc0, hn, hnl, hx⟩ := s12.at_list w.heap.size st12 q0 5 (mvO ds id)
       have hplb : (dxs (mvN ds id 5 control) 0).length * 152 ≤ L + 128 := by obtain ⟨_, _, _, pl⟩ := s12.ply; exact pl.bytes
       have HLS := Lib.hid (list_prog w.heap.size ao nn cc 5 (mvO ds id) W12 (st12.cell 0 _ hc0) hn (by omega))
       have ST12 := Lib.hid st12
       have RS12 := Lib.hid rs12
       have MX12 := Lib.hid mx12
       have S12 := Lib.hid s12
       have BEL12 := Lib.hid bel12
       have N12 := Lib.hid (show ρ9 w.heap.size = .none ∧ ρ9 (w.heap.size + 1) = .none ∧ ρ9 w7.heap.size = .none from ⟨q0, q1, q2⟩)
       have HS12 := Lib.hid (show w.heap.size + 2 ≤ w7.heap.size ∧ w7.heap.size < W12.heap.size ∧ W2.heap.size ≤ W12.heap.size ∧ w.heap.size ≤ W2.heap.size by omega)
       have HW12 := Lib.hid (show W12 = _ by rw [hW12, hW10])
       clear h8 h9 st9 rs9 mx9 q0 q1 q2 hl9 hl95 hW10 st10 s10 e13 e14 hcs12 hW12 st12 rs12 mx12 s12 bel12 hz12 hc0 hn hnl hplb s9 u9
       rcases hx with ⟨hp, _, hset⟩ | ⟨ab, oo, v, hp, A⟩
       ·rw [hp] at HLS
        have hLN : mvL ds id 5 control bottom = mvN ds id 5 control := hset _
        have STF := ST12
        have RSF := RS12
        have MXF := MX12
        have SF_ := Lib.hid (show OwnS ρ9 (L + 128 + 8) W2.heap.size W12 cs12 (mvL ds id 5 control bottom) by rw [hLN]; exact S12.out.frame (by omega) (Nat.le_refl _) (fun _ _ _ => rfl) (fun _ _ => rfl))
        have BELF := BEL12
        have NF := Lib.hid N12.out.2.1
        clear hp hset hLN
        go_wp2_with ((with_reducible refine wpList_store_cs rfl 30 (.tmp 5) (.tmp 59) rfl w.heap.size 0 cs9 ?_ ?_ TH9.out HI9.out HO9.out ?_); rfl; rfl)
        rw [← HW12.out]
        refine HLS.out.mono ?_
        rintro e w13 ⟨rfl, rfl⟩
        obtain ⟨WF, hWF⟩ : ∃ W, W = w13 := ⟨_, rfl⟩
        rw [← hWF] at STF RSF MXF SF_ BELF ⊢
        clear hWF c13 c14 f13 f14 co2
        go_wp2_with fail
        have h12 := HS12.out
        have hlF := SF_.out.len.1
        have SS0 := Lib.hid (show Bx WF w.heap.size 30 cs12 ∧ Bx WF w7.heap.size 47 ml from ⟨STF.out, MXF.out⟩)
        have HIF := Lib.hid (show (Try.prog.info? 30).map (·.size) = some cs12.length by rw [infoState, hlF])
        have THF := Lib.hid (show WF.drew.there (w.heap.size + 1) 0 cs12.length by rw [hlF]; exact RSF.out.drew.there)
        have HOF := Lib.hid SF_.out.rd.one
        have BE := Lib.hid (RSF.out.drew.setAll cs12 hlF)
        have SE := Lib.hid ((SF_.out.old (Below.refl _ _).drew).asides (w.heap.size + 1) 0 cs12 NF.out)
        have BF := Lib.hid (below_sets cs12 0 WF.drew BELF.out.drew (w.heap.size + 1) (Nat.le_succ _))
        have SS1 := Lib.hid (show Bx (WF.drew.setCells (w.heap.size + 1) 0 cs12) w.heap.size 30 cs12 ∧ Bx (WF.drew.setCells (w.heap.size + 1) 0 cs12) w7.heap.size 47 ml from ⟨STF.out.drew.same (heap_sets _ _ _ _ _ (by omega)), MXF.out.drew.same (heap_sets _ _ _ _ _ (by omega))⟩)
        have HC0 := Lib.hid (show ml[0]? = some (.int .i64 (dint ds 13)) by rw [HML.out]; rfl)
        clear h12 hlF
        refine wp_region_noPanic ?_
        refine wp_region_held_drew (S := fun wS => Bx wS w.heap.size 30 cs12 ∧ Bx wS w7.heap.size 47 ml) (by kernel_rfl) (SS0.out) (fun hHeld => ?_)
        refine wpAnyH_take (i := 0) (oi := ?oiT22a0x) (v := .agg cs12.toArray) ?hiT22a0x (by kernel_rfl) (by kernel_rfl) (by kernel_rfl) ?hqT22a0x ?hyT22a0x (by assumption) ?restT22a0x
        case hiT22a0x => (simp only [List.getElem?_toArray, List.getElem?_cons_zero] <;> rfl)
        case hqT22a0x => exact fun _ _ _ h => h
        case hyT22a0x => exact (yieldsIf_load_mid (by rfl) 30 (.tmp 5) rfl w.heap.size 0 (by simp [Act.eval]) cs12 _ (fun _ h => Bx.range h.1) Try.underlying30 rfl HIF.out)
        try simp only [Act.put, List.setIfInBounds_toArray, List.set_cons_zero, List.set_cons_succ]
        refine wpAnyH_take (i := 1) (oi := ?oiT22a1x) (v := ?vT22a1x) ?hiT22a1x (by kernel_rfl) (by kernel_rfl) (by kernel_rfl) ?hqT22a1x ?hyT22a1x (by assumption) ?restT22a1x
        case hiT22a1x => (simp only [List.getElem?_toArray, List.getElem?_cons_succ, List.getElem?_cons_zero] <;> rfl)
        case hqT22a1x => exact fun _ _ _ h => h
        case hyT22a1x => exact Or.inl ⟨by rfl, by (intro wS hSw; have s5 := Bx.cell hSw.2 0 _ HC0.out; go_simp; try with_reducible rfl)⟩
        try simp only [Act.put, List.setIfInBounds_toArray, List.set_cons_zero, List.set_cons_succ]
        refine wpAnyH_take (i := 2) (oi := ?oiT22a2x) (v := ?vT22a2x) ?hiT22a2x (by kernel_rfl) (by kernel_rfl) (by kernel_rfl) ?hqT22a2x ?hyT22a2x (by assumption) ?restT22a2x
        case hiT22a2x => (simp only [List.getElem?_toArray, List.getElem?_cons_succ, List.getElem?_cons_zero] <;> rfl)
        case hqT22a2x => exact fun _ _ _ h => h
        case hyT22a2x => exact Or.inl ⟨by rfl, by (intro wS hSw; have s5 := Bx.cell hSw.2 0 _ HC0.out; go_simp; try with_reducible rfl)⟩
        try simp only [Act.put, List.setIfInBounds_toArray, List.set_cons_zero, List.set_cons_succ]
        refine wpAnyH_ready (rs := [3]) (by kernel_rfl) (by simp) ?_
        refine AllReadyH.cons (o := ?oiT22a3x) ?hiT22a3x (fun K hK => ?hsT22a3x) AllReadyH.nil
        case hiT22a3x => (simp only [List.getElem?_toArray, List.getElem?_cons_succ, List.getElem?_cons_zero] <;> rfl)
        refine step_store_mid rfl 30 (.tmp 10) (.tmp 98) rfl (w.heap.size + 1) 0 cs12 (by simp [Act.eval]) (by simp [Act.eval]) THF.out HIF.out HOF.out ?_
        refine hK.out _ _ SS1.out (fun hHeld3 => ?_)
        clear hK K
        try simp only [Act.put]
        refine wpAnyH_take (i := 4) (oi := ?oiT22a4x) (v := ?vT22a4x) ?hiT22a4x (by kernel_rfl) (by kernel_rfl) (by kernel_rfl) ?hqT22a4x ?hyT22a4x (by assumption) ?restT22a4x
        case hiT22a4x => (simp only [List.getElem?_toArray, List.getElem?_cons_succ, List.getElem?_cons_zero] <;> rfl)
        case hqT22a4x => exact fun _ _ _ h => h
        case hyT22a4x => exact Or.inl ⟨by rfl, by (intro wS hSw; have s5 := Bx.cell hSw.2 0 _ HC0.out; go_simp; try with_reducible rfl)⟩
        try simp only [Act.put, List.setIfInBounds_toArray, List.set_cons_zero, List.set_cons_succ]
        refine wpAnyH_done (by kernel_rfl) ?_ _
        refine NoPanic.normal ?_
        go_wp2_with fail
        refine bodyPost_ret (results_cs2 Try.results15 (w.heap.size + 1) ?_ (.int .i64 (dint ds 13)) ?_ cs12 _ (Bx.range BE.out) Try.underlying30 rfl HIF.out) rfl ?_
        ·rfl
        ·rfl
        ·exact ⟨cs12, _, rfl, SE.out.rd, BF.out, FR9.out⟩
       ·rw [listPtr5] at hp; cases hp
      ·have hb0 : (z != 0) = true := by simpa using hne0
       have hb5 : (z != 5) = true := by simpa using hne5
       have hmv : moveT ds id z control bottom = (mvR ds id, 0) := by unfold moveT; rw [if_pos ⟨hh, by omega, by omega⟩, if_pos ⟨ht, hne0, hne5⟩]
       rw [hmv]
       clear hmv
       go_enter Try.func15, Try.ntmps15
       go_wp2_with ((with_reducible refine wpList_load_mid rfl 30 (.tmp 5) rfl w.heap.size 0 ?_ cs _ RG.out Try.underlying30 rfl HI.out ?_); rfl)
       rw [← HW0.out]
       refine HF.out.mono ?_
       rintro e w1 ⟨oc, rfl, ro, b1⟩
       have hs0 := XX.out.size
       have hb1 := b1.size
       have hol := ro.len.1
       rw [kObject_len] at hol
       obtain ⟨W1, hW1⟩ : ∃ W, W = w1.alloc (.cells #[.int .i64 0, .int .i64 0, .int .i64 0, .int .i64 0, .int .i64 0, .bool false, .bool false, .bool false, .bool false, .int .i64 0, .int .i64 0, .int .i64 0, .int .i64 0, .int .i64 0, .int .i64 0, .int .i64 0, .bool false, .int .i64 0, .int .i64 0] 47) := ⟨_, rfl⟩
       have oz : Bx W1 w1.heap.size 47 zObjC.1 := by rw [hW1]; exact Bx.new w1 zObjC.1 _
       have ht := oz.there
       have hz19 : zObjC.1.length = oc.length := by rw [hol]; rfl
       rw [hz19, hW1] at ht
       have THO := Lib.hid ht
       have HIO := Lib.hid (show (Try.prog.info? 47).map (·.size) = some oc.length by rw [infoObject, hol])
       have HOO := Lib.hid ro.one
       obtain ⟨W2, hW2⟩ : ∃ W, W = W1.setCells w1.heap.size 0 oc := ⟨_, rfl⟩
       have ox2 : Bx W2 w1.heap.size 47 oc := by rw [hW2]; exact oz.setAll oc hz19.symm
       have bb : Below W0.heap.size W0 W2 := by
        rw [hW2]
        exact below_sets _ _ _ (b1.trans (show Below W0.heap.size w1 W1 by rw [hW1]; exact (Below.refl _ _).alloc hb1 _)) _ hb1
       have st2 := XX.out.st.old bb
       have rg2 := st2.range
       rw [hW2, hW1] at rg2
       have RG2 := Lib.hid rg2
       have hb2 := bb.size
       have hm1 : w1.heap.size < W2.heap.size := ox2.lt
       have HC := Lib.hid (copy_prog _ L cs ds W2 (HR.out.old bb) (by omega))
       have ST2 := Lib.hid st2
       have RS2 := Lib.hid (XX.out.rs.old bb)
       have OX2 := Lib.hid ox2
       have RO := Lib.hid ro
       have BEL2 := Lib.hid (XX.out.bel.trans (bb.mono XX.out.bel.size))
       have HS2 := Lib.hid (show w.heap.size + 2 ≤ w1.heap.size ∧ w1.heap.size < W2.heap.size by omega)
       have HW2 := Lib.hid (show W2 = _ by rw [hW2, hW1])
       clear hs0 hb1 b1 hol hW1 oz ht hz19 hW2 ox2 bb st2 rg2 hb2 hm1 ro
       go_wp2_with (first | ((with_reducible refine wpList_store_cs rfl 47 (.tmp 12) (.tmp 20) rfl w1.heap.size 0 oc ?_ ?_ THO.out HIO.out HOO.out ?_); rfl; rfl) | ((with_reducible refine wpList_load_mid rfl 30 (.tmp 5) rfl w.heap.size 0 ?_ cs _ RG2.out Try.underlying30 rfl HI.out ?_); rfl))
       rw [← HW2.out]
       refine HC.out.mono ?_
       rintro e w3 ⟨cs3, rfl, ⟨ρ3, s3, hn3⟩, b3⟩
       have h2 := HS2.out
       have hb3 := b3.size
       have st3 := ST2.out.old b3
       have hl3 := s3.len.1
       have hl31 : cs3.length = cs.length := by rw [hl3, HLN.out]
       obtain ⟨W4, hW4⟩ : ∃ W, W = w3.setCells w.heap.size 0 cs3 := ⟨_, rfl⟩
       have TH3 := Lib.hid (show w3.there w.heap.size 0 cs3.length by rw [hl31]; exact st3.there)
       have HI3 := Lib.hid (show (Try.prog.info? 30).map (·.size) = some cs3.length by rw [infoState, hl3])
       have HO3 := Lib.hid s3.rd.one
       have n0 : ρ3 w.heap.size = .none := hn3 _ (by omega) (fun hF => by have := hF.2; omega)
       have n1 : ρ3 (w.heap.size + 1) = .none := hn3 _ (by omega) (fun hF => by have := hF.2; omega)
       have n2 : ρ3 w1.heap.size = .none := hn3 _ (by omega) (fun hF => by have := hF.2; omega)
       have ST4 := Lib.hid (show Bx W4 w.heap.size 30 cs3 by rw [hW4]; exact st3.setAll cs3 hl31)
       have RS4 := Lib.hid (show Bx W4 (w.heap.size + 1) 30 zsC by rw [hW4]; exact (RS2.out.old b3).same (heap_sets _ _ _ _ _ (by omega)))
       have OX4 := Lib.hid (show Bx W4 w1.heap.size 47 oc by rw [hW4]; exact (OX2.out.old b3).same (heap_sets _ _ _ _ _ (by omega)))
       have S4 := Lib.hid (show OwnS ρ3 L W2.heap.size W4 cs3 ds by rw [hW4]; exact s3.asides _ 0 cs3 n0)
       have BEL4 := Lib.hid (show Below w.heap.size w W4 by rw [hW4]; exact below_sets _ _ _ (BEL2.out.trans (b3.mono (by omega))) _ (Nat.le_refl _))
       have N4 := Lib.hid (show ρ3 w.heap.size = .none ∧ ρ3 (w.heap.size + 1) = .none ∧ ρ3 w1.heap.size = .none from ⟨n0, n1, n2⟩)
       have FR4 := Lib.hid (show ∀ b, b < w.heap.size → ρ3 b ≠ .none → F b from fun b hb hn => Classical.byContradiction fun hF => hn (hn3 b (by omega) (fun h => hF h.1)))
       have HS4 := Lib.hid (show w.heap.size + 2 ≤ w1.heap.size ∧ w1.heap.size < W4.heap.size ∧ W2.heap.size ≤ W4.heap.size ∧ w.heap.size ≤ W2.heap.size by rw [hW4, sets_size]; omega)
       have HL3 := Lib.hid hl3
       have rg4 := ST4.out.range
       rw [hW4] at rg4
       have RG4 := Lib.hid rg4
       have HW4 := Lib.hid hW4
       clear h2 hb3 st3 hl3 hl31 n0 n1 n2 rg4 s3 hn3 b3 hW4
       have rgo := OX4.out.range
       rw [HW4.out] at rgo
       have RGO4 := Lib.hid rgo
       have HRM := Lib.hid (remove_prog ρ3 L W2.heap.size cs3 ds oc (findO id (dxs ds 1)) W4 S4.out (RO.out.any flatObject) (by have := HS4.out; omega) (by omega) (by
        have e : dint (findO id (dxs ds 1)) 0 = id := by
         unfold findO
         cases hf : (dxs ds 1).find? (fun o => dint o 0 == id) with
         | none => unfold hasO at hh; rw [hf] at hh; cases hh
         | some x => have := List.find?_some hf; exact eq_of_beq this
        rw [e]; exact hh))
       clear rgo
       go_wp2_with (first | ((with_reducible refine wpList_store_cs rfl 30 (.tmp 5) (.tmp 23) rfl w.heap.size 0 cs3 ?_ ?_ TH3.out HI3.out HO3.out ?_); rfl; rfl) | ((with_reducible refine wpList_load_mid rfl 30 (.tmp 5) rfl w.heap.size 0 ?_ cs3 _ RG4.out Try.underlying30 rfl HI3.out ?_); rfl) | ((with_reducible refine wpList_load_mid rfl 47 (.tmp 12) rfl w1.heap.size 0 ?_ oc _ RGO4.out Try.underlying47 rfl HIO.out ?_); rfl))
       rw [← HW4.out]
       refine HRM.out.mono ?_
       rintro e w5 ⟨cs5, rfl, ρ5, s5, u5⟩
       have s5 : OwnS ρ5 L W2.heap.size w5 cs5 (mvR ds id) := s5
       have h4 := HS4.out
       have h5 := u5.size
       have st5 := ST4.out.same (u5.keep _ (by omega) (.inr (.inl N4.out.1)))
       have rs5 := RS4.out.same (u5.keep _ (by omega) (.inr (.inl N4.out.2.1)))
       have ox5 := OX4.out.same (u5.keep _ (by omega) (.inr (.inl N4.out.2.2)))
       have q0 : ρ5 w.heap.size = .none := (u5.role _ (by omega)).trans N4.out.1
       have q1 : ρ5 (w.heap.size + 1) = .none := (u5.role _ (by omega)).trans N4.out.2.1
       have q2 : ρ5 w1.heap.size = .none := (u5.role _ (by omega)).trans N4.out.2.2
       have hl5 := s5.len.1
       have hl53 : cs5.length = cs3.length := by rw [hl5, HL3.out]
       obtain ⟨W6, hW6⟩ : ∃ W, W = w5.setCells w.heap.size 0 cs5 := ⟨_, rfl⟩
       have TH5 := Lib.hid (show w5.there w.heap.size 0 cs5.length by rw [hl53]; exact st5.there)
       have HI5 := Lib.hid (show (Try.prog.info? 30).map (·.size) = some cs5.length by rw [infoState, hl5])
       have HO5 := Lib.hid s5.rd.one
       have ST6 := Lib.hid (show Bx W6 w.heap.size 30 cs5 by rw [hW6]; exact st5.setAll cs5 hl53)
       have RS6 := Lib.hid (show Bx W6 (w.heap.size + 1) 30 zsC by rw [hW6]; exact rs5.same (heap_sets _ _ _ _ _ (by omega)))
       have OX6 := Lib.hid (show Bx W6 w1.heap.size 47 oc by rw [hW6]; exact ox5.same (heap_sets _ _ _ _ _ (by omega)))
       have S6 := Lib.hid (show OwnS ρ5 L W2.heap.size W6 cs5 (mvR ds id) by rw [hW6]; exact s5.asides _ 0 cs5 q0)
       have BEL6 := Lib.hid (show Below w.heap.size w W6 by rw [hW6]; exact below_sets _ _ _ (u5.below BEL4.out h4.2.2.2 (by omega)) _ (Nat.le_refl _))
       have N6 := Lib.hid (show ρ5 w.heap.size = .none ∧ ρ5 (w.heap.size + 1) = .none ∧ ρ5 w1.heap.size = .none from ⟨q0, q1, q2⟩)
       have FR6 := Lib.hid (show ∀ b, b < w.heap.size → ρ5 b ≠ .none → F b from fun b hb hn => FR4.out b hb fun e => hn ((u5.role b (by omega)).trans e))
       have HS6 := Lib.hid (show w.heap.size + 2 ≤ w1.heap.size ∧ w1.heap.size < W6.heap.size ∧ W2.heap.size ≤ W6.heap.size ∧ w.heap.size ≤ W2.heap.size by rw [hW6, sets_size]; omega)
       have HL5 := Lib.hid hl5
       have rg6 := ST6.out.range
       have co5 := OX6.out.cell 5 _ (RO.out.bool 5 rfl).1
       rw [ht] at co5
       have rgo := OX6.out.range
       rw [hW6] at rg6 co5 rgo
       have RG6 := Lib.hid rg6
       have RGO6 := Lib.hid rgo
       have HW6 := Lib.hid hW6
       clear h4 h5 st5 rs5 ox5 q0 q1 q2 hl5 hl53 rg6 rgo s5 u5 hW6
       have th6 : W6.there (w.heap.size + 1) 0 cs5.length := by rw [HL5.out]; exact RS6.out.there
       rw [HW6.out] at th6
       have TH6 := Lib.hid th6
       have BE := Lib.hid (RS6.out.setAll cs5 HL5.out)
       clear th6
       go_wp2_with (first | ((with_reducible refine wpList_store_cs rfl 30 (.tmp 5) (.tmp 37) rfl w.heap.size 0 cs5 ?_ ?_ TH5.out HI5.out HO5.out ?_); rfl; rfl) | ((with_reducible refine wpList_load_mid rfl 30 (.tmp 5) rfl w.heap.size 0 ?_ cs5 _ RG6.out Try.underlying30 rfl HI5.out ?_); rfl) | ((with_reducible refine wpList_store_cs rfl 30 (.tmp 10) (.tmp 48) rfl (w.heap.size + 1) 0 cs5 ?_ ?_ TH6.out HI5.out HO5.out ?_); rfl; rfl))
       rw [← HW6.out]
       refine bodyPost_ret (results_cs2 Try.results15 (w.heap.size + 1) ?_ (.int .i64 0) ?_ cs5 _ (Bx.range BE.out) Try.underlying30 rfl HI5.out) rfl ?_
       ·rfl
       ·rfl
       ·exact ⟨cs5, _, rfl, ((S6.out.asides _ 0 cs5 N6.out.2.1).rd).frame (by omega) (Nat.le_refl _) (fun _ _ _ => rfl) (fun _ h _ => h), below_sets _ _ _ BEL6.out _ (Nat.le_succ _), FR6.out⟩
end Go.Proofs.Ytiebjkbofoppaaa
end
section
namespace Go.Proofs.Ytiebjkbofoppaaa
open Go Go.RowKit Go.Sort Cg
/-- Fair states. -/
def fairP (ds : List D) : Prop := (dxs ds 1).length ≤ 200 ∧ (dxs ds 0).length ≤ 8 ∧ -1099511627776 < dint ds 13 ∧ dint ds 13 < 1099511627776 ∧ -1099511627776 < dint ds 14 ∧ dint ds 14 < 1099511627776
instance (ds : List D) : Decidable (fairP ds) := by unfold fairP; exact inferInstance
set_option maxRecDepth 100000 in
set_option maxHeartbeats 4000000 in
theorem fair_prog (F : Nat → Prop) (L : Nat) (cs : List Value) (ds : List D) (w : World) (h : RdL F L w kState cs ds) (hL : L ≤ 140737488355328) :
  Calls Try.prog 10 #[.agg cs.toArray] w fun e w' => e = .returned (.bool (decide (fairP ds))) ∧ Below w.heap.size w w' := by
 obtain ⟨W0, hW0⟩ : ∃ W, W = w.alloc (.cells cs.toArray 30) := ⟨_, rfl⟩
 have bx : Bx W0 w.heap.size 30 cs := by rw [hW0]; exact Bx.new _ _ _
 have b0 : Below w.heap.size w W0 := by rw [hW0]; exact (Below.refl w.heap.size w).alloc (Nat.le_refl _) _
 obtain ⟨v0, hv0, _, r0⟩ := h.sl 0 _ _ rfl
 obtain ⟨v1, hv1, _, r1⟩ := h.sl 1 _ _ rfl
 have c13 := bx.cell 13 _ (h.int 13 rfl).1
 have c14 := bx.cell 14 _ (h.int 14 rfl).1
 obtain ⟨a0, k0, rfl, _, hb0, _⟩ := r0.form
 obtain ⟨a1, k1, rfl, _, hb1, _⟩ := r1.form
 have c0 := bx.cell 0 _ hv0
 have c1 := bx.cell 1 _ hv1
 rw [hW0] at c0 c1 c13 c14
 have n0 : (dxs ds 0).length ≤ 1000000000000000000 := by omega
 have n1 : (dxs ds 1).length ≤ 1000000000000000000 := by omega
 have B0 := Lib.hid (show Below w.heap.size w (w.alloc (.cells cs.toArray 30)) by rw [← hW0]; exact b0)
 clear hv0 hv1 r0 r1 hb0 hb1 b0 bx hW0 h hL
 obtain ⟨m0, hm0⟩ : ∃ m, m = (dxs ds 0).length := ⟨_, rfl⟩
 obtain ⟨m1, hm1⟩ : ∃ m, m = (dxs ds 1).length := ⟨_, rfl⟩
 obtain ⟨x13, hx13⟩ : ∃ x, x = dint ds 13 := ⟨_, rfl⟩
 obtain ⟨x14, hx14⟩ : ∃ x, x = dint ds 14 := ⟨_, rfl⟩
 have hd : decide (fairP ds) = decide (m1 ≤ 200 ∧ m0 ≤ 8 ∧ -1099511627776 < x13 ∧ x13 < 1099511627776 ∧ -1099511627776 < x14 ∧ x14 < 1099511627776) := by rw [hm0, hm1, hx13, hx14]; rfl
 rw [hd]
 rw [← hm0] at c0 n0
 rw [← hm1] at c1 n1
 rw [← hx13] at c13
 rw [← hx14] at c14
 clear hd hm0 hm1 hx13 hx14
 obtain ⟨rb, hrb⟩ : ∃ rb, rb = decide (m1 ≤ 200 ∧ m0 ≤ 8 ∧ -1099511627776 < x13 ∧ x13 < 1099511627776 ∧ -1099511627776 < x14 ∧ x14 < 1099511627776) := ⟨_, rfl⟩
 rw [← hrb]
 by_cases hA : m1 ≤ 200
 ·have hAi : (m1 : Int) ≤ 200 := by omega
  by_cases hB : m0 ≤ 8
  ·have hBi : (m0 : Int) ≤ 8 := by omega
   by_cases hC : -1099511627776 < x13
   ·by_cases hD : x13 < 1099511627776
    ·by_cases hE : -1099511627776 < x14
     ·by_cases hF : x14 < 1099511627776
      ·have HV := Lib.hid (show rb = true by rw [hrb]; exact decide_eq_true ⟨hA, hB, hC, hD, hE, hF⟩)
       clear hrb
       go_enter Try.func10, Try.ntmps10
       go_wp2_with fail
       go_ret
       exact ⟨by rw [HV.out]; rfl, B0.out⟩
      ·have HV := Lib.hid (show rb = false by rw [hrb]; exact decide_eq_false (fun hq => hF hq.2.2.2.2.2))
       clear hrb
       go_enter Try.func10, Try.ntmps10
       go_wp2_with fail
       go_ret
       exact ⟨by rw [HV.out]; rfl, B0.out⟩
     ·have HV := Lib.hid (show rb = false by rw [hrb]; exact decide_eq_false (fun hq => hE hq.2.2.2.2.1))
      clear hrb
      go_enter Try.func10, Try.ntmps10
      go_wp2_with fail
      go_ret
      exact ⟨by rw [HV.out]; rfl, B0.out⟩
    ·have HV := Lib.hid (show rb = false by rw [hrb]; exact decide_eq_false (fun hq => hD hq.2.2.2.1))
     clear hrb
     go_enter Try.func10, Try.ntmps10
     go_wp2_with fail
     go_ret
     exact ⟨by rw [HV.out]; rfl, B0.out⟩
   ·have HV := Lib.hid (show rb = false by rw [hrb]; exact decide_eq_false (fun hq => hC hq.2.2.1))
    clear hrb
    go_enter Try.func10, Try.ntmps10
    go_wp2_with fail
    go_ret
    exact ⟨by rw [HV.out]; rfl, B0.out⟩
  ·have HV := Lib.hid (show rb = false by rw [hrb]; exact decide_eq_false (fun hq => hB hq.2.1))
   clear hrb
   have hBi : ¬ ((m0 : Int) ≤ 8) := by omega
   go_enter Try.func10, Try.ntmps10
   go_wp2_with fail
   go_ret
   exact ⟨by rw [HV.out]; rfl, B0.out⟩
 ·have HV := Lib.hid (show rb = false by rw [hrb]; exact decide_eq_false (fun hq => hA hq.1))
  clear hrb
  have hAi : ¬ ((m1 : Int) ≤ 200) := by omega
  go_enter Try.func10, Try.ntmps10
  go_wp2_with fail
  go_ret
  exact ⟨by rw [HV.out]; rfl, B0.out⟩
/-- Cells that read without memory. -/
def litS (k : K) (v : Value) : Bool := match k, v with
 | .lit .int, .int .i64 _ => true
 | .lit .u64, .int .u64 _ => true
 | .lit .bool, .bool _ => true
 | .sl _ _, .slice none 0 0 => true
 | _, _ => false
def litD (v : Value) : D := match v with
 | .slice _ _ _ => .sl []
 | v => .lit v
theorem litS_rd (F : Nat → Prop) (L : Nat) (w : World) : ∀ (ks : List K) (vs : List Value), (List.zip ks vs).all (fun p => litS p.1 p.2) = true → ks.length = vs.length → RdL F L w ks vs (vs.map litD) := by
 intro ks
 induction ks with
 | nil => intro vs _ hl; match vs, hl with
  | [], _ => exact .nil
 | cons k ks ih =>
  intro vs hall hl
  match vs, hl with
  | v :: vs, hl =>
   simp only [List.zip_cons_cons, List.all_cons, Bool.and_eq_true] at hall
   refine .cons ?_ (ih vs hall.2 (by simpa using hl))
   have h1 := hall.1
   match k, v, h1 with
   | .lit .int, .int .i64 n, _ => exact .lit ⟨n, rfl⟩
   | .lit .u64, .int .u64 n, _ => exact .lit ⟨n, rfl⟩
   | .lit .bool, .bool b, _ => exact .lit ⟨b, rfl⟩
   | .sl e b, .slice none 0 0, _ => exact .slNil (fun _ => rfl)
def aPl (n : Nat) : List Value := [.int .i64 0, .int .i64 0, .int .i64 0, .int .i64 0, .int .i64 0, .int .i64 0, .int .i64 0, .int .i64 0, .int .i64 0, .bool false, .bool false, .slice (some ⟨n + 1, 0, none⟩) 1 1, .slice (some ⟨n, 0, none⟩) 1 1, .slice none 0 0, .int .i64 0, .int .i64 0, .int .i64 0, .int .i64 0, .int .i64 0, .int .i64 0, .int .i64 0, .int .i64 0, .int .i64 0, .bool false, .bool false, .slice none 0 0, .slice none 0 0, .slice none 0 0]
def aOb : List Value := [.int .i64 1, .int .i64 4, .int .i64 0, .int .i64 0, .int .i64 1, .bool false, .bool false, .bool false, .bool false, .int .i64 0, .int .i64 0, .int .i64 0, .int .i64 0, .int .i64 0, .int .i64 (-1), .int .i64 (-1), .bool false, .int .i64 0, .int .i64 0, .int .i64 2, .int .i64 5, .int .i64 0, .int .i64 0, .int .i64 2, .bool false, .bool false, .bool false, .bool false, .int .i64 0, .int .i64 0, .int .i64 0, .int .i64 0, .int .i64 0, .int .i64 (-1), .int .i64 (-1), .bool false, .int .i64 0, .int .i64 0]
def aSt (n : Nat) : List Value := .slice (some ⟨n + 2, 0, none⟩) 2 2 :: .slice (some ⟨n + 4, 0, none⟩) 2 2 :: [.slice none 0 0, .slice none 0 0, .slice none 0 0, .slice none 0 0, .slice none 0 0, .int .i64 0, .int .i64 0, .int .i64 0, .bool false, .int .i64 0, .int .i64 0, .int .i64 3, .int .i64 9, .int .u64 0, .slice none 0 0, .int .i64 0, .int .i64 0]
def aP1 : List D := ([.int .i64 0, .int .i64 0, .int .i64 0, .int .i64 0, .int .i64 0, .int .i64 0, .int .i64 0, .int .i64 0, .int .i64 0, .bool false, .bool false] : List Value).map .lit ++ [.sl [[dI 2]], .sl [[dI 1]], .sl []]
def aP2 : List D := ([.int .i64 0, .int .i64 0, .int .i64 0, .int .i64 0, .int .i64 0, .int .i64 0, .int .i64 0, .int .i64 0, .int .i64 0, .bool false, .bool false, .slice none 0 0, .slice none 0 0, .slice none 0 0] : List Value).map litD
def aDs : List D := .sl [aP1, aP2] :: .sl [(aOb.take 19).map .lit, (aOb.drop 19).map .lit] :: ([.slice none 0 0, .slice none 0 0, .slice none 0 0, .slice none 0 0, .slice none 0 0, .int .i64 0, .int .i64 0, .int .i64 0, .bool false, .int .i64 0, .int .i64 0, .int .i64 3, .int .i64 9, .int .u64 0, .slice none 0 0, .int .i64 0, .int .i64 0] : List Value).map litD
def aS0 (n : Nat) : List Value := .slice (some ⟨n + 2, 0, none⟩) 2 2 :: .slice none 0 0 :: [.slice none 0 0, .slice none 0 0, .slice none 0 0, .slice none 0 0, .slice none 0 0, .int .i64 0, .int .i64 0, .int .i64 0, .bool false, .int .i64 0, .int .i64 0, .int .i64 3, .int .i64 9, .int .u64 0, .slice none 0 0, .int .i64 0, .int .i64 0]
def aW3 (w : World) : World := ((w.alloc (.cells #[.int .i64 1] 3)).alloc (.cells #[.int .i64 2] 3)).alloc (.cells (aPl w.heap.size).toArray 59)
def aWB (w : World) : World := ((aW3 w).alloc (.cells zsC.toArray 30)).setCells (w.heap.size + 3) 0 (aS0 w.heap.size)
def aW (w : World) : World := ((aWB w).alloc (.cells aOb.toArray 47)).setCell ⟨w.heap.size + 3, 1, none⟩ (.slice (some ⟨w.heap.size + 4, 0, none⟩) 2 2)
theorem a_blocks (w : World) : Below w.heap.size w (aW w) ∧ (aW w).heap.size = w.heap.size + 5 ∧ Bx (aW w) w.heap.size 3 [.int .i64 1] ∧ Bx (aW w) (w.heap.size + 1) 3 [.int .i64 2] ∧ Bx (aW w) (w.heap.size + 2) 59 (aPl w.heap.size) ∧ Bx (aW w) (w.heap.size + 3) 30 (aSt w.heap.size) ∧ Bx (aW w) (w.heap.size + 4) 47 aOb ∧
  (aWB w).heap.size = w.heap.size + 4 ∧ ((aW3 w).alloc (.cells zsC.toArray 30)).there (w.heap.size + 3) 0 19 ∧ Bx ((aWB w).alloc (.cells aOb.toArray 47)) (w.heap.size + 3) 30 (aS0 w.heap.size) := by
 obtain ⟨w1, h1⟩ : ∃ x, x = w.alloc (.cells #[.int .i64 1] 3) := ⟨_, rfl⟩
 obtain ⟨w2, h2⟩ : ∃ x, x = w1.alloc (.cells #[.int .i64 2] 3) := ⟨_, rfl⟩
 obtain ⟨w3, h3⟩ : ∃ x, x = w2.alloc (.cells (aPl w.heap.size).toArray 59) := ⟨_, rfl⟩
 obtain ⟨w4, h4⟩ : ∃ x, x = w3.alloc (.cells zsC.toArray 30) := ⟨_, rfl⟩
 obtain ⟨wb, hb⟩ : ∃ x, x = w4.setCells (w.heap.size + 3) 0 (aS0 w.heap.size) := ⟨_, rfl⟩
 obtain ⟨w5, h5⟩ : ∃ x, x = wb.alloc (.cells aOb.toArray 47) := ⟨_, rfl⟩
 have e3 : aW3 w = w3 := by rw [h3, h2, h1]; rfl
 have eb : aWB w = wb := by rw [hb, h4, ← e3]; rfl
 have e : aW w = w5.setCell ⟨w.heap.size + 3, 1, none⟩ (.slice (some ⟨w.heap.size + 4, 0, none⟩) 2 2) := by rw [h5, ← eb]; rfl
 rw [eb, e3, ← h4, ← h5]
 have s1 : w1.heap.size = w.heap.size + 1 := by rw [h1]; simp
 have s2 : w2.heap.size = w.heap.size + 2 := by rw [h2]; simp [s1]
 have s3 : w3.heap.size = w.heap.size + 3 := by rw [h3]; simp [s2]
 have s4 : w4.heap.size = w.heap.size + 4 := by rw [h4]; simp [s3]
 have sb : wb.heap.size = w.heap.size + 4 := by rw [hb, sets_size, s4]
 have s5 : w5.heap.size = w.heap.size + 5 := by rw [h5]; simp [sb]
 have b1 : Below w.heap.size w w1 := by rw [h1]; exact (Below.refl _ _).alloc (Nat.le_refl _) _
 have b2 : Below w1.heap.size w1 w2 := by rw [h2]; exact (Below.refl _ _).alloc (Nat.le_refl _) _
 have b3 : Below w2.heap.size w2 w3 := by rw [h3]; exact (Below.refl _ _).alloc (Nat.le_refl _) _
 have b4 : Below w3.heap.size w3 w4 := by rw [h4]; exact (Below.refl _ _).alloc (Nat.le_refl _) _
 have bb : Below w3.heap.size w3 wb := by rw [hb]; exact below_sets _ _ _ b4 _ (by omega)
 have b5 : Below wb.heap.size wb w5 := by rw [h5]; exact (Below.refl _ _).alloc (Nat.le_refl _) _
 have b35 : Below w3.heap.size w3 w5 := bb.trans (b5.mono bb.size)
 have b6 : Below w3.heap.size w3 (aW w) := by rw [e]; exact below_set b35 _ _ _ (by omega)
 have x4 : Bx w4 (w.heap.size + 3) 30 zsC := by rw [h4, ← s3]; exact Bx.new _ _ _
 have xb : Bx wb (w.heap.size + 3) 30 (aS0 w.heap.size) := by rw [hb]; exact x4.setAll _ rfl
 have x5 := xb.old b5
 refine ⟨b1.trans ((b2.mono (by omega)).trans ((b3.mono (by omega)).trans (b6.mono (by omega)))), by rw [e]; simp only [World.setCell, Array.size_modify]; exact s5, ?_, ?_, ?_, ?_, ?_, sb, x4.there, x5⟩
 ·have : Bx w1 w.heap.size 3 [.int .i64 1] := by rw [h1]; exact Bx.new w [.int .i64 1] _
  exact ((this.old b2).old b3).old b6
 ·have : Bx w2 w1.heap.size 3 [.int .i64 2] := by rw [h2]; exact Bx.new w1 [.int .i64 2] _
  rw [s1] at this
  exact (this.old b3).old b6
 ·have : Bx w3 w2.heap.size 59 (aPl w.heap.size) := by rw [h3]; exact Bx.new _ _ _
  rw [s2] at this
  exact this.old b6
 ·rw [e]
  exact x5.set 1 _
 ·rw [e]
  have : Bx w5 (w.heap.size + 4) 47 aOb := by rw [h5, ← sb]; exact Bx.new _ _ _
  exact this.other _ _ (by omega)
theorem take_get {α : Type} {l : List α} {n i : Nat} {u : α} (h : (l.take n)[i]? = some u) : l[i]? = some u := by
 rw [List.getElem?_take] at h
 split at h
 ·exact h
 ·cases h
theorem a_rd (w : World) : RdL (fun _ => True) 400 (aW w) kState (aSt w.heap.size) aDs := by
 obtain ⟨_, hs, x0, x1, x2, _, x4, _⟩ := a_blocks w
 have i0 : RdC (fun _ => True) 400 (aW w) kInts (.slice (some ⟨w.heap.size, 0, none⟩) 1 1) (.sl [[dI 1]]) := .slSome rfl (by omega) (by omega) trivial (by omega) (.cons (vs := [.int .i64 1]) (fun i u hu => by rw [Nat.zero_add]; exact x0.cell i u hu) (.cons (.lit ⟨1, rfl⟩) .nil) .nil)
 have i1 : RdC (fun _ => True) 400 (aW w) kInts (.slice (some ⟨w.heap.size + 1, 0, none⟩) 1 1) (.sl [[dI 2]]) := .slSome rfl (by omega) (by omega) trivial (by omega) (.cons (vs := [.int .i64 2]) (fun i u hu => by rw [Nat.zero_add]; exact x1.cell i u hu) (.cons (.lit ⟨2, rfl⟩) .nil) .nil)
 have p1 : RdL (fun _ => True) 400 (aW w) kPlayer ((aPl w.heap.size).take 14) aP1 :=
  (litS_rd _ _ _ (kPlayer.take 11) [.int .i64 0, .int .i64 0, .int .i64 0, .int .i64 0, .int .i64 0, .int .i64 0, .int .i64 0, .int .i64 0, .int .i64 0, .bool false, .bool false] rfl rfl).append (.cons i1 (.cons i0 (.cons (.slNil (fun _ => rfl)) .nil)))
 have p2 : RdL (fun _ => True) 400 (aW w) kPlayer ((aPl w.heap.size).drop 14) aP2 := litS_rd _ _ _ kPlayer _ rfl rfl
 have q1 : RdL (fun _ => True) 400 (aW w) kObject (aOb.take 19) ((aOb.take 19).map .lit) := (lits_rd (aW w) kObject _ rfl rfl).any flatObject
 have q2 : RdL (fun _ => True) 400 (aW w) kObject (aOb.drop 19) ((aOb.drop 19).map .lit) := (lits_rd (aW w) kObject _ rfl rfl).any flatObject
 refine .cons (.slSome rfl (by omega) (by omega) trivial (by omega) ?_) (.cons (.slSome rfl (by omega) (by omega) trivial (by omega) ?_) (litS_rd _ _ _ (kState.drop 2) _ rfl rfl))
 ·exact .cons (fun i u hu => by rw [Nat.zero_add]; exact x2.cell i u (take_get hu)) p1 (.cons (fun i u hu => by
   have : (0 + kPlayer.length + i) = 14 + i := by rw [show kPlayer.length = 14 by decide]
   rw [this]
   exact x2.cell (14 + i) u (by rwa [List.getElem?_drop] at hu)) p2 .nil)
 ·exact .cons (fun i u hu => by rw [Nat.zero_add]; exact x4.cell i u (take_get hu)) q1 (.cons (fun i u hu => by
   have : (0 + kObject.length + i) = 19 + i := by rw [kObject_len]
   rw [this]
   exact x4.cell (19 + i) u (by rwa [List.getElem?_drop] at hu)) q2 .nil)
def aT : List D := (moveT aDs 1 0 1 false).1
theorem aT_facts : (moveT aDs 1 0 1 false).2 = 3 ∧ hasO 3 (dxs aT 1) = true ∧ dint (findO 3 (dxs aT 1)) 1 = 4 ∧ dint (findO 3 (dxs aT 1)) 2 = 0 ∧ dint (findO 3 (dxs aT 1)) 3 = 1 ∧ dbool (findO 3 (dxs aT 1)) 7 = true ∧ dint (findO 3 (dxs aT 1)) 13 = 9 ∧ whereT aT 3 = (0, 0, true) ∧ (dxs aT 0).length = 2 ∧ (dxs ((dxs aT 0).getD 0 []) 12).length = 0 ∧ dint aT 13 = 4 ∧ dint aT 14 = 10 ∧ (dxs (makeT aT 6 1) 2).length = 2 ∧ dint (makeT aT 6 1) 14 = 11 := by
 refine ⟨?_, ?_, ?_, ?_, ?_, ?_, ?_, ?_, ?_, ?_, ?_, ?_, ?_, ?_⟩ <;> kernel_rfl
theorem zsC_len : zsC.length = 19 := rfl
set_option maxRecDepth 100000 in
set_option maxHeartbeats 8000000 in
theorem alive_prog (w : World) : Calls Try.prog 11 #[] w fun e w' => e = .returned (.bool true) ∧ Below w.heap.size w w' := by
 obtain ⟨ba, hsz, _, _, _, xs, xo, zb, tz, xb⟩ := a_blocks w
 obtain ⟨W1, hW1⟩ : ∃ W, W = aW w := ⟨_, rfl⟩
 obtain ⟨cs, hcs⟩ : ∃ cs, cs = aSt w.heap.size := ⟨_, rfl⟩
 have RD := Lib.hid (show RdL (fun _ => True) 400 W1 kState cs aDs by rw [hW1, hcs]; exact a_rd w)
 obtain ⟨f1, f2, f3, f4, f5, f6, f7, f8, f9, f10, f11, f12, f13, f14⟩ := aT_facts
 have d13 : IntKind.i64.wrap (dint aDs 13 + 1) = dint aDs 13 + 1 := by kernel_rfl
 have d14 : IntKind.i64.wrap (dint aDs 14 + 1) = dint aDs 14 + 1 := by kernel_rfl
 have HM := Lib.hid (move_prog _ 400 cs aDs 1 0 1 false W1 RD.out (by omega) d13 d14)
 rw [f1] at HM
 have HAT := Lib.hid (show (moveT aDs 1 0 1 false).1 = aT from rfl)
 rw [HAT.out] at HM
 have XS := Lib.hid (show Bx W1 (w.heap.size + 3) 30 cs by rw [hW1, hcs]; exact xs)
 have XO := Lib.hid (show Bx W1 (w.heap.size + 4) 47 aOb by rw [hW1]; exact xo)
 have BA := Lib.hid (show Below w.heap.size w W1 by rw [hW1]; exact ba)
 have HSZ := Lib.hid (show W1.heap.size = w.heap.size + 5 by rw [hW1]; exact hsz)
 have HCL := Lib.hid (show cs.length = 19 by rw [hcs]; rfl)
 have HCS := Lib.hid hcs
 obtain ⟨WB, hWB⟩ : ∃ W, W = aWB w := ⟨_, rfl⟩
 obtain ⟨cs0, hcs0⟩ : ∃ l, l = aS0 w.heap.size := ⟨_, rfl⟩
 have HCA := Lib.hid (show cs0.toArray = #[.slice (some ⟨w.heap.size + 1 + 1, 0, none⟩) 2 2, .slice none 0 0, .slice none 0 0, .slice none 0 0, .slice none 0 0, .slice none 0 0, .slice none 0 0, .int .i64 0, .int .i64 0, .int .i64 0, .bool false, .int .i64 0, .int .i64 0, .int .i64 3, .int .i64 9, .int .u64 0, .slice none 0 0, .int .i64 0, .int .i64 0] by rw [hcs0]; rfl)
 have HWB := Lib.hid (show ((((w.alloc (.cells #[.int .i64 1] 3)).alloc (.cells #[.int .i64 2] 3)).alloc (.cells #[.int .i64 0, .int .i64 0, .int .i64 0, .int .i64 0, .int .i64 0, .int .i64 0, .int .i64 0, .int .i64 0, .int .i64 0, .bool false, .bool false, .slice (some ⟨w.heap.size + 1, 0, none⟩) 1 1, .slice (some ⟨w.heap.size, 0, none⟩) 1 1, .slice none 0 0, .int .i64 0, .int .i64 0, .int .i64 0, .int .i64 0, .int .i64 0, .int .i64 0, .int .i64 0, .int .i64 0, .int .i64 0, .bool false, .bool false, .slice none 0 0, .slice none 0 0, .slice none 0 0] 59)).alloc (.cells #[.slice none 0 0, .slice none 0 0, .slice none 0 0, .slice none 0 0, .slice none 0 0, .slice none 0 0, .slice none 0 0, .int .i64 0, .int .i64 0, .int .i64 0, .bool false, .int .i64 0, .int .i64 0, .int .i64 0, .int .i64 0, .int .u64 0, .slice none 0 0, .int .i64 0, .int .i64 0] 30)).setCells (w.heap.size + 1 + 1 + 1) 0 cs0 = WB by rw [hWB, hcs0]; rfl)
 rw [← hWB, ← hcs0] at xb
 have TZ := Lib.hid (show ((((w.alloc (.cells #[.int .i64 1] 3)).alloc (.cells #[.int .i64 2] 3)).alloc (.cells #[.int .i64 0, .int .i64 0, .int .i64 0, .int .i64 0, .int .i64 0, .int .i64 0, .int .i64 0, .int .i64 0, .int .i64 0, .bool false, .bool false, .slice (some ⟨w.heap.size + 1, 0, none⟩) 1 1, .slice (some ⟨w.heap.size, 0, none⟩) 1 1, .slice none 0 0, .int .i64 0, .int .i64 0, .int .i64 0, .int .i64 0, .int .i64 0, .int .i64 0, .int .i64 0, .int .i64 0, .int .i64 0, .bool false, .bool false, .slice none 0 0, .slice none 0 0, .slice none 0 0] 59)).alloc (.cells #[.slice none 0 0, .slice none 0 0, .slice none 0 0, .slice none 0 0, .slice none 0 0, .slice none 0 0, .slice none 0 0, .int .i64 0, .int .i64 0, .int .i64 0, .bool false, .int .i64 0, .int .i64 0, .int .i64 0, .int .i64 0, .int .u64 0, .slice none 0 0, .int .i64 0, .int .i64 0] 30)).there (w.heap.size + 1 + 1 + 1) 0 cs0.length from by rw [hcs0]; exact tz)
 have IZ := Lib.hid (show (Try.prog.info? 30).map (·.size) = some cs0.length by rw [infoState, hcs0]; rfl)
 have OZ := Lib.hid (show ∀ u ∈ cs0, u.oneCell' = true by
  intro u hu
  simp only [hcs0, aS0, List.mem_cons, List.not_mem_nil, or_false] at hu
  rcases hu with rfl | rfl | rfl | rfl | rfl | rfl | rfl | rfl | rfl | rfl | rfl | rfl | rfl | rfl | rfl | rfl | rfl | rfl | rfl <;> rfl)
 have zw : WB.heap.size = w.heap.size + 4 := by rw [hWB]; exact zb
 have HZW := Lib.hid zw
 have k1 : (WB.alloc (.cells #[.int .i64 1, .int .i64 4, .int .i64 0, .int .i64 0, .int .i64 1, .bool false, .bool false, .bool false, .bool false, .int .i64 0, .int .i64 0, .int .i64 0, .int .i64 0, .int .i64 0, .int .i64 (-1), .int .i64 (-1), .bool false, .int .i64 0, .int .i64 0, .int .i64 2, .int .i64 5, .int .i64 0, .int .i64 0, .int .i64 2, .bool false, .bool false, .bool false, .bool false, .int .i64 0, .int .i64 0, .int .i64 0, .int .i64 0, .int .i64 0, .int .i64 (-1), .int .i64 (-1), .bool false, .int .i64 0, .int .i64 0] 47)).cell? ⟨w.heap.size + 1 + 1 + 1, 1, none⟩ = some (.slice none 0 0) := xb.cell 1 _ (by rw [hcs0]; rfl)
 have k2 : (WB.alloc (.cells #[.int .i64 1, .int .i64 4, .int .i64 0, .int .i64 0, .int .i64 1, .bool false, .bool false, .bool false, .bool false, .int .i64 0, .int .i64 0, .int .i64 0, .int .i64 0, .int .i64 0, .int .i64 (-1), .int .i64 (-1), .bool false, .int .i64 0, .int .i64 0, .int .i64 2, .int .i64 5, .int .i64 0, .int .i64 0, .int .i64 2, .bool false, .bool false, .bool false, .bool false, .int .i64 0, .int .i64 0, .int .i64 0, .int .i64 0, .int .i64 0, .int .i64 (-1), .int .i64 (-1), .bool false, .int .i64 0, .int .i64 0] 47)).frozen? ⟨w.heap.size + 1 + 1 + 1, 1, none⟩ = false := xb.frozen 1
 have HW1 := Lib.hid (show (WB.alloc (.cells #[.int .i64 1, .int .i64 4, .int .i64 0, .int .i64 0, .int .i64 1, .bool false, .bool false, .bool false, .bool false, .int .i64 0, .int .i64 0, .int .i64 0, .int .i64 0, .int .i64 0, .int .i64 (-1), .int .i64 (-1), .bool false, .int .i64 0, .int .i64 0, .int .i64 2, .int .i64 5, .int .i64 0, .int .i64 0, .int .i64 2, .bool false, .bool false, .bool false, .bool false, .int .i64 0, .int .i64 0, .int .i64 0, .int .i64 0, .int .i64 0, .int .i64 (-1), .int .i64 (-1), .bool false, .int .i64 0, .int .i64 0] 47)).setCell ⟨w.heap.size + 1 + 1 + 1, 1, none⟩ (.slice (some ⟨WB.heap.size, 0, none⟩) 2 2) = W1 by rw [hW1, zw, hWB]; rfl)
 have rg1 : W1.rangeAt (w.heap.size + 3) 0 cs := by rw [hW1, hcs]; exact xs.range
 rw [← HW1.out] at rg1
 have RG1 := Lib.hid rg1
 have HI1 := Lib.hid (show (Try.prog.info? 30).map (·.size) = some cs.length by rw [infoState, hcs]; rfl)
 have HF2 := Lib.hid f2
 have F3 := Lib.hid (And.intro f3 (And.intro f4 (And.intro f5 (And.intro f6 f7))))
 have F8 := Lib.hid f8
 have F9 := Lib.hid (And.intro f9 f10)
 have F11 := Lib.hid (And.intro f11 f12)
 have F13 := Lib.hid (And.intro f13 f14)
 clear ba hsz xs xo zb tz xb hWB hcs0 zw rg1 hW1 hcs d13 d14 f1 f2 f3 f4 f5 f6 f7 f8 f9 f10 f11 f12 f13 f14
 go_enter Try.func11, Try.ntmps11
 go_wp2_with (first | ((with_reducible refine wpList_store_cs rfl 30 (.tmp 1) (.tmp 16) rfl (w.heap.size + 1 + 1 + 1) 0 cs0 ?_ ?_ TZ.out IZ.out OZ.out ?_); rfl; (rw [HCA.out]; rfl); rw [HWB.out]) | ((with_reducible refine wpList_load_mid rfl 30 (.tmp 1) rfl (w.heap.size + 3) 0 ?_ cs _ RG1.out Try.underlying30 rfl HI1.out ?_); rfl))
 rw [HW1.out]
 refine HM.out.mono ?_
 rintro e w2 ⟨cs2, F2, rfl, r2, b2, _⟩
 have hl2 := r2.len.1
 rw [kState_len] at hl2
 obtain ⟨W3a, hW3a⟩ : ∃ W, W = w2.alloc (.cells #[.slice none 0 0, .slice none 0 0, .slice none 0 0, .slice none 0 0, .slice none 0 0, .slice none 0 0, .slice none 0 0, .int .i64 0, .int .i64 0, .int .i64 0, .bool false, .int .i64 0, .int .i64 0, .int .i64 0, .int .i64 0, .int .u64 0, .slice none 0 0, .int .i64 0, .int .i64 0] 30) := ⟨_, rfl⟩
 have zW3 : Bx W3a w2.heap.size 30 zsC := by rw [hW3a]; exact Bx.new w2 zsC _
 have lW3 : zsC.length = cs2.length := by rw [hl2]; rfl
 have tW3 := zW3.there
 rw [lW3, hW3a] at tW3
 have TW3 := Lib.hid tW3
 have IW3 := Lib.hid (show (Try.prog.info? 30).map (·.size) = some cs2.length by rw [infoState, hl2])
 have OW3 := Lib.hid (r2.one)
 obtain ⟨W3, hW3⟩ : ∃ W, W = W3a.setCells w2.heap.size 0 cs2 := ⟨_, rfl⟩
 have XW3 := Lib.hid (show Bx W3 w2.heap.size 30 cs2 by rw [hW3]; exact zW3.setAll cs2 lW3.symm)
 have bW3 : Below w2.heap.size w2 W3 := by rw [hW3]; exact below_sets _ _ _ (show Below w2.heap.size w2 W3a by rw [hW3a]; exact (Below.refl _ _).alloc (Nat.le_refl _) _) _ (Nat.le_refl _)
 have BW3 := Lib.hid bW3
 have HW3 := Lib.hid (show W3 = _ by rw [hW3, hW3a])
 clear hW3a zW3 lW3 tW3 hW3 bW3
 have R3 := Lib.hid (r2.old BW3.out)
 have HFI := Lib.hid (find_prog F2 _ cs2 aT 3 W3 R3.out (by omega))
 rw [HF2.out] at HFI
 have rg3 := XW3.out.range
 rw [HW3.out] at rg3
 have RG3 := Lib.hid rg3
 have B2 := Lib.hid b2
 have HL2 := Lib.hid hl2
 clear rg3 r2 b2 hl2
 go_wp2_with (first | ((with_reducible refine wpList_store_cs rfl 30 (.tmp 2) (.tmp 24) rfl w2.heap.size 0 cs2 ?_ ?_ TW3.out IW3.out OW3.out ?_); rfl; rfl) | ((with_reducible refine wpList_load_mid rfl 30 (.tmp 2) rfl w2.heap.size 0 ?_ cs2 _ RG3.out Try.underlying30 rfl IW3.out ?_); rfl))
 rw [← HW3.out]
 refine HFI.out.mono ?_
 rintro e w4 ⟨oc, rfl, ro, b4⟩
 have hol := ro.len.1
 rw [kObject_len] at hol
 obtain ⟨W5a, hW5a⟩ : ∃ W, W = w4.alloc (.cells #[.int .i64 0, .int .i64 0, .int .i64 0, .int .i64 0, .int .i64 0, .bool false, .bool false, .bool false, .bool false, .int .i64 0, .int .i64 0, .int .i64 0, .int .i64 0, .int .i64 0, .int .i64 0, .int .i64 0, .bool false, .int .i64 0, .int .i64 0] 47) := ⟨_, rfl⟩
 have zW5 : Bx W5a w4.heap.size 47 zObjC.1 := by rw [hW5a]; exact Bx.new w4 zObjC.1 _
 have lW5 : zObjC.1.length = oc.length := by rw [hol]; rfl
 have tW5 := zW5.there
 rw [lW5, hW5a] at tW5
 have TW5 := Lib.hid tW5
 have IW5 := Lib.hid (show (Try.prog.info? 47).map (·.size) = some oc.length by rw [infoObject, hol])
 have OW5 := Lib.hid (ro.one)
 obtain ⟨W5, hW5⟩ : ∃ W, W = W5a.setCells w4.heap.size 0 oc := ⟨_, rfl⟩
 have XW5 := Lib.hid (show Bx W5 w4.heap.size 47 oc by rw [hW5]; exact zW5.setAll oc lW5.symm)
 have bW5 : Below w4.heap.size w4 W5 := by rw [hW5]; exact below_sets _ _ _ (show Below w4.heap.size w4 W5a by rw [hW5a]; exact (Below.refl _ _).alloc (Nat.le_refl _) _) _ (Nat.le_refl _)
 have BW5 := Lib.hid bW5
 have HW5 := Lib.hid (show W5 = _ by rw [hW5, hW5a])
 clear hW5a zW5 lW5 tW5 hW5 bW5
 have bb := b4.trans (BW5.out.mono b4.size)
 have R5 := Lib.hid (R3.out.old bb)
 have HWH := Lib.hid (where_prog F2 _ cs2 aT 3 W5 R5.out (by omega))
 rw [F8.out] at HWH
 have XT5 := Lib.hid (XW3.out.old bb)
 have rg5 := XT5.out.range
 rw [HW5.out] at rg5
 have RG5 := Lib.hid rg5
 have B4 := Lib.hid b4
 have BB5 := Lib.hid bb
 have RO := Lib.hid ro
 clear rg5 ro b4 hol bb
 go_wp2_with (first | ((with_reducible refine wpList_store_cs rfl 47 (.tmp 4) (.tmp 29) rfl w4.heap.size 0 oc ?_ ?_ TW5.out IW5.out OW5.out ?_); rfl; rfl) | ((with_reducible refine wpList_load_mid rfl 30 (.tmp 2) rfl w2.heap.size 0 ?_ cs2 _ RG5.out Try.underlying30 rfl IW3.out ?_); rfl))
 rw [← HW5.out]
 refine HWH.out.mono ?_
 rintro e w6 ⟨rfl, b6⟩
 have e13 : IntKind.i64.wrap (dint aT 13 + 1) = dint aT 13 + 1 := by rw [F11.out.1]; rfl
 have e14 : IntKind.i64.wrap (dint aT 14 + 1) = dint aT 14 + 1 := by rw [F11.out.2]; rfl
 have HMK := Lib.hid (make_prog F2 _ cs2 aT 6 1 w6 (R5.out.old b6) (by omega) e13 e14)
 rw [F11.out.1] at HMK
 have RG6 := Lib.hid (XT5.out.old b6).range
 have B6 := Lib.hid b6
 clear b6 e13 e14
 go_wp2_with ((with_reducible refine wpList_load_mid rfl 30 (.tmp 2) rfl w2.heap.size 0 ?_ cs2 _ RG6.out Try.underlying30 rfl IW3.out ?_); rfl)
 refine HMK.out.mono ?_
 rintro e w7 ⟨cs7, F7, rfl, r7, b7, _⟩
 have hl7 := r7.len.1
 rw [kState_len] at hl7
 obtain ⟨W8a, hW8a⟩ : ∃ W, W = w7.alloc (.cells #[.slice none 0 0, .slice none 0 0, .slice none 0 0, .slice none 0 0, .slice none 0 0, .slice none 0 0, .slice none 0 0, .int .i64 0, .int .i64 0, .int .i64 0, .bool false, .int .i64 0, .int .i64 0, .int .i64 0, .int .i64 0, .int .u64 0, .slice none 0 0, .int .i64 0, .int .i64 0] 30) := ⟨_, rfl⟩
 have zW8 : Bx W8a w7.heap.size 30 zsC := by rw [hW8a]; exact Bx.new w7 zsC _
 have lW8 : zsC.length = cs7.length := by rw [hl7]; rfl
 have tW8 := zW8.there
 rw [lW8, hW8a] at tW8
 have TW8 := Lib.hid tW8
 have IW8 := Lib.hid (show (Try.prog.info? 30).map (·.size) = some cs7.length by rw [infoState, hl7])
 have OW8 := Lib.hid (r7.one)
 obtain ⟨W8, hW8⟩ : ∃ W, W = W8a.setCells w7.heap.size 0 cs7 := ⟨_, rfl⟩
 have XW8 := Lib.hid (show Bx W8 w7.heap.size 30 cs7 by rw [hW8]; exact zW8.setAll cs7 lW8.symm)
 have bW8 : Below w7.heap.size w7 W8 := by rw [hW8]; exact below_sets _ _ _ (show Below w7.heap.size w7 W8a by rw [hW8a]; exact (Below.refl _ _).alloc (Nat.le_refl _) _) _ (Nat.le_refl _)
 have BW8 := Lib.hid bW8
 have HW8 := Lib.hid (show W8 = _ by rw [hW8, hW8a])
 clear hW8a zW8 lW8 tW8 hW8 bW8
 have r8 := r7.old BW8.out
 have b78 := b7.trans (BW8.out.mono b7.size)
 have b58 := B6.out.trans (b78.mono B6.out.size)
 have b38 := BB5.out.trans (b58.mono BB5.out.size)
 have b28 := BW3.out.trans (b38.mono BW3.out.size)
 have b18 := B2.out.trans (b28.mono B2.out.size)
 have k1 := XW5.out.old b58
 have o1 := k1.cell 1 _ (RO.out.int 1 rfl).1
 have o2 := k1.cell 2 _ (RO.out.int 2 rfl).1
 have o3 := k1.cell 3 _ (RO.out.int 3 rfl).1
 have o7 := k1.cell 7 _ (RO.out.bool 7 rfl).1
 have o13 := k1.cell 13 _ (RO.out.int 13 rfl).1
 rw [F3.out.1] at o1
 rw [F3.out.2.1] at o2
 rw [F3.out.2.2.1] at o3
 rw [F3.out.2.2.2.1] at o7
 rw [F3.out.2.2.2.2] at o13
 obtain ⟨v0, hv0, _, r0⟩ := (R5.out.old (B6.out.trans (b78.mono B6.out.size))).sl 0 _ _ rfl
 obtain ⟨a0, k0, rfl, _, _, _, hx0⟩ := r0.form
 have ct0 := (XT5.out.old b58).cell 0 _ hv0
 rcases hx0 with hx0 | ⟨g, o, rfl, hF, hgl, hE⟩
 ·have := F9.out.1
  rw [hx0] at this
  cases this
 obtain ⟨vs, hvs, hrd⟩ := hE.get 0 ((dxs aT 0).getD 0 []) (by
  have := F9.out.1
  rw [List.getD_eq_getElem?_getD, List.getElem?_eq_getElem (show 0 < (dxs aT 0).length by omega)]
  rfl)
 rw [show kPlayer.length = 14 by decide, Nat.zero_mul] at hvs
 obtain ⟨vh, hvh, _, rh⟩ := hrd.sl 12 _ _ rfl
 obtain ⟨ah, kh, rfl, _, _, _, _⟩ := rh.form
 have ch := hvs 12 _ hvh
 rw [F9.out.2] at ch
 rw [F9.out.1] at ct0
 have x8 := XW8.out
 obtain ⟨v2, hv2, _, rb⟩ := r8.sl 2 _ _ rfl
 obtain ⟨a2, k2, rfl, _, _, _, _⟩ := rb.form
 have cu2 := x8.cell 2 _ hv2
 rw [F13.out.1] at cu2
 have cu14 := x8.cell 14 _ (r8.int 14 rfl).1
 rw [F13.out.2] at cu14
 have s1 := (XS.out.old b18).cell 1 (.slice (some ⟨w.heap.size + 4, 0, none⟩) 2 2) (by rw [HCS.out]; rfl)
 have p0 := (XO.out.old b18).cell 0 (.int .i64 1) rfl
 rw [HW8.out] at o1 o2 o3 o7 o13 ct0 ch cu2 cu14 s1 p0
 have BF := Lib.hid (BA.out.trans (b18.mono BA.out.size))
 have p0' := p0
 have s1' := s1
 clear r7 b7 hl7 r8 b78 b58 b38 b28 b18 k1 hv0 r0 hgl hE hvs hrd hvh rh x8 hv2 rb
 go_wp2_with ((with_reducible refine wpList_store_cs rfl 30 (.tmp 9) (.tmp 40) rfl w7.heap.size 0 cs7 ?_ ?_ TW8.out IW8.out OW8.out ?_); rfl; rfl)
 rw [← HW8.out]
 go_ret
 exact ⟨rfl, BF.out⟩
end Go.Proofs.Ytiebjkbofoppaaa
end
section
namespace Go.Proofs.Ytiebjkbofoppaaa
open Go Go.ChangeShapes Go.WideShapes Go.ChangeAt Go.RowKit Go.Sort Cg
theorem own : ownKnob Try.prog.godebug = none := by kernel_rfl
theorem laidOut : laidOutB Try.prog = true := by kernel_rfl
set_option maxRecDepth 100000 in
theorem arg_of {H : Type} {enc : TypeId × Value → H} {W : World} {v : Value} {d : DataW H} {ps : List MemPlace} {r : Reach} {b0 : Nat} {t : TypeId} {ks : List K} (hu : ∃ fs, Try.prog.underlying t = some (.struct fs)) (hs : shapeOf Try.prog 12 t = some ks) (hv : Value.okWide Try.prog W r b0 t v)
  (h : DataW.Trod enc Try.prog W 0 (fun _ => true) true t v d ps) (hw : wok Try.prog t d) : ∃ cs es, v = .agg cs.toArray ∧ RdL (fun _ => True) reachBytes W ks cs es := by
 obtain ⟨fs, hu⟩ := hu
 unfold Value.okWide at hv
 rw [hu] at hv
 obtain ⟨cs, rfl, _, _⟩ := hv
 obtain ⟨fuel, hf⟩ := h
 obtain ⟨es, he⟩ := rd_of 12 t ks hs fuel cs.toList (d, ps) hf hw
 exact ⟨cs.toList, es, rfl, he⟩
def kWay : List K := kI 3 ++ [kB]
theorem shWay : shapeOf Try.prog 12 37 = some kWay := by kernel_rfl
theorem reach_le : reachBytes ≤ 140737488355328 := by decide
theorem reach_le2 : reachBytes + 300 ≤ 140737488355328 := by decide
end Go.Proofs.Ytiebjkbofoppaaa
end
section
namespace Cg
open Go Go.RowKit Go.Sort Go.Lib
def eqFieldsShape (f : TypeId → Option (List K)) (P : Program) : Nat → List Field → Option (List K)
 | _, [] => some []
 | o, x :: xs => match f x.type with
  | none => none
  | some ks => if x.offset = o ∧ P.cellsOf x.type = ks.length ∧ x.name ≠ "_" ∧ 0 < ks.length then (eqFieldsShape f P (o + ks.length) xs).map (ks ++ ·) else none
/-- The shape of a type whose values can be compared cell by cell. -/
def eqShape (P : Program) : Nat → TypeId → Option (List K)
 | 0, _ => none
 | n + 1, t => match P.underlying t with
  | some .bool => some [.lit .bool]
  | some .string => some [.lit .str]
  | some (.int .i64) => some [.lit .int]
  | some (.int .u64) => some [.lit .u64]
  | some (.array m e) => match eqShape P n e with
   | none => none
   | some ks => if P.cellsOf e = ks.length ∧ 0 < ks.length then some (List.replicate m ks).flatten else none
  | some (.struct fs) => if P.stoodInHeld t then none else eqFieldsShape (eqShape P n) P 0 fs.toList
  | _ => none
/-- Cells that fit a shape of no slices. -/
inductive Lits : List K → List Value → Prop
 | nil : Lits [] []
 | cons {k : Lk} {v : Value} {ks : List K} {vs : List Value} : isLit k v → Lits ks vs → Lits (.lit k :: ks) (v :: vs)
theorem Lits.len : ∀ {ks : List K} {vs : List Value}, Lits ks vs → vs.length = ks.length
 | _, _, .nil => rfl
 | _, _, .cons _ h => by simp [Lits.len h]
theorem Lits.split : ∀ {ks ks' : List K} {vs : List Value}, Lits (ks ++ ks') vs → Lits ks (vs.take ks.length) ∧ Lits ks' (vs.drop ks.length)
 | [], _, _, h => ⟨.nil, h⟩
 | _ :: ks, ks', _, .cons h1 h2 => ⟨.cons h1 (Lits.split h2).1, (Lits.split (ks := ks) h2).2⟩
theorem RdL.lits {F : Nat → Prop} {L : Nat} {w : World} : ∀ {ks : List K} {vs : List Value} {ds : List D}, RdL F L w ks vs ds → flatK ks → Lits ks vs
 | _, _, _, .nil, _ => .nil
 | _, _, _, .cons h1 h2, hf => by
  obtain ⟨l, hl⟩ := hf _ List.mem_cons_self
  subst hl
  cases h1 with
  | lit hv => exact .cons hv (RdL.lits h2 (fun k hk => hf k (List.mem_cons_of_mem _ hk)))
def lkEq : Value → Value → Bool
 | .int _ a, .int _ b => a == b
 | .bool a, .bool b => a == b
 | .string a, .string b => a.toList == b.toList
 | _, _ => false
def lksEq : List Value → List Value → Bool
 | [], [] => true
 | x :: xs, y :: ys => lkEq x y && lksEq xs ys
 | _, _ => false
theorem lkEq_iff {k : Lk} {x y : Value} (hx : isLit k x) (hy : isLit k y) : lkEq x y = true ↔ x = y := by
 cases k <;> obtain ⟨a, rfl⟩ := hx <;> obtain ⟨b, rfl⟩ := hy <;> simp [lkEq, ByteArray.toList_eq, ByteArray.ext_iff]
theorem lksEq_iff : ∀ {ks : List K} {xs ys : List Value}, Lits ks xs → Lits ks ys → (lksEq xs ys = true ↔ xs = ys)
 | _, _, _, .nil, .nil => by simp [lksEq]
 | _, _, _, .cons h1 h2, .cons h3 h4 => by
  rw [lksEq, Bool.and_eq_true, lkEq_iff h1 h3, lksEq_iff h2 h4]
  simp
theorem lksEq_append : ∀ {xs ys xs' ys' : List Value}, xs.length = ys.length → lksEq (xs ++ xs') (ys ++ ys') = (lksEq xs ys && lksEq xs' ys')
 | [], [], _, _, _ => by simp [lksEq]
 | x :: xs, y :: ys, _, _, h => by
  have h : xs.length = ys.length := by simpa using h
  rw [List.cons_append, List.cons_append, lksEq, lksEq, lksEq_append h, Bool.and_assoc]
 | [], _ :: _, _, _, h => by simp at h
 | _ :: _, [], _, _, h => by simp at h
def isAggB (P : Program) (t : TypeId) : Bool := match P.underlying t with
 | some (.struct _) | some (.array _ _) => true
 | _ => false
/-- A value of a type, and its cells. -/
def Rep (P : Program) (t : TypeId) (xs : List Value) (v : Value) : Prop := if isAggB P t = true then v = .agg xs.toArray else xs = [v]
variable {P : Program}
theorem eqShape_len : ∀ (n : Nat) (t : TypeId) (ks : List K), eqShape P n t = some ks → isAggB P t = false → ks.length = 1
 | 0, _, _, h, _ => by cases h
 | n + 1, t, ks, h, ha => by
  rw [eqShape] at h
  unfold isAggB at ha
  split at h
  ·cases h; rfl
  ·cases h; rfl
  ·cases h; rfl
  ·cases h; rfl
  ·rename_i hu; rw [hu] at ha; cases ha
  ·rename_i hu; rw [hu] at ha; cases ha
  ·cases h
theorem part_rep {n : Nat} {t : TypeId} {ks : List K} (hs : eqShape P n t = some ks) (hk : P.cellsOf t = ks.length) (w : World) (xs : List Value) (o : Nat) (ho : o + ks.length ≤ xs.length) :
  ∃ v, (part t xs.toArray o).run P w = .ok v w ∧ Rep P t ((xs.drop o).take ks.length) v := by
 have hu : ∃ d, P.underlying t = some d := by
  cases n with
  | zero => cases hs
  | succ n =>
   rw [eqShape] at hs
   cases hu : P.underlying t with
   | none => rw [hu] at hs; cases hs
   | some d => exact ⟨d, rfl⟩
 obtain ⟨d, hu⟩ := hu
 obtain ⟨i, hi⟩ := info_of_underlying hu
 cases ha : isAggB P t with
 | false =>
  have h1 := eqShape_len n t ks hs ha
  have hx : xs[o]? = some (xs[o]'(by omega)) := List.getElem?_eq_getElem _
  refine ⟨xs[o]'(by omega), ?_, ?_⟩
  ·unfold isAggB at ha
   rw [hu] at ha
   cases d <;> simp [part, isAgg, run_underlying hu, hx] <;> simp at ha
  ·unfold Rep
   rw [if_neg (by rw [ha]; simp), h1, List.drop_eq_getElem_cons (by omega)]
   rfl
 | true =>
  refine ⟨.agg (xs.toArray.extract o (o + P.cellsOf t)), ?_, ?_⟩
  ·unfold isAggB at ha
   rw [hu] at ha
   cases d <;> simp [part, isAgg, run_underlying hu, run_sizeOf w hi] at ha ⊢
  ·unfold Rep
   rw [if_pos ha, hk]
   congr 1
   apply Array.toList_inj.1
   rw [Array.toList_extract]
   simp [List.extract]
theorem eq_fields {f : TypeId → Option (List K)} {d n : Nat} (hf : ∀ t ks, f t = some ks → eqShape P n t = some ks) (IH : ∀ t ks, eqShape P n t = some ks → ∀ (w : World) (xs ys : List Value), Lits ks xs → Lits ks ys → ∀ x y, Rep P t xs x → Rep P t ys y → (Op.equalIn d t x y).run P w = .ok (lksEq xs ys) w) (w : World) (xs ys : List Value) :
  ∀ (fs : List Field) (o : Nat) (ks : List K), eqFieldsShape f P o fs = some ks → Lits ks (xs.drop o) → Lits ks (ys.drop o) → (Op.eqFields d xs.toArray ys.toArray fs).run P w = .ok (lksEq (xs.drop o) (ys.drop o)) w
 | [], o, ks, h, hx, hy => by
  rw [eqFieldsShape] at h
  cases h
  have e1 : xs.drop o = [] := List.eq_nil_of_length_eq_zero hx.len
  have e2 : ys.drop o = [] := List.eq_nil_of_length_eq_zero hy.len
  rw [e1, e2]
  rfl
 | x :: fs, o, ks, h, hx, hy => by
  rw [eqFieldsShape] at h
  cases e : f x.type with
  | none => rw [e] at h; cases h
  | some k1 =>
   rw [e] at h
   simp only at h
   split at h
   ·rename_i hc
    cases e2 : eqFieldsShape f P (o + k1.length) fs with
    | none => rw [e2] at h; cases h
    | some k2 =>
     rw [e2] at h
     obtain rfl := Option.some.inj h
     have sx := hx.split
     have sy := hy.split
     rw [List.drop_drop] at sx sy
     have lx := hx.len
     have ly := hy.len
     rw [List.length_append, List.length_drop] at lx ly
     have ih := eq_fields hf IH w xs ys fs (o + k1.length) k2 e2 sx.2 sy.2
     obtain ⟨v, hv, rv⟩ := part_rep (hf _ _ e) hc.2.1 w xs o (by omega)
     obtain ⟨u, hu, ru⟩ := part_rep (hf _ _ e) hc.2.1 w ys o (by omega)
     have heq := IH _ _ (hf _ _ e) w _ _ sx.1 sy.1 v u rv ru
     have ex : xs.drop o = (xs.drop o).take k1.length ++ xs.drop (o + k1.length) := by rw [← List.drop_drop, List.take_append_drop]
     have ey : ys.drop o = (ys.drop o).take k1.length ++ ys.drop (o + k1.length) := by rw [← List.drop_drop, List.take_append_drop]
     have es : lksEq (xs.drop o) (ys.drop o) = (lksEq ((xs.drop o).take k1.length) ((ys.drop o).take k1.length) && lksEq (xs.drop (o + k1.length)) (ys.drop (o + k1.length))) := by
      conv => lhs; rw [ex, ey]
      exact lksEq_append (by rw [List.length_take, List.length_take, List.length_drop, List.length_drop]; omega)
     rw [es]
     simp only [Op.eqFields, hc.2.2.1, ne_eq, not_false_eq_true, if_true, Sem.run_bind, hc.1, hv, hu, Result.andThen_ok, heq]
     cases hq : lksEq ((xs.drop o).take k1.length) ((ys.drop o).take k1.length)
     ·simp
     ·simpa using ih
   ·cases h
theorem eq_items {d n : Nat} {e : TypeId} {k1 : List K} (he : eqShape P n e = some k1) (hk : P.cellsOf e = k1.length) (hp : 0 < k1.length) (IH : ∀ (w : World) (xs ys : List Value), Lits k1 xs → Lits k1 ys → ∀ x y, Rep P e xs x → Rep P e ys y → (Op.equalIn d e x y).run P w = .ok (lksEq xs ys) w) (w : World) (xs ys : List Value) :
  ∀ (m i : Nat), Lits (List.replicate m k1).flatten (xs.drop (i * k1.length)) → Lits (List.replicate m k1).flatten (ys.drop (i * k1.length)) → (Op.eqItems d e (P.cellsOf e) xs.toArray ys.toArray (List.range' i m)).run P w = .ok (lksEq (xs.drop (i * k1.length)) (ys.drop (i * k1.length))) w
 | 0, i, hx, hy => by
  have e1 := List.eq_nil_of_length_eq_zero hx.len
  have e2 := List.eq_nil_of_length_eq_zero hy.len
  rw [e1, e2]
  rfl
 | m + 1, i, hx, hy => by
  rw [List.replicate_succ, List.flatten_cons] at hx hy
  have sx := hx.split
  have sy := hy.split
  have lx := hx.len
  have ly := hy.len
  rw [List.drop_drop] at sx sy
  rw [List.length_append, List.length_drop] at lx ly
  have ei : i * k1.length + k1.length = (i + 1) * k1.length := by rw [Nat.add_mul]; omega
  rw [ei] at sx sy
  have ih := eq_items he hk hp IH w xs ys m (i + 1) sx.2 sy.2
  obtain ⟨v, hv, rv⟩ := part_rep he hk w xs (i * k1.length) (by omega)
  obtain ⟨u, hu, ru⟩ := part_rep he hk w ys (i * k1.length) (by omega)
  have heq := IH w _ _ sx.1 sy.1 v u rv ru
  have ex : xs.drop (i * k1.length) = (xs.drop (i * k1.length)).take k1.length ++ xs.drop ((i + 1) * k1.length) := by rw [← ei, ← List.drop_drop, List.take_append_drop]
  have ey : ys.drop (i * k1.length) = (ys.drop (i * k1.length)).take k1.length ++ ys.drop ((i + 1) * k1.length) := by rw [← ei, ← List.drop_drop, List.take_append_drop]
  have es : lksEq (xs.drop (i * k1.length)) (ys.drop (i * k1.length)) = (lksEq ((xs.drop (i * k1.length)).take k1.length) ((ys.drop (i * k1.length)).take k1.length) && lksEq (xs.drop ((i + 1) * k1.length)) (ys.drop ((i + 1) * k1.length))) := by
   conv => lhs; rw [ex, ey]
   exact lksEq_append (by rw [List.length_take, List.length_take, List.length_drop, List.length_drop]; omega)
  rw [es, List.range'_succ]
  rw [← hk] at hv hu
  simp only [Op.eqItems, Sem.run_bind, hv, hu, Result.andThen_ok, heq]
  cases hq : lksEq ((xs.drop (i * k1.length)).take k1.length) ((ys.drop (i * k1.length)).take k1.length)
  ·simp
  ·simpa using ih
theorem rep_one {t : TypeId} {xs : List Value} {v : Value} (ha : isAggB P t = false) (h : Rep P t xs v) : xs = [v] := by
 unfold Rep at h
 rwa [if_neg (by rw [ha]; simp)] at h
theorem rep_agg {t : TypeId} {xs : List Value} {v : Value} (ha : isAggB P t = true) (h : Rep P t xs v) : v = .agg xs.toArray := by
 unfold Rep at h
 rwa [if_pos ha] at h
/-- Comparison of two values of such a type: cell by cell. -/
theorem eq_deep : ∀ (n : Nat) (t : TypeId) (ks : List K), eqShape P n t = some ks → ∀ (d : Nat), n ≤ d → ∀ (w : World) (xs ys : List Value), Lits ks xs → Lits ks ys → ∀ x y, Rep P t xs x → Rep P t ys y → (Op.equalIn d t x y).run P w = .ok (lksEq xs ys) w
 | 0, _, _, h, _, _, _, _, _, _, _, _, _, _, _ => by cases h
 | n + 1, t, ks, h, 0, hd, _, _, _, _, _, _, _, _, _ => by omega
 | n + 1, t, ks, h, d + 1, hd, w, xs, ys, hx, hy, x, y, rx, ry => by
  rw [eqShape] at h
  split at h
  ·rename_i hu
   have ha : isAggB P t = false := by unfold isAggB; rw [hu]
   cases h
   obtain rfl := rep_one ha rx
   obtain rfl := rep_one ha ry
   obtain ⟨⟨a, rfl⟩, _⟩ : isLit .bool x ∧ True := by cases hx with | cons h _ => exact ⟨h, trivial⟩
   obtain ⟨⟨b, rfl⟩, _⟩ : isLit .bool y ∧ True := by cases hy with | cons h _ => exact ⟨h, trivial⟩
   rw [run_equalIn_bool w d t a b hu]
   simp [lksEq, lkEq]
  ·rename_i hu
   have ha : isAggB P t = false := by unfold isAggB; rw [hu]
   cases h
   obtain rfl := rep_one ha rx
   obtain rfl := rep_one ha ry
   obtain ⟨⟨a, rfl⟩, _⟩ : isLit .str x ∧ True := by cases hx with | cons h _ => exact ⟨h, trivial⟩
   obtain ⟨⟨b, rfl⟩, _⟩ : isLit .str y ∧ True := by cases hy with | cons h _ => exact ⟨h, trivial⟩
   rw [run_equalIn_string w d t a b hu]
   simp [lksEq, lkEq]
  ·rename_i hu
   have ha : isAggB P t = false := by unfold isAggB; rw [hu]
   cases h
   obtain rfl := rep_one ha rx
   obtain rfl := rep_one ha ry
   obtain ⟨⟨a, rfl⟩, _⟩ : isLit .int x ∧ True := by cases hx with | cons h _ => exact ⟨h, trivial⟩
   obtain ⟨⟨b, rfl⟩, _⟩ : isLit .int y ∧ True := by cases hy with | cons h _ => exact ⟨h, trivial⟩
   rw [run_equalIn_int w d t _ _ a b hu]
   simp [lksEq, lkEq]
  ·rename_i hu
   have ha : isAggB P t = false := by unfold isAggB; rw [hu]
   cases h
   obtain rfl := rep_one ha rx
   obtain rfl := rep_one ha ry
   obtain ⟨⟨a, rfl⟩, _⟩ : isLit .u64 x ∧ True := by cases hx with | cons h _ => exact ⟨h, trivial⟩
   obtain ⟨⟨b, rfl⟩, _⟩ : isLit .u64 y ∧ True := by cases hy with | cons h _ => exact ⟨h, trivial⟩
   rw [run_equalIn_int w d t _ _ a b hu]
   simp [lksEq, lkEq]
  ·rename_i m e hu
   have ha : isAggB P t = true := by unfold isAggB; rw [hu]
   obtain rfl := rep_agg ha rx
   obtain rfl := rep_agg ha ry
   cases he : eqShape P n e with
   | none => rw [he] at h; cases h
   | some k1 =>
    rw [he] at h
    simp only at h
    split at h
    ·rename_i hc
     obtain rfl := Option.some.inj h
     have hi : ∃ i, P.info? e = some i := by
      cases n with
      | zero => cases he
      | succ n =>
       rw [eqShape] at he
       cases hu2 : P.underlying e with
       | none => rw [hu2] at he; cases he
       | some _ => exact info_of_underlying hu2
     obtain ⟨i, hi⟩ := hi
     rw [run_equalIn_array w d _ _ hu hi]
     have := eq_items he hc.1 hc.2 (fun w xs ys h1 h2 x y r1 r2 => eq_deep n e k1 he d (by omega) w xs ys h1 h2 x y r1 r2) w xs ys m 0 (by simpa using hx) (by simpa using hy)
     rw [List.range_eq_range']
     simpa using this
    ·cases h
  ·rename_i fs hu
   have ha : isAggB P t = true := by unfold isAggB; rw [hu]
   obtain rfl := rep_agg ha rx
   obtain rfl := rep_agg ha ry
   split at h
   ·cases h
   ·rename_i hst
    have hfs : P.fieldsOf t = fs := by simp [Program.fieldsOf, hu]
    rw [run_equalIn_struct w d t _ _ (by rw [hfs]; exact hu) (by simpa using hst), hfs]
    have := eq_fields (f := eqShape P n) (d := d) (n := n) (fun t ks h => h) (fun t ks h w xs ys h1 h2 x y r1 r2 => eq_deep n t ks h d (by omega) w xs ys h1 h2 x y r1 r2) w xs ys fs.toList 0 ks h (by simpa using hx) (by simpa using hy)
    simpa using this
  ·cases h
/-- The operators == and != at such structs and arrays. -/
theorem run_eql_sh {n : Nat} {t : TypeId} {ks : List K} (hs : eqShape P n t = some ks) (hn : n ≤ 10000) (ha : isAggB P t = true) (w : World) (xs ys : List Value) (hx : Lits ks xs) (hy : Lits ks ys) :
  (binOp .eql t (.agg xs.toArray) (.agg ys.toArray)).run P w = .ok (.bool (lksEq xs ys)) w := by
 rw [run_eql_struct, eq_deep n t ks hs 10000 hn w xs ys hx hy _ _ (by unfold Rep; rw [if_pos ha]) (by unfold Rep; rw [if_pos ha])]
 rfl
theorem run_neq_sh {n : Nat} {t : TypeId} {ks : List K} (hs : eqShape P n t = some ks) (hn : n ≤ 10000) (ha : isAggB P t = true) (w : World) (xs ys : List Value) (hx : Lits ks xs) (hy : Lits ks ys) :
  (binOp .neq t (.agg xs.toArray) (.agg ys.toArray)).run P w = .ok (.bool (!lksEq xs ys)) w := by
 rw [run_neq_struct, eq_deep n t ks hs 10000 hn w xs ys hx hy _ _ (by unfold Rep; rw [if_pos ha]) (by unfold Rep; rw [if_pos ha])]
 rfl
end Cg
end
section
namespace Cg
open Go Go.RowKit Go.Sort Go.Lib
/-- What is read out of one cell, slices as trees: elements of k cells each. -/
inductive Tr where
 | lit (v : Value)
 | sl (k : Nat) (xs : List (List Tr))
instance : Inhabited Tr := ⟨.sl 0 []⟩
/-- What a cell of a variable holds: a tree that nobody writes any more; nil; the row number τ in its state number ver; whatever. -/
inductive Ce where
 | t (x : Tr)
 | nil
 | row (τ ver : Nat)
 | bot
instance : Inhabited Ce := ⟨.nil⟩
/-- What a slot holds. -/
inductive AV where
 | c (x : Ce)
 | agg (xs : List Ce)
 | ptr (b o : Nat)
 | iptr (xs : List Tr) (o : Nat)
 | eptr (τ ver k i o : Nat)
 | nilp
 | tup (vs : List AV)
 | fn (f : Nat) (caps : List (Nat × Nat))
 | bot
instance : Inhabited AV := ⟨.bot⟩
/-- A slice of the call's own. -/
structure Row where
 ty : Nat
 k : Nat
 ver : Nat
 xs : List (List Tr)
/-- Slots, variables in memory, rows; the next free number. -/
structure St where
 sl : List (Nat × AV)
 bx : List (Nat × List Ce)
 rw : List (Nat × Row)
 nx : Nat
def lk {α : Type} : List (Nat × α) → Nat → Option α
 | [], _ => none
 | (n, x) :: r, m => bif Nat.beq n m then some x else lk r m
def St.get (st : St) (t : Nat) : AV := match lk st.sl t with
 | some v => v
 | none => .bot
def St.put (st : St) (t : Nat) (v : AV) : St := match st with
 | ⟨sl, bx, rw, nx⟩ => ⟨(t, v) :: sl, bx, rw, nx⟩
def St.put? (st : St) (t : Option Nat) (v : AV) : St := match t with
 | some t => st.put t v
 | none => st
/-- What an operation changes. -/
structure Dl where
 v : AV
 bs : List (Nat × List Ce)
 rs : List (Nat × Row)
def Dl.val (v : AV) : Dl := ⟨v, [], []⟩
def St.app (st : St) (t : Option Nat) (d : Dl) : St := match st, d with
 | ⟨sl, bx, rw, nx⟩, ⟨v, bs, rs⟩ => match t with
  | some t => ⟨(t, v) :: sl, bs ++ bx, rs ++ rw, nx⟩
  | none => ⟨sl, bs ++ bx, rs ++ rw, nx⟩
def forceL {α : Type} (l : List α) (K : List α → Prop) : Prop := match l with
 | [] => K []
 | x :: r => K (x :: r)
theorem forceL_eq {α : Type} (l : List α) (K : List α → Prop) : forceL l K = K l := by cases l <;> rfl
/-- A list, written out. -/
def forceSp {α : Type} : List α → (List α → Prop) → Prop
 | [], K => K []
 | x :: r, K => forceSp r fun r' => K (x :: r')
theorem forceSp_eq {α : Type} : ∀ (l : List α) (K : List α → Prop), forceSp l K = K l
 | [], _ => rfl
 | x :: r, K => by rw [forceSp, forceSp_eq r]
/-- A number as a numeral. -/
def forceN (n : Nat) (K : Nat → Prop) : Prop := match n with
 | 0 => K 0
 | n + 1 => K (n + 1)
theorem forceN_eq (n : Nat) (K : Nat → Prop) : forceN n K = K n := by cases n <;> rfl
/-- The same state, its parts laid open. -/
def St.open_ (st : St) (K : St → Prop) : Prop := match st with
 | ⟨sl, bx, rw, nx⟩ => forceL bx fun bx => forceL rw fun rw => K ⟨sl, bx, rw, nx⟩
theorem St.open_eq (st : St) (K : St → Prop) : st.open_ K = K st := by
 cases st
 simp only [St.open_, forceL_eq]
/-- The same value, its head laid open. -/
def AV.open_ (a : AV) (K : AV → Prop) : Prop := match a with
 | .c x => (match x with
  | .t y => (match y with
   | .lit v => K (.c (.t (.lit v)))
   | .sl k xs => K (.c (.t (.sl k xs))))
  | .nil => K (.c .nil)
  | .row τ v => K (.c (.row τ v))
  | .bot => K (.c .bot))
 | .agg xs => forceSp xs fun xs => K (.agg xs)
 | .ptr b o => K (.ptr b o)
 | .iptr xs o => K (.iptr xs o)
 | .eptr τ ver k i o => K (.eptr τ ver k i o)
 | .nilp => K .nilp
 | .tup vs => K (.tup vs)
 | .fn f caps => K (.fn f caps)
 | .bot => K .bot
theorem AV.open_eq (a : AV) (K : AV → Prop) : a.open_ K = K a := by
 cases a with
 | c x => cases x with
  | t y => cases y <;> rfl
  | _ => rfl
 | agg xs => exact forceSp_eq _ _
 | _ => rfl
/-- Types, as far as they matter. -/
inductive Tk where
 | bas
 | int (k : IntKind)
 | string
 | slc (e : Nat)
 | arr (n e : Nat)
 | str (fs : List (Nat × Nat))
structure Ty where
 k : Tk
 sz : Nat
 by_ : Nat
 z : List Ce
 eq : List Lk
def Ty.isAgg (y : Ty) : Bool := match y.k with
 | .arr _ _ => true
 | .str _ => true
 | _ => false
def litV : Value → Bool
 | .int _ _ => true
 | .bool _ => true
 | .string _ => true
 | _ => false
def iv (n : Int) : Tr := .lit (.int .i64 n)
def bv (b : Bool) : Tr := .lit (.bool b)
def sv (s : ByteArray) : Tr := .lit (.string s)
def AV.i (n : Int) : AV := .c (.t (.lit (.int .i64 n)))
def AV.b (x : Bool) : AV := .c (.t (.lit (.bool x)))
def AV.s (x : ByteArray) : AV := .c (.t (.lit (.string x)))
def ev (st : St) : Operand → AV
 | .tmp t => st.get t
 | .const v => match v with
  | .int k n => .c (.t (.lit (.int k n)))
  | .bool b => .c (.t (.lit (.bool b)))
  | .string s => .c (.t (.lit (.string s)))
  | .slice none 0 0 => .c .nil
  | .pointer none => .nilp
  | _ => .bot
 | .func f => .fn f []
 | .global _ => .bot
/-- A part of a struct. -/
def cut (y : Ty) (cs : List Ce) (o : Nat) : Option AV :=
 if y.isAgg then (bif Nat.ble (o + y.sz) cs.length then some (.agg ((cs.drop o).take y.sz)) else none)
 else match cs[o]? with
  | some c => some (.c c)
  | none => none
def cutT (y : Ty) (cs : List Tr) (o : Nat) : Option AV :=
 if y.isAgg then (bif Nat.ble (o + y.sz) cs.length then some (.agg (((cs.drop o).take y.sz).map .t)) else none)
 else match cs[o]? with
  | some c => some (.c (.t c))
  | none => none
/-- A value's cells, as they are stored. -/
def cellsA : AV → Option (List Ce)
 | .c x => some [x]
 | .agg xs => some xs
 | _ => none
/-- A cell as a tree. -/
def treeC (st : St) : Ce → Option Tr
 | .t x => some x
 | .nil => some (.sl 0 [])
 | .row τ ver => match lk st.rw τ with
  | some R => bif Nat.beq R.ver ver then some (.sl R.k R.xs) else none
  | none => none
 | .bot => none
def treesC (st : St) : List Ce → Option (List Tr)
 | [] => some []
 | c :: cs => match treeC st c with
  | some x => match treesC st cs with
   | some xs => some (x :: xs)
   | none => none
  | none => none
/-- The elements of a slice. -/
def elemsA (st : St) : AV → Option (Nat × List (List Tr))
 | .c c => match treeC st c with
  | some (.sl k xs) => some (k, xs)
  | _ => none
 | _ => none
def cmpI (op : BinOp) (x y : Int) : Option Bool := match op with
 | .eql => some (x == y)
 | .neq => some (x != y)
 | .lss => some (decide (x < y))
 | .leq => some (decide (x ≤ y))
 | .gtr => some (decide (x > y))
 | .geq => some (decide (x ≥ y))
 | _ => none
/-- Operators on integers of one kind. -/
def binI (op : BinOp) (k : IntKind) (x y : Int) : Option Value := match op with
 | .add => some (.int k (k.wrap (x + y)))
 | .sub => some (.int k (k.wrap (x - y)))
 | .mul => some (.int k (k.wrap (x * y)))
 | .quo => bif decide (y = 0) then none else some (.int k (k.wrap (x.tdiv y)))
 | .rem => bif decide (y = 0) then none else some (.int k (x.tmod y))
 | .and => some (.int k (k.wrap (BitVec.ofInt k.bits x &&& BitVec.ofInt k.bits y).toNat))
 | .or => some (.int k (k.wrap (BitVec.ofInt k.bits x ||| BitVec.ofInt k.bits y).toNat))
 | .xor => some (.int k (k.wrap (BitVec.ofInt k.bits x ^^^ BitVec.ofInt k.bits y).toNat))
 | .andNot => some (.int k (k.wrap (BitVec.ofInt k.bits x &&& ~~~ BitVec.ofInt k.bits y).toNat))
 | .eql => some (.bool (x == y))
 | .neq => some (.bool (x != y))
 | .lss => some (.bool (decide (x < y)))
 | .leq => some (.bool (decide (x ≤ y)))
 | .gtr => some (.bool (decide (x > y)))
 | .geq => some (.bool (decide (x ≥ y)))
 | _ => none
def binB (op : BinOp) (x y : Bool) : Option Value := match op with
 | .eql => some (.bool (x == y))
 | .neq => some (.bool (!(x == y)))
 | _ => none
def lits? : List Ce → Option (List Value)
 | [] => some []
 | .t (.lit v) :: r => match lits? r with
  | some vs => some (v :: vs)
  | none => none
 | _ :: _ => none
def litIs : Lk → Value → Bool
 | .int, .int .i64 _ => true
 | .u64, .int .u64 _ => true
 | .bool, .bool _ => true
 | .str, .string _ => true
 | _, _ => false
def litsAre : List Lk → List Value → Bool
 | [], [] => true
 | k :: ks, v :: vs => litIs k v && litsAre ks vs
 | _, _ => false
/-- Cells of a struct written. -/
def spl {α : Type} : List α → Nat → List α → List α
 | [], _, us => us
 | c :: cs, 0, [] => c :: cs
 | _ :: cs, 0, u :: us => u :: spl cs 0 us
 | c :: cs, o + 1, us => c :: spl cs o us
theorem spl_eq {α : Type} : ∀ (cs : List α) (o : Nat) (us : List α), spl cs o us = cs.take o ++ us ++ cs.drop (o + us.length)
 | [], o, us => by rw [spl]; simp
 | c :: cs, 0, [] => by rw [spl]; simp
 | c :: cs, 0, u :: us => by
  rw [spl, spl_eq cs 0 us]
  simp
 | c :: cs, o + 1, us => by
  rw [spl, spl_eq cs o us, show o + 1 + us.length = o + us.length + 1 by omega]
  simp
def splice (cs : List Ce) (o : Nat) (us : List Ce) : List Ce := spl cs o us
def spliceT (cs : List Tr) (o : Nat) (us : List Tr) : List Tr := spl cs o us
theorem splice_eq (cs : List Ce) (o : Nat) (us : List Ce) : splice cs o us = cs.take o ++ us ++ cs.drop (o + us.length) := spl_eq _ _ _
theorem spliceT_eq (cs : List Tr) (o : Nat) (us : List Tr) : spliceT cs o us = cs.take o ++ us ++ cs.drop (o + us.length) := spl_eq _ _ _
end Cg
end
section
namespace Cg
open Go Go.RowKit Go.Sort Go.Lib
mutual
/-- A cell's value reads as a tree; F: in which blocks slices may lie. -/
inductive RT (F : Nat → Prop) (w : World) : Value → Tr → Prop
 | lit {v : Value} : litV v = true → RT F w v (.lit v)
 | slNil {k : Nat} {ao : Option Addr} {cap : Nat} : (ao = none → cap = 0) → RT F w (.slice ao 0 cap) (.sl k [])
 | slSome {k g o n cap : Nat} {xs : List (List Tr)} : n = xs.length → n ≤ cap → F g → g < w.heap.size → RTE F w k g o xs → RT F w (.slice (some ⟨g, o, none⟩) n cap) (.sl k xs)
inductive RTL (F : Nat → Prop) (w : World) : List Value → List Tr → Prop
 | nil : RTL F w [] []
 | cons {v : Value} {t : Tr} {vs : List Value} {ts : List Tr} : RT F w v t → RTL F w vs ts → RTL F w (v :: vs) (t :: ts)
inductive RTE (F : Nat → Prop) (w : World) : Nat → Nat → Nat → List (List Tr) → Prop
 | nil {k g o : Nat} : RTE F w k g o []
 | cons {k g o : Nat} {vs : List Value} {ts : List Tr} {xs : List (List Tr)} : vs.length = k → (∀ (i : Nat) u, vs[i]? = some u → w.cell? ⟨g, o + i, none⟩ = some u) → RTL F w vs ts → RTE F w k g (o + k) xs → RTE F w k g o (ts :: xs)
end
theorem RT.frame {F G : Nat → Prop} {w w' : World} (hs : w.heap.size ≤ w'.heap.size) (hb : ∀ b, F b → b < w.heap.size → w'.heap[b]? = w.heap[b]?) (hFG : ∀ b, F b → b < w.heap.size → G b) {v : Value} {t : Tr} (h : RT F w v t) : RT G w' v t := by
 refine RT.rec (motive_1 := fun v t _ => RT G w' v t) (motive_2 := fun vs ts _ => RTL G w' vs ts) (motive_3 := fun k g o xs _ => F g → g < w.heap.size → RTE G w' k g o xs) ?_ ?_ ?_ ?_ ?_ ?_ ?_ h
 ·exact fun hl => .lit hl
 ·exact fun hc => .slNil hc
 ·exact fun h1 h2 h3 h4 _ ih => .slSome h1 h2 (hFG _ h3 h4) (Nat.lt_of_lt_of_le h4 hs) (ih h3 h4)
 ·exact .nil
 ·exact fun _ _ ih1 ih2 => .cons ih1 ih2
 ·exact fun _ _ => .nil
 ·exact fun hl hc _ _ ih1 ih2 hF hlt => .cons hl (fun i u hu => (World.cell?_of_block (a := ⟨_, _, none⟩) (hb _ hF hlt)).trans (hc i u hu)) ih1 (ih2 hF hlt)
theorem RTL.frame {F G : Nat → Prop} {w w' : World} (hs : w.heap.size ≤ w'.heap.size) (hb : ∀ b, F b → b < w.heap.size → w'.heap[b]? = w.heap[b]?) (hFG : ∀ b, F b → b < w.heap.size → G b) : ∀ {vs : List Value} {ts : List Tr}, RTL F w vs ts → RTL G w' vs ts
 | _, _, .nil => .nil
 | _, _, .cons h1 h2 => .cons (h1.frame hs hb hFG) (RTL.frame hs hb hFG h2)
theorem RTE.frame {F G : Nat → Prop} {w w' : World} (hs : w.heap.size ≤ w'.heap.size) (hb : ∀ b, F b → b < w.heap.size → w'.heap[b]? = w.heap[b]?) (hFG : ∀ b, F b → b < w.heap.size → G b) {k g : Nat} (hF : F g) (hlt : g < w.heap.size) : ∀ {xs : List (List Tr)} {o : Nat}, RTE F w k g o xs → RTE G w' k g o xs
 | _, _, .nil => .nil
 | _, _, .cons hl hc h1 h2 => .cons hl (fun i u hu => (World.cell?_of_block (a := ⟨_, _, none⟩) (hb _ hF hlt)).trans (hc i u hu)) (h1.frame hs hb hFG) (RTE.frame hs hb hFG hF hlt h2)
theorem RT.one {F : Nat → Prop} {w : World} {v : Value} {t : Tr} (h : RT F w v t) : v.oneCell' = true := by
 cases h with
 | lit hl => cases v <;> first | rfl | cases hl
 | slNil => rfl
 | slSome => rfl
theorem RTL.len {F : Nat → Prop} {w : World} : ∀ {vs : List Value} {ts : List Tr}, RTL F w vs ts → vs.length = ts.length
 | _, _, .nil => rfl
 | _, _, .cons _ h => by simp [RTL.len h]
theorem RTL.one {F : Nat → Prop} {w : World} : ∀ {vs : List Value} {ts : List Tr}, RTL F w vs ts → ∀ u ∈ vs, u.oneCell' = true
 | _, _, .nil, _, hu => by cases hu
 | _, _, .cons h1 h2, u, hu => by
  rcases List.mem_cons.1 hu with rfl | hu
  ·exact h1.one
  ·exact RTL.one h2 u hu
theorem RTE.get {F : Nat → Prop} {w : World} {k g : Nat} : ∀ {xs : List (List Tr)} {o : Nat}, RTE F w k g o xs → ∀ (j : Nat) ts, xs[j]? = some ts → ∃ vs, vs.length = k ∧ (∀ (i : Nat) u, vs[i]? = some u → w.cell? ⟨g, o + j * k + i, none⟩ = some u) ∧ RTL F w vs ts
 | _, _, .cons hl hc h1 _, 0, ts, hd => by
  obtain rfl := Option.some.inj hd
  exact ⟨_, hl, fun i u hu => by rw [Nat.zero_mul, Nat.add_zero]; exact hc i u hu, h1⟩
 | _, o, .cons _ _ _ h2, j + 1, ts, hd => by
  obtain ⟨vs, h3, h4, h5⟩ := RTE.get h2 j ts hd
  refine ⟨vs, h3, fun i u hu => ?_, h5⟩
  have := h4 i u hu
  rwa [show o + k + j * k + i = o + (j + 1) * k + i by rw [Nat.add_mul]; omega] at this
theorem RTE.mk {F : Nat → Prop} {w : World} {k g : Nat} : ∀ (xs : List (List Tr)) (o : Nat), (∀ (j : Nat) ts, xs[j]? = some ts → ∃ vs, vs.length = k ∧ (∀ (i : Nat) u, vs[i]? = some u → w.cell? ⟨g, o + j * k + i, none⟩ = some u) ∧ RTL F w vs ts) → RTE F w k g o xs
 | [], _, _ => .nil
 | ts :: xs, o, h => by
  obtain ⟨vs, h0, h1, h2⟩ := h 0 ts rfl
  refine .cons h0 (fun i u hu => by have := h1 i u hu; rwa [Nat.zero_mul, Nat.add_zero] at this) h2 (RTE.mk xs (o + k) fun j ts' hj => ?_)
  obtain ⟨vs', h3, h4, h5⟩ := h (j + 1) ts' hj
  refine ⟨vs', h3, fun i u hu => ?_, h5⟩
  have := h4 i u hu
  rwa [show o + (j + 1) * k + i = o + k + j * k + i by rw [Nat.add_mul]; omega] at this
/-- Lists alike, place by place. -/
inductive A2 {α β : Type} (R : α → β → Prop) : List α → List β → Prop
 | nil : A2 R [] []
 | cons {x : α} {y : β} {xs : List α} {ys : List β} : R x y → A2 R xs ys → A2 R (x :: xs) (y :: ys)
theorem A2.len {α β : Type} {R : α → β → Prop} : ∀ {xs : List α} {ys : List β}, A2 R xs ys → xs.length = ys.length
 | _, _, .nil => rfl
 | _, _, .cons _ h => by simp [A2.len h]
theorem A2.imp {α β : Type} {R S : α → β → Prop} : ∀ {xs : List α} {ys : List β}, A2 R xs ys → (∀ x y, y ∈ ys → R x y → S x y) → A2 S xs ys
 | _, _, .nil, _ => .nil
 | _, _, .cons h1 h2, h => .cons (h _ _ List.mem_cons_self h1) (A2.imp h2 fun x y hy => h x y (List.mem_cons_of_mem _ hy))
theorem A2.get {α β : Type} {R : α → β → Prop} : ∀ {xs : List α} {ys : List β}, A2 R xs ys → ∀ (i : Nat) y, ys[i]? = some y → ∃ x, xs[i]? = some x ∧ R x y
 | _, _, .cons h _, 0, y, hy => by
  obtain rfl := Option.some.inj hy
  exact ⟨_, rfl, h⟩
 | _, _, .cons _ h, i + 1, y, hy => A2.get h i y hy
theorem A2.take {α β : Type} {R : α → β → Prop} : ∀ {xs : List α} {ys : List β}, A2 R xs ys → ∀ n, A2 R (xs.take n) (ys.take n)
 | _, _, .nil, n => by simpa using A2.nil
 | _, _, .cons h1 h2, 0 => .nil
 | _, _, .cons h1 h2, n + 1 => .cons h1 (A2.take h2 n)
theorem A2.drop {α β : Type} {R : α → β → Prop} : ∀ {xs : List α} {ys : List β}, A2 R xs ys → ∀ n, A2 R (xs.drop n) (ys.drop n)
 | _, _, .nil, n => by simpa using A2.nil
 | _, _, .cons h1 h2, 0 => .cons h1 h2
 | _, _, .cons _ h2, n + 1 => A2.drop h2 n
theorem A2.append {α β : Type} {R : α → β → Prop} : ∀ {xs : List α} {ys : List β} {xs' : List α} {ys' : List β}, A2 R xs ys → A2 R xs' ys' → A2 R (xs ++ xs') (ys ++ ys')
 | _, _, _, _, .nil, h => h
 | _, _, _, _, .cons h1 h2, h => .cons h1 (A2.append h2 h)
theorem RTL.a2 {F : Nat → Prop} {w : World} : ∀ {vs : List Value} {ts : List Tr}, RTL F w vs ts → A2 (RT F w) vs ts
 | _, _, .nil => .nil
 | _, _, .cons h1 h2 => .cons h1 (RTL.a2 h2)
theorem A2.rtl {F : Nat → Prop} {w : World} : ∀ {vs : List Value} {ts : List Tr}, A2 (RT F w) vs ts → RTL F w vs ts
 | _, _, .nil => .nil
 | _, _, .cons h1 h2 => .cons h1 (A2.rtl h2)
/-- What a block is. -/
inductive BRole where
 | cold
 | bx (i : Nat)
 | rw (i : Nat)
 | non
deriving DecidableEq
/-- Where things lie: the blocks' parts, the variables' blocks, the rows' slices. -/
structure Env where
 rl : Nat → BRole
 bk : Nat → Nat
 vl : Nat → Nat → Value
def Env.F (E : Env) : Nat → Prop := fun b => E.rl b = .cold
def RC (E : Env) (w : World) (v : Value) : Ce → Prop
 | .t x => RT E.F w v x
 | .nil => v = .slice none 0 0
 | .row τ ver => v = E.vl τ ver ∧ v.oneCell' = true
 | .bot => v.oneCell' = true
def capV (E : Env) (c : Nat × Nat) : Value := .pointer (some ⟨E.bk c.1, c.2, none⟩)
def R1 (E : Env) (w : World) (v : Value) : AV → Prop
 | .c x => RC E w v x
 | .agg xs => ∃ vs, v = .agg vs.toArray ∧ A2 (RC E w) vs xs
 | .ptr b o => v = .pointer (some ⟨E.bk b, o, none⟩)
 | .iptr xs o => ∃ g p vs, v = .pointer (some ⟨g, p + o, none⟩) ∧ E.rl g = .cold ∧ g < w.heap.size ∧ (∀ (i : Nat) u, vs[i]? = some u → w.cell? ⟨g, p + i, none⟩ = some u) ∧ RTL E.F w vs xs
 | .eptr τ ver k i o => ∃ g n c, E.vl τ ver = .slice (some ⟨g, 0, none⟩) n c ∧ v = .pointer (some ⟨g, i * k + o, none⟩)
 | .nilp => v = .pointer none
 | .fn f caps => v = .func (.func f) #[] (caps.map (capV E)).toArray
 | .tup _ => False
 | .bot => True
def RV (E : Env) (w : World) (v : Value) : AV → Prop
 | .tup ars => ∃ vs, v = .tuple vs.toArray ∧ A2 (R1 E w) vs ars
 | a => R1 E w v a
/-- Block b holds the cells cs. -/
def Bk (w : World) (b : Nat) (t : TypeId) (cs : List Value) : Prop := w.heap[b]? = some (.cells cs.toArray t (0, 0))
def RB (E : Env) (w : World) (n0 : Nat) (i : Nat) (cs : List Ce) : Prop := ∃ vs t, n0 ≤ E.bk i ∧ Bk w (E.bk i) t vs ∧ E.rl (E.bk i) = .bx i ∧ A2 (RC E w) vs cs
structure Ets {k : Nat} (F : Nat → Prop) (w : World) (es : List (Cl k)) (xs : List (List Tr)) : Prop where
 len : es.length = xs.length
 at_ : ∀ (j : Nat) (vs : Cl k) (ts : List Tr), es[j]? = some vs → xs[j]? = some ts → RTL F w vs.1 ts
def RR (E : Env) (w : World) (n0 : Nat) (τ : Nat) (R : Row) : Prop := ∃ es : List (Cl R.k), w.ownsRow n0 R.ty R.k (E.vl τ R.ver) es.length (es.flatMap Subtype.val) ∧ Ets E.F w es R.xs ∧ ∀ g, (E.vl τ R.ver).ownBlock = some g → E.rl g = .rw τ
/-- Which numbers a value names: of variables; of rows, with their states. -/
def Ce.rids : Ce → List (Nat × Nat)
 | .row τ v => [(τ, v)]
 | _ => []
def AV.rid1 : AV → List (Nat × Nat)
 | .c x => x.rids
 | .agg xs => xs.flatMap Ce.rids
 | .eptr τ v _ _ _ => [(τ, v)]
 | _ => []
def AV.bid1 : AV → List Nat
 | .ptr b _ => [b]
 | .fn _ caps => caps.map (·.1)
 | _ => []
def AV.rids : AV → List (Nat × Nat)
 | .tup ars => ars.flatMap AV.rid1
 | a => a.rid1
def AV.bids : AV → List Nat
 | .tup ars => ars.flatMap AV.bid1
 | a => a.bid1
def St.hasB (st : St) (b : Nat) : Prop := ∃ cs, lk st.bx b = some cs
def St.hasR (st : St) (p : Nat × Nat) : Prop := ∃ R, lk st.rw p.1 = some R ∧ p.2 ≤ R.ver
/-- Every number that is named stands for something, and is not free. -/
structure Sc (m : Nat) (st : St) : Prop where
 sb : ∀ t, ∀ b ∈ (st.get t).bids, st.hasB b
 sr : ∀ t, ∀ p ∈ (st.get t).rids, st.hasR p
 br : ∀ b cs, lk st.bx b = some cs → ∀ p ∈ cs.flatMap Ce.rids, st.hasR p
 fb : ∀ b cs, lk st.bx b = some cs → b < m
 fr : ∀ τ R, lk st.rw τ = some R → τ < m
structure RepM (O : Nat → Prop) (E : Env) (w : World) (n0 N m : Nat) (st : St) (a : Act) : Prop where
 dfr : a.defers = []
 sz : a.tmps.size = N
 slt : ∀ t, RV E w (a.tmps.getD t undef) (st.get t)
 box : ∀ i cs, lk st.bx i = some cs → RB E w n0 i cs
 row : ∀ τ R, lk st.rw τ = some R → RR E w n0 τ R
 sc : Sc m st
 hi : n0 ≤ w.heap.size
 old : ∀ b, b < n0 → (E.rl b = .cold → O b) ∧ ∀ τ, E.rl b ≠ .rw τ
abbrev RepS (O : Nat → Prop) (E : Env) (w : World) (n0 N : Nat) (st : St) (a : Act) : Prop := RepM O E w n0 N st.nx st a
end Cg
end
