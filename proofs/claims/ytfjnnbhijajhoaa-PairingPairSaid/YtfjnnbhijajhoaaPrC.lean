/- Chapter 56: record (the program's), before and clamp (the reference's). -/
import Derived.Test.YtfjnnbhijajhoaaPrB
namespace Go.Proofs.Ytfjnnbhijajhoaa
open Go Go.RowKit Go.Sort Cg
theorem intsElem : ElemIs Try.prog 32 3 (.int .i64 0) 1 8 := elemIs_mk Try.underlying32 (by kernel_rfl) rfl (by decide)
theorem grownBy_set {w w' : World} {row : Option Nat} (h : w.grownBy w' row) (a : Addr) (ha : w.heap.size ≤ a.block) (u : Value) : w.grownBy (w'.setCell a u) row :=
  ⟨h.os, h.tape, h.output, by have := h.size; simpa [World.setCell] using this, fun k hk hr => (Below.heap_setCell w' a u k (by omega)).trans (h.block k hk hr)⟩
theorem grownBy_sets {w : World} {row : Option Nat} (b : Nat) (hb : w.heap.size ≤ b) : ∀ (vs : List Value) (o : Nat) {w' : World}, w.grownBy w' row → w.grownBy (w'.setCells b o vs) row
  | [], _, _, h => h
  | v :: r, o, _, h => grownBy_sets b hb r (o + 1) (grownBy_set h ⟨b, o, none⟩ hb v)
theorem grownBy_pre {w w1 w2 : World} {row : Option Nat} (hb : Below w.heap.size w w1) (h : w1.grownBy w2 row) : w.grownBy w2 row :=
  ⟨h.os.trans hb.os, h.tape.trans hb.tape, h.output.trans hb.output, Nat.le_trans hb.size h.size, fun k hk hr => (h.block k (Nat.lt_of_lt_of_le hk hb.size) hr).trans (hb.block k hk)⟩
theorem own_setNe {w : World} {base e size n : Nat} {v : Value} {xs : List Value} (h : w.ownsRow base e size v n xs) {a : Addr} (ha : v.ownBlock ≠ some a.block) (u : Value) : (w.setCell a u).ownsRow base e size v n xs := by
  refine ⟨h.1, ?_⟩
  rcases h.2 with hn | ⟨g, cap, cur, rfl, hg, hgg, rest⟩
  · exact .inl hn
  · exact .inr ⟨g, cap, cur, rfl, hg, by rw [Below.heap_setCell _ _ _ _ (fun e => ha (by rw [← e]; rfl))]; exact hgg, rest⟩
theorem own_sets {base e size n : Nat} {v : Value} {xs : List Value} (b : Nat) (hb : v.ownBlock ≠ some b) : ∀ (vs : List Value) (o : Nat) {w : World}, w.ownsRow base e size v n xs → (w.setCells b o vs).ownsRow base e size v n xs
  | [], _, _, h => h
  | u :: r, o, _, h => own_sets b hb r (o + 1) (own_setNe h (a := ⟨b, o, none⟩) hb u)
/-- 'out = append(out, x)' at integers, with where the new row lies. -/
theorem wpList_append_at {P : Program} {w : World} {ops : Array Oper} {rest : List Oper} {o : Oper} {a : Act} {Q : Exit → Act → World → Prop} (hgd : o.guard = none) (s x : Operand) (t : TypeId)
    (ho : o.op = .call { callee := .builtin .append, args := #[s, x], argTypes := #[t, t] })
    (base : Nat) {e : TypeId} {z : Value} {bytes : Nat} (hE : ElemIs P t e z 1 bytes)
    (v : Value) (n : Nat) (xs : List Value) (hs : a.eval s = v) (hown : w.ownsRow base e 1 v n xs)
    (u : Value) (hx : a.eval x = .slice (some ⟨w.heap.size, 0, none⟩) 1 1) (h1 : u.oneCell' = true)
    (hn : (n + 1) * bytes ≤ 140737488355328) (hn1 : n < 140737488355328) (hbase : base ≤ w.heap.size)
    (h : ∀ g cap w', w'.ownsRow base e 1 (.slice (some ⟨g, 0, none⟩) (n + 1) cap) (n + 1) (xs ++ [u]) → w.grownBy w' v.ownBlock → (v.ownBlock = some g ∨ w.heap.size ≤ g) → wpList P ops Q rest (a.put o.dst (.slice (some ⟨g, 0, none⟩) (n + 1) cap)) w') :
    wpList P ops Q (o :: rest) a (w.alloc (.cells #[u] e)) := by
  obtain ⟨ht, hzs, hsz, i, hi, hz, hsize, hby⟩ := hE
  refine wpList_append_own_at (P := P) (w.alloc (.cells #[u] e)) hgd s x t ho base e i z 1 bytes ht hi hz hsize hby hzs hsz v n xs hs (hown.alloc _) ⟨w.heap.size, 0, none⟩ 1 1 [u] hx rfl (fun j y hj => cells_new w [u] e j y hj)
    (fun y hy => by rw [List.mem_singleton.1 hy]; exact h1) (by simp only [maxLen]; omega) hn (by show base ≤ (w.heap.push _).size; simp; omega) ?_
  intro v' w' hown' hgrow hnil hat
  obtain ⟨g, cap, rfl⟩ : ∃ g cap, v' = .slice (some ⟨g, 0, none⟩) (n + 1) cap := by
    rcases hown'.2 with ⟨hv, _⟩ | ⟨g, cap, cur, rfl, _⟩
    · exact absurd (hnil.1 hv).2 (by decide)
    · exact ⟨g, cap, rfl⟩
  refine h g cap w' hown' (grownBy_pre ((Below.refl _ _).alloc (Nat.le_refl _) _) hgrow) ?_
  rcases hat with hat | hat
  · exact .inl hat.symm
  · refine .inr ?_
    have : g = (w.alloc (.cells #[u] e)).heap.size := by simpa [Value.ownBlock] using hat
    rw [this]
    show w.heap.size ≤ (w.heap.push _).size
    simp
theorem push2 (h : Array Obj) (a b : Obj) : ((h.push a).push b)[h.size]? = some a ∧ ((h.push a).push b)[h.size + 1]? = some b := by
  refine ⟨?_, ?_⟩
  · rw [Array.getElem?_push, if_neg (by simp), Array.getElem?_push, if_pos rfl]
  · rw [Array.getElem?_push, if_pos (by simp)]
theorem own_lt {w : World} {base e size n : Nat} {v : Value} {xs : List Value} (h : w.ownsRow base e size v n xs) (k : Nat) (hk : w.heap.size ≤ k) : v.ownBlock ≠ some k := fun e => by
  have := (h.lt k e).2
  omega
theorem int8 {w : World} {B : Nat} {a b c d e f : Int} {v : Value} {t : Int} {ty : TypeId} (h : w.heap[B]? = some (.cells #[.int .i64 a, .int .i64 b, .int .i64 c, .int .i64 d, .int .i64 e, .int .i64 f, v, .int .i64 t] ty (0, 0))) :
    (w.cell? ⟨B, 0, none⟩ = some (.int .i64 a) ∧ w.cell? ⟨B, 1, none⟩ = some (.int .i64 b) ∧ w.cell? ⟨B, 2, none⟩ = some (.int .i64 c) ∧ w.cell? ⟨B, 3, none⟩ = some (.int .i64 d) ∧ w.cell? ⟨B, 4, none⟩ = some (.int .i64 e) ∧ w.cell? ⟨B, 5, none⟩ = some (.int .i64 f) ∧ w.cell? ⟨B, 6, none⟩ = some v ∧ w.cell? ⟨B, 7, none⟩ = some (.int .i64 t)) ∧ ∀ j, w.frozen? ⟨B, j, none⟩ = false :=
  ⟨⟨cell_of_row _ _ 0 _ _ _ h, cell_of_row _ _ 1 _ _ _ h, cell_of_row _ _ 2 _ _ _ h, cell_of_row _ _ 3 _ _ _ h, cell_of_row _ _ 4 _ _ _ h, cell_of_row _ _ 5 _ _ _ h, cell_of_row _ _ 6 _ _ _ h, cell_of_row _ _ 7 _ _ _ h⟩, fun j => by simp [World.frozen?, h]⟩
/-- The eight cells of a record, stored. -/
theorem store8 {X : World} {B : Nat} {ty : TypeId} {old : Array Value} (h : X.heap[B]? = some (.cells old ty (0, 0))) (ho : old.size = 8) (vs : List Value) (hv : vs.length = 8) : ∀ j (hj : j < 8), (X.setCells B 0 vs).cell? ⟨B, j, none⟩ = some (vs[j]'(by omega)) := fun j hj => by
  have := World.cell?_setCells_in B vs 0 X (fun i hi => by
    rw [Nat.zero_add, cell_of_row _ _ _ _ _ _ h, Array.getElem?_eq_getElem (by omega)]
    rfl) j (by omega)
  rwa [Nat.zero_add] at this
set_option maxRecDepth 100000 in
set_option maxHeartbeats 4000000 in
theorem record_prog (base : Nat) (n : Int) (k : Nat) (p : Int) (x : St) (v : Value) (o won lost : Int) (w : World) (hx : StOk n k p x) (hk : k ≤ 1000) (hown : w.ownsRow base 3 1 v x.opp.length (x.opp.map (Value.int .i64))) (hbase : base ≤ w.heap.size) :
    Calls Try.prog 21 #[stV x v, .int .i64 o, .int .i64 won, .int .i64 lost] w fun e w' => ∃ v', e = .returned (stV (recd x o won lost) v') ∧ w'.ownsRow base 3 1 v' (recd x o won lost).opp.length ((recd x o won lost).opp.map (Value.int .i64)) ∧ (v'.ownBlock = v.ownBlock ∨ ∃ g, v'.ownBlock = some g ∧ w.heap.size ≤ g) ∧ w.grownBy w' v.ownBlock := by
  obtain ⟨q1, hpt, hwi, hlo, hdw, hby, hopl, q2, q3⟩ := hx
  clear q1 q2 q3
  obtain ⟨pl, pt, wi, lo, dw, by_, opp, tie⟩ := x
  simp only at hpt hwi hlo hdw hby hopl hown
  have bx : Below w.heap.size w ((w.alloc (.cells #[.int .i64 pl, .int .i64 pt, .int .i64 wi, .int .i64 lo, .int .i64 dw, .int .i64 by_, v, .int .i64 tie] 35)).alloc (.cells #[.int .i64 0, .int .i64 0, .int .i64 0, .int .i64 0, .int .i64 0, .int .i64 0, .slice none 0 0, .int .i64 0] 35)) := ((Below.refl w.heap.size w).alloc (Nat.le_refl _) _).alloc (by show w.heap.size ≤ (w.heap.push _).size; simp) _
  have p2 := push2 w.heap (.cells #[.int .i64 pl, .int .i64 pt, .int .i64 wi, .int .i64 lo, .int .i64 dw, .int .i64 by_, v, .int .i64 tie] 35) (.cells #[.int .i64 0, .int .i64 0, .int .i64 0, .int .i64 0, .int .i64 0, .int .i64 0, .slice none 0 0, .int .i64 0] 35)
  obtain ⟨wx, hwx⟩ : ∃ wx, wx = (w.alloc (.cells #[.int .i64 pl, .int .i64 pt, .int .i64 wi, .int .i64 lo, .int .i64 dw, .int .i64 by_, v, .int .i64 tie] 35)).alloc (.cells #[.int .i64 0, .int .i64 0, .int .i64 0, .int .i64 0, .int .i64 0, .int .i64 0, .slice none 0 0, .int .i64 0] 35) := ⟨_, rfl⟩
  have hsz : wx.heap.size = w.heap.size + 2 := by rw [hwx]; show ((w.heap.push _).push _).size = _; simp
  have e1 : wx.heap = (w.heap.push (.cells #[.int .i64 pl, .int .i64 pt, .int .i64 wi, .int .i64 lo, .int .i64 dw, .int .i64 by_, v, .int .i64 tie] 35)).push (.cells #[.int .i64 0, .int .i64 0, .int .i64 0, .int .i64 0, .int .i64 0, .int .i64 0, .slice none 0 0, .int .i64 0] 35) := by rw [hwx]; rfl
  rw [← e1] at p2
  have L1 := Lib.hid p2.1
  have L2 := Lib.hid p2.2
  rw [← hwx] at bx
  have OX := Lib.hid (own_block hown bx)
  have HVL := Lib.hid (own_lt hown)
  have HWX := Lib.hid hwx
  have BX := Lib.hid bx
  have HSZ := Lib.hid hsz
  have c6 := (int8 L1.out).1.2.2.2.2.2.2.1
  rw [hwx] at c6
  clear p2 e1 hwx bx hsz hown
  go_enter Try.func21, Try.ntmps21
  by_cases hw : lost < won
  · have d1 : decide (lost < won) = true := decide_eq_true hw
    have HR := Lib.hid (show recd ⟨pl, pt, wi, lo, dw, by_, opp, tie⟩ o won lost = ⟨pl, pt + 3, wi + 1, lo, dw, by_, opp ++ [o], tie⟩ by rw [recd, if_pos hw])
    try clear he
    have HWX2 := HWX.out
    go_wp2_with (at_builtin; rw [← HWX2]; refine wpList_append_at rfl (.tmp 10) (.tmp 12) 32 rfl base intsElem v opp.length _ rfl OX.out (.int .i64 o) (by rw [HSZ.out]; rfl) rfl (by omega) (by omega) (by rw [HSZ.out]; omega) ?_; intro g cap w1 own1 grow1 hat; have M1 := (grow1.block w.heap.size (by rw [HSZ.out]; omega) (fun e => HVL.out _ (Nat.le_refl _) e.symm)).trans L1.out; have M2 := (grow1.block (w.heap.size + 1) (by rw [HSZ.out]; omega) (fun e => HVL.out _ (Nat.le_succ _) e.symm)).trans L2.out; obtain ⟨⟨c0, c1, c2, c3, c4, c5, c6', c7⟩, f0⟩ := int8 M1; obtain ⟨⟨d0, d1, d2, d3, d4, d5, d6, d7⟩, g0⟩ := int8 M2; have hgn : g ≠ w.heap.size ∧ g ≠ w.heap.size + 1 := (by rcases hat with hat | hat; (exact ⟨fun e => HVL.out _ (Nat.le_refl _) (by rw [hat, e]), fun e => HVL.out _ (Nat.le_succ _) (by rw [hat, e])⟩); (have := HSZ.out; exact ⟨by omega, by omega⟩)); have HGN := Lib.hid hgn; have O1 := Lib.hid own1; have G1 := Lib.hid grow1; have HAT := Lib.hid hat; have MM2 := Lib.hid M2; have f01 := f0 1; have f02 := f0 2; have f03 := f0 3; have f04 := f0 4; have f06 := f0 6; have g00 := g0 0; have g01 := g0 1; have g02 := g0 2; have g03 := g0 3; have g04 := g0 4; have g05 := g0 5; have g06 := g0 6; have g07 := g0 7; clear own1 grow1 hat M1 M2 hgn f0 g0 c6 HWX2)
    obtain ⟨Y, hY⟩ : ∃ Y, Y = (((w1.setCell ⟨w.heap.size, 6, none⟩ (.slice (some ⟨g, 0, none⟩) (opp.length + 1) cap)).setCell ⟨w.heap.size, 2, none⟩ (.int .i64 (wi + 1))).setCell ⟨w.heap.size, 1, none⟩ (.int .i64 (pt + 3))) := ⟨_, rfl⟩
    have OY : Y.ownsRow base 3 1 (.slice (some ⟨g, 0, none⟩) (opp.length + 1) cap) (opp.length + 1) (opp.map (Value.int .i64) ++ [.int .i64 o]) := by rw [hY]; exact own_setNe (own_setNe (own_setNe O1.out (by intro e; exact HGN.out.1 (by simpa [Value.ownBlock] using e)) _) (by intro e; exact HGN.out.1 (by simpa [Value.ownBlock] using e)) _) (by intro e; exact HGN.out.1 (by simpa [Value.ownBlock] using e)) _
    have GY : w.grownBy Y v.ownBlock := by rw [hY]; exact grownBy_set (grownBy_set (grownBy_set (grownBy_pre BX.out G1.out) _ (Nat.le_refl _) _) _ (Nat.le_refl _) _) _ (Nat.le_refl _) _
    have MY : Y.heap[w.heap.size + 1]? = some (.cells #[.int .i64 0, .int .i64 0, .int .i64 0, .int .i64 0, .int .i64 0, .int .i64 0, .slice none 0 0, .int .i64 0] 35 (0, 0)) := by rw [hY]; exact (Below.heap_setCell _ _ _ _ (by show w.heap.size + 1 ≠ w.heap.size; omega)).trans ((Below.heap_setCell _ _ _ _ (by show w.heap.size + 1 ≠ w.heap.size; omega)).trans ((Below.heap_setCell _ _ _ _ (by show w.heap.size + 1 ≠ w.heap.size; omega)).trans MM2.out))
    have OW := Lib.hid (own_sets (w.heap.size + 1) (fun e => HGN.out.2 (by simpa [Value.ownBlock] using e)) [.int .i64 (pl), .int .i64 (pt + 3), .int .i64 (wi + 1), .int .i64 (lo), .int .i64 (dw), .int .i64 by_, .slice (some ⟨g, 0, none⟩) (opp.length + 1) cap, .int .i64 tie] 0 OY)
    have GW := Lib.hid (grownBy_sets (w.heap.size + 1) (Nat.le_succ _) [.int .i64 (pl), .int .i64 (pt + 3), .int .i64 (wi + 1), .int .i64 (lo), .int .i64 (dw), .int .i64 by_, .slice (some ⟨g, 0, none⟩) (opp.length + 1) cap, .int .i64 tie] 0 GY)
    have KW := Lib.hid (store8 MY rfl [.int .i64 (pl), .int .i64 (pt + 3), .int .i64 (wi + 1), .int .i64 (lo), .int .i64 (dw), .int .i64 by_, .slice (some ⟨g, 0, none⟩) (opp.length + 1) cap, .int .i64 tie] rfl)
    have HY := Lib.hid hY
    clear OY GY MY hY
    obtain ⟨W, hW⟩ : ∃ W, W = Y.setCells (w.heap.size + 1) 0 [.int .i64 (pl), .int .i64 (pt + 3), .int .i64 (wi + 1), .int .i64 (lo), .int .i64 (dw), .int .i64 by_, .slice (some ⟨g, 0, none⟩) (opp.length + 1) cap, .int .i64 tie] := ⟨_, rfl⟩
    rw [← hW] at OW GW KW
    rw [HY.out] at hW
    change W = (((((((((((w1.setCell ⟨w.heap.size, 6, none⟩ (.slice (some ⟨g, 0, none⟩) (opp.length + 1) cap)).setCell ⟨w.heap.size, 2, none⟩ (.int .i64 (wi + 1))).setCell ⟨w.heap.size, 1, none⟩ (.int .i64 (pt + 3))).setCell ⟨w.heap.size + 1, 0, none⟩ (.int .i64 (pl))).setCell ⟨w.heap.size + 1, 1, none⟩ (.int .i64 (pt + 3))).setCell ⟨w.heap.size + 1, 2, none⟩ (.int .i64 (wi + 1))).setCell ⟨w.heap.size + 1, 3, none⟩ (.int .i64 (lo))).setCell ⟨w.heap.size + 1, 4, none⟩ (.int .i64 (dw))).setCell ⟨w.heap.size + 1, 5, none⟩ (.int .i64 by_)).setCell ⟨w.heap.size + 1, 6, none⟩ (.slice (some ⟨g, 0, none⟩) (opp.length + 1) cap)).setCell ⟨w.heap.size + 1, 7, none⟩ (.int .i64 tie)) at hW
    rw [← hW]
    have k0 := KW.out 0 (by omega)
    have k1 := KW.out 1 (by omega)
    have k2 := KW.out 2 (by omega)
    have k3 := KW.out 3 (by omega)
    have k4 := KW.out 4 (by omega)
    have k5 := KW.out 5 (by omega)
    have k6 := KW.out 6 (by omega)
    have k7 := KW.out 7 (by omega)
    simp only [List.getElem_cons_succ, List.getElem_cons_zero] at k0 k1 k2 k3 k4 k5 k6 k7
    refine bodyPost_ret (v := stV ⟨pl, pt + 3, wi + 1, lo, dw, by_, opp ++ [o], tie⟩ (.slice (some ⟨g, 0, none⟩) (opp.length + 1) cap)) (by simp [results, Try.results21, go_sem, k0, k1, k2, k3, k4, k5, k6, k7]) rfl ⟨.slice (some ⟨g, 0, none⟩) (opp.length + 1) cap, by rw [HR.out] <;> rfl, ?_, ?_, GW.out⟩
    · rw [HR.out]
      have h := OW.out
      show W.ownsRow base 3 1 _ (opp ++ [o]).length ((opp ++ [o]).map (Value.int .i64))
      rw [List.length_append, List.length_singleton, List.map_append]
      exact h
    · rcases HAT.out with h | h
      · exact .inl h.symm
      · exact .inr ⟨g, rfl, Nat.le_trans (by rw [HSZ.out]; omega) h⟩
  · have d1 : decide (lost < won) = false := decide_eq_false hw
    by_cases he : won = lost
    · have d2 : (won == lost) = true := beq_iff_eq.2 he
      have HR := Lib.hid (show recd ⟨pl, pt, wi, lo, dw, by_, opp, tie⟩ o won lost = ⟨pl, pt + 1, wi, lo, dw + 1, by_, opp ++ [o], tie⟩ by rw [recd, if_neg hw, if_pos he])
      try clear he
      have HWX2 := HWX.out
      go_wp2_with (at_builtin; rw [← HWX2]; refine wpList_append_at rfl (.tmp 10) (.tmp 12) 32 rfl base intsElem v opp.length _ rfl OX.out (.int .i64 o) (by rw [HSZ.out]; rfl) rfl (by omega) (by omega) (by rw [HSZ.out]; omega) ?_; intro g cap w1 own1 grow1 hat; have M1 := (grow1.block w.heap.size (by rw [HSZ.out]; omega) (fun e => HVL.out _ (Nat.le_refl _) e.symm)).trans L1.out; have M2 := (grow1.block (w.heap.size + 1) (by rw [HSZ.out]; omega) (fun e => HVL.out _ (Nat.le_succ _) e.symm)).trans L2.out; obtain ⟨⟨c0, c1, c2, c3, c4, c5, c6', c7⟩, f0⟩ := int8 M1; obtain ⟨⟨d0, d1, d2, d3, d4, d5, d6, d7⟩, g0⟩ := int8 M2; have hgn : g ≠ w.heap.size ∧ g ≠ w.heap.size + 1 := (by rcases hat with hat | hat; (exact ⟨fun e => HVL.out _ (Nat.le_refl _) (by rw [hat, e]), fun e => HVL.out _ (Nat.le_succ _) (by rw [hat, e])⟩); (have := HSZ.out; exact ⟨by omega, by omega⟩)); have HGN := Lib.hid hgn; have O1 := Lib.hid own1; have G1 := Lib.hid grow1; have HAT := Lib.hid hat; have MM2 := Lib.hid M2; have f01 := f0 1; have f02 := f0 2; have f03 := f0 3; have f04 := f0 4; have f06 := f0 6; have g00 := g0 0; have g01 := g0 1; have g02 := g0 2; have g03 := g0 3; have g04 := g0 4; have g05 := g0 5; have g06 := g0 6; have g07 := g0 7; clear own1 grow1 hat M1 M2 hgn f0 g0 c6 HWX2)
      obtain ⟨Y, hY⟩ : ∃ Y, Y = (((w1.setCell ⟨w.heap.size, 6, none⟩ (.slice (some ⟨g, 0, none⟩) (opp.length + 1) cap)).setCell ⟨w.heap.size, 4, none⟩ (.int .i64 (dw + 1))).setCell ⟨w.heap.size, 1, none⟩ (.int .i64 (pt + 1))) := ⟨_, rfl⟩
      have OY : Y.ownsRow base 3 1 (.slice (some ⟨g, 0, none⟩) (opp.length + 1) cap) (opp.length + 1) (opp.map (Value.int .i64) ++ [.int .i64 o]) := by rw [hY]; exact own_setNe (own_setNe (own_setNe O1.out (by intro e; exact HGN.out.1 (by simpa [Value.ownBlock] using e)) _) (by intro e; exact HGN.out.1 (by simpa [Value.ownBlock] using e)) _) (by intro e; exact HGN.out.1 (by simpa [Value.ownBlock] using e)) _
      have GY : w.grownBy Y v.ownBlock := by rw [hY]; exact grownBy_set (grownBy_set (grownBy_set (grownBy_pre BX.out G1.out) _ (Nat.le_refl _) _) _ (Nat.le_refl _) _) _ (Nat.le_refl _) _
      have MY : Y.heap[w.heap.size + 1]? = some (.cells #[.int .i64 0, .int .i64 0, .int .i64 0, .int .i64 0, .int .i64 0, .int .i64 0, .slice none 0 0, .int .i64 0] 35 (0, 0)) := by rw [hY]; exact (Below.heap_setCell _ _ _ _ (by show w.heap.size + 1 ≠ w.heap.size; omega)).trans ((Below.heap_setCell _ _ _ _ (by show w.heap.size + 1 ≠ w.heap.size; omega)).trans ((Below.heap_setCell _ _ _ _ (by show w.heap.size + 1 ≠ w.heap.size; omega)).trans MM2.out))
      have OW := Lib.hid (own_sets (w.heap.size + 1) (fun e => HGN.out.2 (by simpa [Value.ownBlock] using e)) [.int .i64 (pl), .int .i64 (pt + 1), .int .i64 (wi), .int .i64 (lo), .int .i64 (dw + 1), .int .i64 by_, .slice (some ⟨g, 0, none⟩) (opp.length + 1) cap, .int .i64 tie] 0 OY)
      have GW := Lib.hid (grownBy_sets (w.heap.size + 1) (Nat.le_succ _) [.int .i64 (pl), .int .i64 (pt + 1), .int .i64 (wi), .int .i64 (lo), .int .i64 (dw + 1), .int .i64 by_, .slice (some ⟨g, 0, none⟩) (opp.length + 1) cap, .int .i64 tie] 0 GY)
      have KW := Lib.hid (store8 MY rfl [.int .i64 (pl), .int .i64 (pt + 1), .int .i64 (wi), .int .i64 (lo), .int .i64 (dw + 1), .int .i64 by_, .slice (some ⟨g, 0, none⟩) (opp.length + 1) cap, .int .i64 tie] rfl)
      have HY := Lib.hid hY
      clear OY GY MY hY
      obtain ⟨W, hW⟩ : ∃ W, W = Y.setCells (w.heap.size + 1) 0 [.int .i64 (pl), .int .i64 (pt + 1), .int .i64 (wi), .int .i64 (lo), .int .i64 (dw + 1), .int .i64 by_, .slice (some ⟨g, 0, none⟩) (opp.length + 1) cap, .int .i64 tie] := ⟨_, rfl⟩
      rw [← hW] at OW GW KW
      rw [HY.out] at hW
      change W = (((((((((((w1.setCell ⟨w.heap.size, 6, none⟩ (.slice (some ⟨g, 0, none⟩) (opp.length + 1) cap)).setCell ⟨w.heap.size, 4, none⟩ (.int .i64 (dw + 1))).setCell ⟨w.heap.size, 1, none⟩ (.int .i64 (pt + 1))).setCell ⟨w.heap.size + 1, 0, none⟩ (.int .i64 (pl))).setCell ⟨w.heap.size + 1, 1, none⟩ (.int .i64 (pt + 1))).setCell ⟨w.heap.size + 1, 2, none⟩ (.int .i64 (wi))).setCell ⟨w.heap.size + 1, 3, none⟩ (.int .i64 (lo))).setCell ⟨w.heap.size + 1, 4, none⟩ (.int .i64 (dw + 1))).setCell ⟨w.heap.size + 1, 5, none⟩ (.int .i64 by_)).setCell ⟨w.heap.size + 1, 6, none⟩ (.slice (some ⟨g, 0, none⟩) (opp.length + 1) cap)).setCell ⟨w.heap.size + 1, 7, none⟩ (.int .i64 tie)) at hW
      rw [← hW]
      have k0 := KW.out 0 (by omega)
      have k1 := KW.out 1 (by omega)
      have k2 := KW.out 2 (by omega)
      have k3 := KW.out 3 (by omega)
      have k4 := KW.out 4 (by omega)
      have k5 := KW.out 5 (by omega)
      have k6 := KW.out 6 (by omega)
      have k7 := KW.out 7 (by omega)
      simp only [List.getElem_cons_succ, List.getElem_cons_zero] at k0 k1 k2 k3 k4 k5 k6 k7
      refine bodyPost_ret (v := stV ⟨pl, pt + 1, wi, lo, dw + 1, by_, opp ++ [o], tie⟩ (.slice (some ⟨g, 0, none⟩) (opp.length + 1) cap)) (by simp [results, Try.results21, go_sem, k0, k1, k2, k3, k4, k5, k6, k7]) rfl ⟨.slice (some ⟨g, 0, none⟩) (opp.length + 1) cap, by rw [HR.out] <;> rfl, ?_, ?_, GW.out⟩
      · rw [HR.out]
        have h := OW.out
        show W.ownsRow base 3 1 _ (opp ++ [o]).length ((opp ++ [o]).map (Value.int .i64))
        rw [List.length_append, List.length_singleton, List.map_append]
        exact h
      · rcases HAT.out with h | h
        · exact .inl h.symm
        · exact .inr ⟨g, rfl, Nat.le_trans (by rw [HSZ.out]; omega) h⟩
    · have d2 : (won == lost) = false := beq_eq_false_iff_ne.2 he
      have HR := Lib.hid (show recd ⟨pl, pt, wi, lo, dw, by_, opp, tie⟩ o won lost = ⟨pl, pt, wi, lo + 1, dw, by_, opp ++ [o], tie⟩ by rw [recd, if_neg hw, if_neg he])
      try clear he
      have HWX2 := HWX.out
      go_wp2_with (at_builtin; rw [← HWX2]; refine wpList_append_at rfl (.tmp 10) (.tmp 12) 32 rfl base intsElem v opp.length _ rfl OX.out (.int .i64 o) (by rw [HSZ.out]; rfl) rfl (by omega) (by omega) (by rw [HSZ.out]; omega) ?_; intro g cap w1 own1 grow1 hat; have M1 := (grow1.block w.heap.size (by rw [HSZ.out]; omega) (fun e => HVL.out _ (Nat.le_refl _) e.symm)).trans L1.out; have M2 := (grow1.block (w.heap.size + 1) (by rw [HSZ.out]; omega) (fun e => HVL.out _ (Nat.le_succ _) e.symm)).trans L2.out; obtain ⟨⟨c0, c1, c2, c3, c4, c5, c6', c7⟩, f0⟩ := int8 M1; obtain ⟨⟨d0, d1, d2, d3, d4, d5, d6, d7⟩, g0⟩ := int8 M2; have hgn : g ≠ w.heap.size ∧ g ≠ w.heap.size + 1 := (by rcases hat with hat | hat; (exact ⟨fun e => HVL.out _ (Nat.le_refl _) (by rw [hat, e]), fun e => HVL.out _ (Nat.le_succ _) (by rw [hat, e])⟩); (have := HSZ.out; exact ⟨by omega, by omega⟩)); have HGN := Lib.hid hgn; have O1 := Lib.hid own1; have G1 := Lib.hid grow1; have HAT := Lib.hid hat; have MM2 := Lib.hid M2; have f01 := f0 1; have f02 := f0 2; have f03 := f0 3; have f04 := f0 4; have f06 := f0 6; have g00 := g0 0; have g01 := g0 1; have g02 := g0 2; have g03 := g0 3; have g04 := g0 4; have g05 := g0 5; have g06 := g0 6; have g07 := g0 7; clear own1 grow1 hat M1 M2 hgn f0 g0 c6 HWX2)
      obtain ⟨Y, hY⟩ : ∃ Y, Y = ((w1.setCell ⟨w.heap.size, 6, none⟩ (.slice (some ⟨g, 0, none⟩) (opp.length + 1) cap)).setCell ⟨w.heap.size, 3, none⟩ (.int .i64 (lo + 1))) := ⟨_, rfl⟩
      have OY : Y.ownsRow base 3 1 (.slice (some ⟨g, 0, none⟩) (opp.length + 1) cap) (opp.length + 1) (opp.map (Value.int .i64) ++ [.int .i64 o]) := by rw [hY]; exact own_setNe (own_setNe O1.out (by intro e; exact HGN.out.1 (by simpa [Value.ownBlock] using e)) _) (by intro e; exact HGN.out.1 (by simpa [Value.ownBlock] using e)) _
      have GY : w.grownBy Y v.ownBlock := by rw [hY]; exact grownBy_set (grownBy_set (grownBy_pre BX.out G1.out) _ (Nat.le_refl _) _) _ (Nat.le_refl _) _
      have MY : Y.heap[w.heap.size + 1]? = some (.cells #[.int .i64 0, .int .i64 0, .int .i64 0, .int .i64 0, .int .i64 0, .int .i64 0, .slice none 0 0, .int .i64 0] 35 (0, 0)) := by rw [hY]; exact (Below.heap_setCell _ _ _ _ (by show w.heap.size + 1 ≠ w.heap.size; omega)).trans ((Below.heap_setCell _ _ _ _ (by show w.heap.size + 1 ≠ w.heap.size; omega)).trans MM2.out)
      have OW := Lib.hid (own_sets (w.heap.size + 1) (fun e => HGN.out.2 (by simpa [Value.ownBlock] using e)) [.int .i64 (pl), .int .i64 (pt), .int .i64 (wi), .int .i64 (lo + 1), .int .i64 (dw), .int .i64 by_, .slice (some ⟨g, 0, none⟩) (opp.length + 1) cap, .int .i64 tie] 0 OY)
      have GW := Lib.hid (grownBy_sets (w.heap.size + 1) (Nat.le_succ _) [.int .i64 (pl), .int .i64 (pt), .int .i64 (wi), .int .i64 (lo + 1), .int .i64 (dw), .int .i64 by_, .slice (some ⟨g, 0, none⟩) (opp.length + 1) cap, .int .i64 tie] 0 GY)
      have KW := Lib.hid (store8 MY rfl [.int .i64 (pl), .int .i64 (pt), .int .i64 (wi), .int .i64 (lo + 1), .int .i64 (dw), .int .i64 by_, .slice (some ⟨g, 0, none⟩) (opp.length + 1) cap, .int .i64 tie] rfl)
      have HY := Lib.hid hY
      clear OY GY MY hY
      obtain ⟨W, hW⟩ : ∃ W, W = Y.setCells (w.heap.size + 1) 0 [.int .i64 (pl), .int .i64 (pt), .int .i64 (wi), .int .i64 (lo + 1), .int .i64 (dw), .int .i64 by_, .slice (some ⟨g, 0, none⟩) (opp.length + 1) cap, .int .i64 tie] := ⟨_, rfl⟩
      rw [← hW] at OW GW KW
      rw [HY.out] at hW
      change W = ((((((((((w1.setCell ⟨w.heap.size, 6, none⟩ (.slice (some ⟨g, 0, none⟩) (opp.length + 1) cap)).setCell ⟨w.heap.size, 3, none⟩ (.int .i64 (lo + 1))).setCell ⟨w.heap.size + 1, 0, none⟩ (.int .i64 (pl))).setCell ⟨w.heap.size + 1, 1, none⟩ (.int .i64 (pt))).setCell ⟨w.heap.size + 1, 2, none⟩ (.int .i64 (wi))).setCell ⟨w.heap.size + 1, 3, none⟩ (.int .i64 (lo + 1))).setCell ⟨w.heap.size + 1, 4, none⟩ (.int .i64 (dw))).setCell ⟨w.heap.size + 1, 5, none⟩ (.int .i64 by_)).setCell ⟨w.heap.size + 1, 6, none⟩ (.slice (some ⟨g, 0, none⟩) (opp.length + 1) cap)).setCell ⟨w.heap.size + 1, 7, none⟩ (.int .i64 tie)) at hW
      rw [← hW]
      have k0 := KW.out 0 (by omega)
      have k1 := KW.out 1 (by omega)
      have k2 := KW.out 2 (by omega)
      have k3 := KW.out 3 (by omega)
      have k4 := KW.out 4 (by omega)
      have k5 := KW.out 5 (by omega)
      have k6 := KW.out 6 (by omega)
      have k7 := KW.out 7 (by omega)
      simp only [List.getElem_cons_succ, List.getElem_cons_zero] at k0 k1 k2 k3 k4 k5 k6 k7
      refine bodyPost_ret (v := stV ⟨pl, pt, wi, lo + 1, dw, by_, opp ++ [o], tie⟩ (.slice (some ⟨g, 0, none⟩) (opp.length + 1) cap)) (by simp [results, Try.results21, go_sem, k0, k1, k2, k3, k4, k5, k6, k7]) rfl ⟨.slice (some ⟨g, 0, none⟩) (opp.length + 1) cap, by rw [HR.out] <;> rfl, ?_, ?_, GW.out⟩
      · rw [HR.out]
        have h := OW.out
        show W.ownsRow base 3 1 _ (opp ++ [o]).length ((opp ++ [o]).map (Value.int .i64))
        rw [List.length_append, List.length_singleton, List.map_append]
        exact h
      · rcases HAT.out with h | h
        · exact .inl h.symm
        · exact .inr ⟨g, rfl, Nat.le_trans (by rw [HSZ.out]; omega) h⟩
end Go.Proofs.Ytfjnnbhijajhoaa
