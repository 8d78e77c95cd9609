/- Chapter 10: AddSub of the reference. -/
import Derived.Test.YtgnffmlcjnnneaaDoorLnXc
import Derived.Deep.RegionLaw
namespace Go.Proofs.YtgnffmlcjnnneaaDoor
open Go Go.RowKit Go.Sort Cg
/-- 'out = append(out, ys...)' at a slice of the call's own that is not nil: the answer is not nil. -/
theorem wpList_append_row2 {α : Type} {P : Program} {w : World} {ops : Array Oper} {rest : List Oper} {o : Oper} {a : Act} {Q : Exit → Act → World → Prop} (hgd : o.guard = none) (s x : Operand) (t : TypeId)
    (ho : o.op = .call { callee := .builtin .append, args := #[s, x], argTypes := #[t, t] })
    (base : Nat) {e : TypeId} {z : Value} {bytes : Nat} (hE : ElemIs P t e z 1 bytes)
    (ad0 : Addr) (n c0 : Nat) (xs : List Value) (hs : a.eval s = .slice (some ad0) n c0) (hown : w.ownsRow base e 1 (.slice (some ad0) n c0) n xs)
    (enc : α → Value) (h1 : ∀ y, (enc y).oneCell' = true) (ys : List α) (vx : Value) (hx : a.eval x = vx) (hr : RowAt enc w vx ys)
    (hn : (n + ys.length) * bytes ≤ 140737488355328) (hn1 : n + ys.length < 140737488355328) (hbase : base ≤ w.heap.size)
    (h : ∀ g cap w', w'.ownsRow base e 1 (.slice (some ⟨g, 0, none⟩) (n + ys.length) cap) (n + ys.length) (xs ++ ys.map enc) → Below base w w' → wpList P ops Q rest (a.put o.dst (.slice (some ⟨g, 0, none⟩) (n + ys.length) cap)) w') :
    wpList P ops Q (o :: rest) a w := by
  have fin : ∀ v' w', w'.ownsRow base e 1 v' (n + ys.length) (xs ++ ys.map enc) → Below base w w' → v' ≠ .slice none 0 0 → wpList P ops Q rest (a.put o.dst v') w' := by
    intro v' w' ho hb hne
    rcases ho.2 with ⟨hv, _⟩ | ⟨g, cap, cur, rfl, _⟩
    · exact absurd hv hne
    · exact h g cap w' ho hb
  obtain ⟨ht, hzs, hsz, i, hi, hz, hsize, hby⟩ := hE
  obtain ⟨ao, cap, rfl, ⟨hc, hnil⟩, hr⟩ := hr
  cases ao with
  | none =>
    have hc0 := hnil rfl
    subst hc0
    have hy : ys = [] := List.eq_nil_of_length_eq_zero (by omega)
    subst hy
    refine wpList_append_own_none hgd s x t ho base e i 1 ht hi _ n xs hs hown hx (fin _ w ?_ (Below.refl _ _) (by simp))
    simpa using hown
  | some ad =>
    have hcells : ∀ (j : Nat) u, (ys.map enc)[j]? = some u → w.cell? (ad.add j) = some u := by
      intro j u hj
      rcases hr with rfl | ⟨b, oo, hao, _, hcell⟩
      · simp at hj
      · cases hao
        rw [List.getElem?_map] at hj
        cases hq : ys[j]? with
        | none => rw [hq] at hj; simp at hj
        | some y =>
          rw [hq] at hj
          have hadd : (⟨b, oo, none⟩ : Addr).add j = ⟨b, oo + j, none⟩ := by unfold Addr.add; split <;> simp_all
          rw [hadd, hcell j y hq]
          simpa using hj
    refine wpList_append_own w hgd s x t ho base e i z 1 bytes ht hi hz hsize hby hzs hsz _ n xs hs hown ad ys.length cap (ys.map enc) hx (by simp) hcells (fun u hu => by
      obtain ⟨y, _, rfl⟩ := List.mem_map.1 hu
      exact h1 y) (by simp only [maxLen]; omega) hn hbase ?_
    intro v' w' hown' hgrow hnil
    exact fin v' w' hown' ((Below.refl base w).grown hgrow hbase (fun k hk => (hown.lt k hk).1)) (fun hv => by have := (hnil.1 hv).1; cases this)
/-- The same inside a region that draws its order. -/
theorem step_append_row2 {α : Type} {P : Program} {ops : Array Oper} {o : Oper} {a : Act} {w : World} {K : Act → World → Prop} {Q : Exit → Act → World → Prop} {E : Prop} (hgd : o.guard = none) (s x : Operand) (t : TypeId)
    (ho : o.op = .call { callee := .builtin .append, args := #[s, x], argTypes := #[t, t] })
    (base : Nat) {e : TypeId} {z : Value} {bytes : Nat} (hE : ElemIs P t e z 1 bytes)
    (ad0 : Addr) (n c0 : Nat) (xs : List Value) (hs : a.eval s = .slice (some ad0) n c0) (hown : w.ownsRow base e 1 (.slice (some ad0) n c0) n xs)
    (enc : α → Value) (h1 : ∀ y, (enc y).oneCell' = true) (ys : List α) (ad : Addr) (m cap : Nat) (hx : a.eval x = .slice (some ad) m cap) (hr : RowAt enc w (.slice (some ad) m cap) ys)
    (hn : (n + ys.length) * bytes ≤ 140737488355328) (hn1 : n + ys.length < 140737488355328) (hbase : base ≤ w.heap.size)
    (h : ∀ g cap w', w'.ownsRow base e 1 (.slice (some ⟨g, 0, none⟩) (n + ys.length) cap) (n + ys.length) (xs ++ ys.map enc) → Below base w w' → K (a.put o.dst (.slice (some ⟨g, 0, none⟩) (n + ys.length) cap)) w') :
    if Region.wanted o (yielded ops a.tmps) = true then Oper.wp P o a w K Q else E := by
  have hw : Region.wanted o (yielded ops a.tmps) = true := by simp [Region.wanted, hgd]
  rw [if_pos hw]
  obtain ⟨ht, hzs, hsz, i, hi, hz, hsize, hby⟩ := hE
  obtain ⟨ao, cap', hv, ⟨hc, hnil⟩, hr⟩ := hr
  simp only [Value.slice.injEq] at hv
  obtain ⟨rfl, rfl, rfl⟩ := hv
  have hcells : ∀ (j : Nat) u, (ys.map enc)[j]? = some u → w.cell? (ad.add j) = some u := by
    intro j u hj
    rcases hr with rfl | ⟨b, oo, hao, _, hcell⟩
    · simp at hj
    · cases hao
      rw [List.getElem?_map] at hj
      cases hq : ys[j]? with
      | none => rw [hq] at hj; simp at hj
      | some y =>
        rw [hq] at hj
        have hadd : (⟨b, oo, none⟩ : Addr).add j = ⟨b, oo + j, none⟩ := by unfold Addr.add; split <;> simp_all
        rw [hadd, hcell j y hq]
        simpa using hj
  refine wp_append_own w s x t ho base e i z 1 bytes ht hi hz hsize hby hzs hsz _ n xs hs hown ad ys.length cap (ys.map enc) hx (by simp) hcells (fun u hu => by
    obtain ⟨y, _, rfl⟩ := List.mem_map.1 hu
    exact h1 y) (by simp only [maxLen]; omega) hn hbase ?_
  intro v' w' hown' hgrow hnil
  have hb := (Below.refl base w).grown hgrow hbase (fun k hk => (hown.lt k hk).1)
  rcases hown'.2 with ⟨hv, _⟩ | ⟨g, cap2, cur, rfl, _⟩
  · have := (hnil.1 hv).1
    cases this
  · exact h g cap2 w' hown' hb
theorem own_some {w : World} {base e n : Nat} {v : Value} {xs : List Value} (h : w.ownsRow base e 1 v n xs) (hne : v ≠ .slice none 0 0) : ∃ g cap, v = .slice (some ⟨g, 0, none⟩) n cap := by
  rcases h.2 with ⟨hv, _⟩ | ⟨g, cap, cur, rfl, _⟩
  · exact absurd hv hne
  · exact ⟨g, cap, rfl⟩
theorem ins_map (xs : List ByteArray) (k : Nat) (s : ByteArray) : (insAt xs k s).map Value.string = (xs.take k).map Value.string ++ [Value.string s] ++ (xs.drop k).map Value.string := by simp [insAt]
/-- The blocks of the reference's AddSub: the line, the result. -/
def BsAt (B : Nat) (wo : World) (su ty : Int) (v : Value) (w : World) : Prop :=
  w.heap[B]? = some (.cells #[.int .i64 su, .int .i64 ty, v] 24 (0, 0)) ∧ w.heap[B + 1]? = some (.cells #[.int .i64 0, .int .i64 0, .slice none 0 0] 24 (0, 0)) ∧ Below B wo w ∧ B + 2 ≤ w.heap.size
theorem BsAt.grow {B : Nat} {wo w w' : World} {su ty : Int} {v : Value} (h : BsAt B wo su ty v w) (hb : Below (B + 2) w w') : BsAt B wo su ty v w' := by
  obtain ⟨h1, h2, h4, h5⟩ := h
  exact ⟨(hb.block B (by omega)).trans h1, (hb.block (B + 1) (by omega)).trans h2, h4.trans (hb.mono (by omega)), Nat.le_trans h5 hb.size⟩
theorem BsAt.later {B : Nat} {wo w w' : World} {su ty : Int} {v : Value} (h : BsAt B wo su ty v w) (hb : Below w.heap.size w w') : BsAt B wo su ty v w' := h.grow (hb.mono h.2.2.2)
theorem BsAt.cells {B : Nat} {wo w : World} {su ty : Int} {v : Value} (h : BsAt B wo su ty v w) :
    w.cell? ⟨B, 0, none⟩ = some (.int .i64 su) ∧ w.cell? ⟨B, 1, none⟩ = some (.int .i64 ty) ∧ w.cell? ⟨B, 2, none⟩ = some v ∧
    w.cell? ⟨B + 1, 0, none⟩ = some (.int .i64 0) ∧ w.cell? ⟨B + 1, 1, none⟩ = some (.int .i64 0) ∧ w.cell? ⟨B + 1, 2, none⟩ = some (.slice none 0 0) ∧ w.frozen? ⟨B + 1, 0, none⟩ = false ∧ w.frozen? ⟨B + 1, 1, none⟩ = false ∧ w.frozen? ⟨B + 1, 2, none⟩ = false := by
  obtain ⟨h1, h3, _⟩ := h
  exact ⟨cell_of_row _ _ 0 _ _ _ h1, cell_of_row _ _ 1 _ _ _ h1, cell_of_row _ _ 2 _ _ _ h1, cell_of_row _ _ 0 _ _ _ h3, cell_of_row _ _ 1 _ _ _ h3, cell_of_row _ _ 2 _ _ _ h3, by simp [World.frozen?, h3], by simp [World.frozen?, h3], by simp [World.frozen?, h3]⟩
theorem BsAt.fin {B : Nat} {wo w : World} {su ty : Int} {v : Value} {ao : Option Addr} {n c : Nat} {xs : List ByteArray} (h : BsAt B wo su ty v w) (hr : RowAt Value.string w (.slice ao n c) xs) :
    ∃ W, W = (((w.setCell ⟨B + 1, 0, none⟩ (.int .i64 su)).setCell ⟨B + 1, 1, none⟩ (.int .i64 ty)).setCell ⟨B + 1, 2, none⟩ (.slice ao n c)) ∧
      W.cell? ⟨B + 1, 0, none⟩ = some (.int .i64 su) ∧ W.cell? ⟨B + 1, 1, none⟩ = some (.int .i64 ty) ∧ W.cell? ⟨B + 1, 2, none⟩ = some (.slice ao n c) ∧ RowAt Value.string W (.slice ao n c) xs ∧ Below B wo W := by
  obtain ⟨h1, h3, h4, h5⟩ := h
  have hs := set3 w (B + 1) _ _ _ (.int .i64 su) (.int .i64 ty) (.slice ao n c) _ _ h3
  refine ⟨_, rfl, cell_of_row _ _ 0 _ _ _ hs, cell_of_row _ _ 1 _ _ _ hs, cell_of_row _ _ 2 _ _ _ hs, ?_, below_set3 h4 _ _ _ _ (by omega)⟩
  have e1 := cells_set w (B + 1) 0 _ _ _ (.int .i64 su) h3
  have e2 := cells_set _ (B + 1) 1 _ _ _ (.int .i64 ty) e1
  exact rowAt_set (rowAt_set (rowAt_set hr h3 (no_str3 0 0 _ (fun s h => by cases h)) 0 _) e1 (no_str3 su 0 _ (fun s h => by cases h)) 1 _) e2 (no_str3 su ty _ (fun s h => by cases h)) 2 _
/-- The new empty slice. -/
theorem empty_own (w : World) (base : Nat) (hb : base ≤ w.heap.size) : (w.alloc (.cells #[] 9)).ownsRow base 9 1 (.slice (some ⟨w.heap.size, 0, none⟩) 0 0) 0 [] := World.ownsRow_made w #[] 0 hb (by decide) rfl
/-- The parts of a slice of the call's own. -/
theorem row_head {w : World} {base : Nat} {g cap n : Nat} {xs : List ByteArray} (h : w.ownsRow base 9 1 (.slice (some ⟨g, 0, none⟩) n cap) n (xs.map Value.string)) (i : Nat) (hi : i ≤ n) : RowAt Value.string w (.slice (some ⟨g, 0, none⟩) i cap) (xs.take i) := by
  have hl : xs.length = n := by have := h.1; rw [List.length_map] at this; omega
  subst hl
  obtain ⟨ao, cap', hv, ⟨hc, _⟩, hr⟩ := rowAt_own h
  simp only [Value.slice.injEq] at hv
  obtain ⟨rfl, _, rfl⟩ := hv
  have hti : (xs.take i).length = i := by rw [List.length_take]; omega
  refine ⟨_, cap, by rw [hti], ⟨by omega, fun h => by cases h⟩, ?_⟩
  rcases hr with rfl | ⟨b, o, hao, hlt, hx⟩
  · exact .inl (by simp)
  · refine .inr ⟨b, o, hao, hlt, fun j x hj => hx j x ?_⟩
    rw [List.getElem?_take] at hj
    split at hj
    · exact hj
    · cases hj
theorem row_tail {w : World} {base : Nat} {g cap n : Nat} {xs : List ByteArray} (h : w.ownsRow base 9 1 (.slice (some ⟨g, 0, none⟩) n cap) n (xs.map Value.string)) (i : Nat) (hi : i ≤ n) : ∀ o, (o = i ∨ i = n) → RowAt Value.string w (.slice (some ⟨g, o, none⟩) (n - i) (cap - i)) (xs.drop i) := by
  intro o ho
  have hl : xs.length = n := by have := h.1; rw [List.length_map] at this; omega
  subst hl
  obtain ⟨ao, cap', hv, ⟨hc, _⟩, hr⟩ := rowAt_own h
  simp only [Value.slice.injEq] at hv
  obtain ⟨rfl, _, rfl⟩ := hv
  have hti : (xs.drop i).length = xs.length - i := List.length_drop
  refine ⟨_, cap - i, by rw [hti], ⟨by omega, fun h => by cases h⟩, ?_⟩
  rcases ho with rfl | rfl
  · rcases hr with rfl | ⟨b, oo, hao, hlt, hx⟩
    · exact .inl (by simp)
    · cases hao
      refine .inr ⟨g, o, rfl, hlt, fun j x hj => ?_⟩
      rw [List.getElem?_drop] at hj
      have := hx _ x hj
      rwa [Nat.zero_add] at this
  · exact .inl (by simp)
set_option maxRecDepth 100000 in
set_option maxHeartbeats 4000000 in
theorem addSub_ref (su ty : Int) (v : Value) (xs : List ByteArray) (s : ByteArray) (w : World) (h : RowAt Value.string w v xs) (hn : xs.length ≤ 1000) :
    Calls Tryd.prog 28 #[lineV su ty v, .string s] w fun e w' => ∃ v', e = .returned (lineV su ty v') ∧ RowAt Value.string w' v' (addL xs s) ∧ Below w.heap.size w w' := by
  obtain ⟨ao, cap, rfl⟩ := h.form
  obtain ⟨wy, hwy⟩ : ∃ wy, wy = (w.alloc (.cells #[.int .i64 su, .int .i64 ty, .slice ao xs.length cap] 24)).alloc (.cells #[.int .i64 0, .int .i64 0, .slice none 0 0] 24) := ⟨_, rfl⟩
  have hz : wy.heap.size = w.heap.size + 2 := by rw [hwy]; show ((w.heap.push _).push _).size = _; simp
  have by_ : Below w.heap.size w wy := by rw [hwy]; exact ((Below.refl w.heap.size w).alloc (Nat.le_refl _) _).alloc (by show w.heap.size ≤ (w.heap.push _).size; simp) _
  have p3 := push3 w.heap (.cells #[.int .i64 su, .int .i64 ty, .slice ao xs.length cap] 24) (.cells #[.int .i64 0, .int .i64 0, .slice none 0 0] 24) (.cells #[] 9)
  have bx : Below wy.heap.size wy (wy.alloc (.cells #[] 9)) := (Below.refl _ _).alloc (Nat.le_refl _) _
  have o0 := empty_own wy (w.heap.size + 2) (by omega)
  have RY := Lib.hid (h.below by_)
  have HZY := Lib.hid hz
  have AX := Lib.hid (show BsAt w.heap.size w su ty (.slice ao xs.length cap) (wy.alloc (.cells #[] 9)) from ⟨by rw [hwy]; exact p3.1, by rw [hwy]; exact p3.2.1, by_.trans (bx.mono (by omega)), Nat.le_trans (by omega) bx.size⟩)
  have RX := Lib.hid ((h.below by_).below bx)
  have hzx : w.heap.size + 2 ≤ (wy.alloc (.cells #[] 9)).heap.size := Nat.le_trans (by omega) bx.size
  obtain ⟨c0, c1, c2, _⟩ := AX.out.cells
  have hzz : wy.heap.size = w.heap.size + 1 + 1 := hz
  rw [hzz] at o0
  rw [hwy] at c2 o0 hzx
  have O0 := Lib.hid o0
  have HZX := Lib.hid hzx
  have HWY := Lib.hid hwy
  clear h hwy hz by_ p3 bx o0 hzx c0 c1 hzz
  go_enter Tryd.func28, Tryd.ntmps28
  have RX2 := RX.out
  rw [HWY.out] at RX2
  have RX2 := Lib.hid RX2
  go_wp2_with (at_builtin; refine wpList_append_row2 rfl (.tmp 8) (.tmp 10) 22 rfl (w.heap.size + 2) stringsElem ⟨w.heap.size + 1 + 1, 0, none⟩ 0 0 _ rfl O0.out Value.string (fun _ => rfl) xs _ rfl RX2.out (by omega) (by omega) HZX.out ?_; intro g cap1 w1 own1 bel1; rw [← HWY.out] at bel1; clear c2)
  rw [List.nil_append, Nat.zero_add] at own1
  have bx2 : Below wy.heap.size wy (wy.alloc (.cells #[] 9)) := (Below.refl _ _).alloc (Nat.le_refl _) _
  rw [HZY.out] at bx2
  have A1 := Lib.hid (AX.out.grow bel1)
  have O1 := Lib.hid own1
  have HI := Lib.hid (isSub_ref s w1)
  have hn1 : ((0 + xs.length : Nat) : Int) = xs.length := by omega
  have BY1 := Lib.hid (show Below wy.heap.size wy w1 by rw [HZY.out]; exact bx2.trans bel1)
  clear bel1 own1 bx2
  have HHS := Lib.hid (fun (w' : World) (r : RowAt Value.string w' (.slice ao xs.length cap) xs) => hasSub_ref su ty (.slice ao xs.length cap) xs s w' r (by omega))
  have RB := Lib.hid (RY.out.below (show Below wy.heap.size wy w1 from BY1.out))
  cases hs : isSub s
  · have HAL := Lib.hid (show addL xs s = xs by rw [addL, if_neg (fun h => by rw [hs] at h; exact Bool.noConfusion h.1)])
    rw [hs] at HI
    clear hs
    refine HI.out.mono ?_
    rintro e w3 ⟨rfl, b3⟩
    have A3 := Lib.hid (A1.out.later b3)
    have R3 := Lib.hid ((rowAt_own O1.out).below b3)
    clear b3
    obtain ⟨W, hW, k0, k1', k2, RW, BW⟩ := A3.out.fin R3.out
    have HRW := Lib.hid RW
    have HBW := Lib.hid BW
    have HWE := Lib.hid hW
    clear hW RW BW
    obtain ⟨c0, c1, c2, e0, e1, e2, f3, f4, f5⟩ := A3.out.cells
    go_wp2_with fail
    rw [← HWE.out]
    exact bodyPost_ret (v := lineV su ty (.slice (some ⟨g, 0, none⟩) xs.length cap1)) (by simp [results, Tryd.results28, go_sem, k0, k1', k2]) rfl ⟨_, rfl, by rw [HAL.out]; exact HRW.out, HBW.out⟩
  · rw [hs] at HI
    have HS := Lib.hid hs
    clear hs
    refine HI.out.mono ?_
    rintro e w3 ⟨rfl, b3⟩
    have A3 := Lib.hid (A1.out.later b3)
    have O3 := Lib.hid (own_block O1.out b3)
    have R3 := Lib.hid ((rowAt_own O1.out).below b3)
    have RB3 := Lib.hid (RB.out.below b3)
    clear b3
    obtain ⟨c0, c1, c2, _⟩ := A3.out.cells
    have HQ := Lib.hid (HHS.out w3 RB3.out)
    cases hc : Lib.containsS xs s
    · rw [hc] at HQ
      by_cases h4 : xs.length < 4
      · have HAL := Lib.hid (show addL xs s = insAt xs (geIdx xs s) s by rw [addL, if_pos ⟨HS.out, hc, h4⟩])
        have d1 : decide (4 ≤ xs.length) = false := decide_eq_false (by omega)
        have d2 : decide (4 ≤ (xs.length : Int)) = false := decide_eq_false (by omega)
        clear hc h4
        go_wp2_with fail
        refine HQ.out.mono ?_
        rintro e w4 ⟨rfl, b4⟩
        have A4 := Lib.hid (A3.out.later b4)
        have O4 := Lib.hid (own_block O3.out b4)
        have R4 := Lib.hid (show xs.length ≤ cap1 ∧ RowAt Value.string w4 (.slice (some ⟨g, 0, none⟩) xs.length cap1) xs from ⟨by
          obtain ⟨_, _, hv, ⟨hc, _⟩, _⟩ := R3.out
          simp only [Value.slice.injEq] at hv
          rw [hv.2.2]
          exact hc, R3.out.below b4⟩)
        have HCAP := Lib.hid R4.out.1
        clear b4 c0 c1 c2 HQ
        go_wp2_with fail
        go_loop [6] (fun i => ∃ k : Nat, k ≤ xs.length ∧ i = .int .i64 k ∧ Hid (∀ j, j < k → ltS (xs.getD j ByteArray.empty) s = true)) (fun i => xs.length - (intOf i).toNat)
        case atStart => exact ⟨0, by omega, rfl, Lib.hid fun j hj => by omega⟩
        case round =>
          obtain ⟨k, hk, rfl, HK⟩ := hrel
          by_cases hlt : k < xs.length
          · rcases R4.out.2 with ⟨ao4, cap4, hv4, _, hR4⟩
            simp only [Value.slice.injEq] at hv4
            rw [← hv4.1] at hR4
            clear hv4
            rcases hR4 with hh | ⟨g', o', hgo, hg, hcell⟩
            · rw [hh] at hlt; simp at hlt
            cases hgo
            have q := cells_getD ByteArray.empty hcell k hlt
            rw [Nat.zero_add] at q
            obtain ⟨x, hx⟩ : ∃ x, x = xs.getD k ByteArray.empty := ⟨_, rfl⟩
            rw [← hx] at q
            have HXE := Lib.hid hx
            clear hcell hx hg
            cases hl : ltS x s
            · have HE := Lib.hid (geIdx_of xs s k hk HK.out (fun _ => by rw [← HXE.out]; exact hl))
              rw [HE.out] at HAL
              have hl2 : Op.bytesLess x.toList s.toList = false := hl
              clear hl HXE HE HK
              have OE := Lib.hid (empty_own w4 w4.heap.size (Nat.le_refl _))
              have BE := Lib.hid (show Below w4.heap.size w4 (w4.alloc (.cells #[] 9)) from (Below.refl _ _).alloc (Nat.le_refl _) _)
              have RH := Lib.hid ((row_head O4.out k (by omega)).below BE.out)
              have htl : 0 + (xs.take k).length = k := by rw [List.length_take]; omega
              have HTL := Lib.hid htl
              have hkc : k ≤ cap1 := Nat.le_trans (by omega) HCAP.out
              have HKC := Lib.hid hkc
              have A5 := Lib.hid (A4.out.later BE.out)
              clear htl
              go_wp2_with (first
                | (at_builtin; refine wpList_append_row2 rfl (.tmp 45) (.tmp 48) 22 rfl w4.heap.size stringsElem ⟨w4.heap.size, 0, none⟩ 0 0 _ rfl OE.out Value.string (fun _ => rfl) (xs.take k) _ rfl RH.out (by rw [HTL.out]; omega) (by rw [HTL.out]; omega) BE.out.size ?_; intro g5 cap5 w5 own5 bel5; rw [HTL.out, List.nil_append] at own5; rw [HTL.out]; have B5 := Lib.hid (BE.out.trans bel5); have O5 := Lib.hid own5; have HS5 := Lib.hid (Nat.le_trans BE.out.size bel5.size); clear bel5 own5)
                | (at_builtin; refine wpList_append_new rfl (.tmp 50) (.tmp 52) 22 rfl w4.heap.size stringsElem _ k _ rfl O5.out [.string s] rfl rfl rfl (by omega) (by omega) HS5.out ?_; intro v6 w6 own6 bel6 hne6; obtain ⟨g6, cap6, rfl⟩ := own_some own6 hne6; have O6 := Lib.hid own6; have B6 := Lib.hid (B5.out.trans bel6); have HS56 := Lib.hid bel6.size; clear own6 bel6 hne6))
              have A6 := Lib.hid (A4.out.later B6.out)
              have O46 := Lib.hid (own_block O4.out B6.out)
              obtain ⟨c0, c1, _⟩ := A6.out.cells
              have BD := Lib.hid (show Below w6.heap.size w6 w6.drew from (Below.refl _ _).drew)
              have O6D := Lib.hid (show w6.drew.ownsRow w4.heap.size 9 1 (.slice (some ⟨g6, 0, none⟩) (k + 1) cap6) (k + 1) ((xs.take k).map Value.string ++ [Value.string s]) from own_block O6.out BD.out)
              have RTD := Lib.hid (fun o ho => (row_tail O46.out k (by omega) o ho).below BD.out)
              have e7 : k + 1 + (xs.drop k).length = (insAt xs k s).length := by rw [insAt_len xs k s (by omega), List.length_drop]; omega
              have E7 := Lib.hid e7
              have hdl : (xs.drop k).length ≤ 1000 := by rw [List.length_drop]; omega
              have HDL := Lib.hid hdl
              have H46 := Lib.hid (Nat.le_trans HS5.out (Nat.le_trans (show w5.heap.size ≤ w6.heap.size from HS56.out) BD.out.size))
              have HB4 := Lib.hid (A4.out.2.2.2)
              clear e7 hdl
              have hck : ¬ cap1 = k := by have := HCAP.out; omega
              have RT := Lib.hid (show RowAt Value.string w6.drew (.slice (some ⟨g, k, none⟩) (xs.length - k) (cap1 - k)) (xs.drop k) by have h := RTD.out k (.inl rfl); exact h)
              refine wp_region_noPanic ?_
              refine wp_region_held_drew (S := fun w' => w'.cell? ⟨w.heap.size, 0, none⟩ = some (.int .i64 su) ∧ w'.cell? ⟨w.heap.size, 1, none⟩ = some (.int .i64 ty)) (by kernel_rfl) (⟨c0, c1⟩) (fun hHeld => ?_)
              refine wpAnyH_take (i := 0) (oi := ?oiP0x) (v := ?vP0x) ?hiP0x (by kernel_rfl) (by kernel_rfl) (by kernel_rfl) ?hqP0x ?hyP0x (by assumption) ?restP0x
              case hiP0x => (simp only [List.getElem?_toArray, List.getElem?_cons_zero] <;> rfl)
              case hqP0x => exact fun _ _ _ h => h
              case hyP0x => exact Or.inl ⟨by rfl, by (intro wS hSw; obtain ⟨s0, s1⟩ := hSw; go_simp; try with_reducible rfl)⟩
              try simp only [Act.put, List.setIfInBounds_toArray, List.set_cons_zero, List.set_cons_succ]
              refine wpAnyH_take (i := 1) (oi := ?oiP1x) (v := ?vP1x) ?hiP1x (by kernel_rfl) (by kernel_rfl) (by kernel_rfl) ?hqP1x ?hyP1x (by assumption) ?restP1x
              case hiP1x => (simp only [List.getElem?_toArray, List.getElem?_cons_succ, List.getElem?_cons_zero] <;> rfl)
              case hqP1x => exact fun _ _ _ h => h
              case hyP1x => exact Or.inl ⟨by rfl, by (intro wS hSw; obtain ⟨s0, s1⟩ := hSw; go_simp; try with_reducible rfl)⟩
              try simp only [Act.put, List.setIfInBounds_toArray, List.set_cons_zero, List.set_cons_succ]
              refine wpAnyH_take (i := 2) (oi := ?oiP2x) (v := ?vP2x) ?hiP2x (by kernel_rfl) (by kernel_rfl) (by kernel_rfl) ?hqP2x ?hyP2x (by assumption) ?restP2x
              case hiP2x => (simp only [List.getElem?_toArray, List.getElem?_cons_succ, List.getElem?_cons_zero] <;> rfl)
              case hqP2x => exact fun _ _ _ h => h
              case hyP2x => exact Or.inl ⟨by rfl, by (intro wS hSw; obtain ⟨s0, s1⟩ := hSw; go_simp; try with_reducible rfl)⟩
              try simp only [Act.put, List.setIfInBounds_toArray, List.set_cons_zero, List.set_cons_succ]
              refine wpAnyH_take (i := 3) (oi := ?oiP3x) (v := ?vP3x) ?hiP3x (by kernel_rfl) (by kernel_rfl) (by kernel_rfl) ?hqP3x ?hyP3x (by assumption) ?restP3x
              case hiP3x => (simp only [List.getElem?_toArray, List.getElem?_cons_succ, List.getElem?_cons_zero] <;> rfl)
              case hqP3x => exact fun _ _ _ h => h
              case hyP3x => exact Or.inl ⟨by rfl, by (intro wS hSw; obtain ⟨s0, s1⟩ := hSw; go_simp; try with_reducible rfl)⟩
              try simp only [Act.put, List.setIfInBounds_toArray, List.set_cons_zero, List.set_cons_succ]
              refine wpAnyH_take (i := 4) (oi := ?oiP4x) (v := ?vP4x) ?hiP4x (by kernel_rfl) (by kernel_rfl) (by kernel_rfl) ?hqP4x ?hyP4x (by assumption) ?restP4x
              case hiP4x => (simp only [List.getElem?_toArray, List.getElem?_cons_succ, List.getElem?_cons_zero] <;> rfl)
              case hqP4x => exact fun _ _ _ h => h
              case hyP4x => exact Or.inl ⟨by rfl, by (intro wS hSw; obtain ⟨s0, s1⟩ := hSw; go_simp; try with_reducible rfl)⟩
              try simp only [Act.put, List.setIfInBounds_toArray, List.set_cons_zero, List.set_cons_succ]
              refine wpAnyH_take (i := 5) (oi := ?oiP5x) (v := ?vP5x) ?hiP5x (by kernel_rfl) (by kernel_rfl) (by kernel_rfl) ?hqP5x ?hyP5x (by assumption) ?restP5x
              case hiP5x => (simp only [List.getElem?_toArray, List.getElem?_cons_succ, List.getElem?_cons_zero] <;> rfl)
              case hqP5x => exact fun _ _ _ h => h
              case hyP5x => exact Or.inl ⟨by rfl, by (intro wS hSw; obtain ⟨s0, s1⟩ := hSw; go_simp; try with_reducible rfl)⟩
              try simp only [Act.put, List.setIfInBounds_toArray, List.set_cons_zero, List.set_cons_succ]
              refine wpAnyH_take (i := 6) (oi := ?oiP6x) (v := ?vP6x) ?hiP6x (by kernel_rfl) (by kernel_rfl) (by kernel_rfl) ?hqP6x ?hyP6x (by assumption) ?restP6x
              case hiP6x => (simp only [List.getElem?_toArray, List.getElem?_cons_succ, List.getElem?_cons_zero] <;> rfl)
              case hqP6x => exact fun _ _ _ h => h
              case hyP6x => exact Or.inl ⟨by rfl, by (intro wS hSw; obtain ⟨s0, s1⟩ := hSw; go_simp; try with_reducible rfl)⟩
              try simp only [Act.put, List.setIfInBounds_toArray, List.set_cons_zero, List.set_cons_succ]
              refine wpAnyH_take (i := 7) (oi := ?oiP7x) (v := ?vP7x) ?hiP7x (by kernel_rfl) (by kernel_rfl) (by kernel_rfl) ?hqP7x ?hyP7x (by assumption) ?restP7x
              case hiP7x => (simp only [List.getElem?_toArray, List.getElem?_cons_succ, List.getElem?_cons_zero] <;> rfl)
              case hqP7x => exact fun _ _ _ h => h
              case hyP7x => exact Or.inl ⟨by rfl, by (intro wS hSw; obtain ⟨s0, s1⟩ := hSw; go_simp; try with_reducible rfl)⟩
              try simp only [Act.put, List.setIfInBounds_toArray, List.set_cons_zero, List.set_cons_succ]
              refine wpAnyH_ready (rs := [8]) (by kernel_rfl) (by simp) ?_
              refine AllReadyH.cons (o := ?oiP8x) ?hiP8x (fun K hK => ?hsP8x) AllReadyH.nil
              case hiP8x => (simp only [List.getElem?_toArray, List.getElem?_cons_succ, List.getElem?_cons_zero] <;> rfl)
              refine step_append_row2 rfl (.tmp 58) (.tmp 61) 22 rfl w4.heap.size stringsElem ⟨g6, 0, none⟩ (k + 1) cap6 _ rfl O6D.out Value.string (fun _ => rfl) (xs.drop k) ⟨g, k, none⟩ (xs.length - k) (cap1 - k) rfl RT.out (by have := HDL.out; omega) (by have := HDL.out; omega) H46.out ?_
              intro g7 cap7 w7 own7 bel7
              rw [E7.out] at own7
              rw [E7.out]
              have A7 := Lib.hid ((A6.out.later BD.out).grow (bel7.mono HB4.out))
              have R7 := Lib.hid (rowAt_own (xs := insAt xs k s) (by have e := own7; rw [← ins_map] at e; exact e))
              obtain ⟨c0, c1, c2, e0, e1, e2, f3, f4, f5⟩ := A7.out.cells
              have HS7 := Lib.hid (show _ ∧ _ from ⟨c0, c1⟩)
              clear own7 bel7 c0 c1 c2
              refine hK.out _ _ HS7.out (fun hHeld8 => ?_)
              clear hK K
              try simp only [Act.put, List.setIfInBounds_toArray, List.set_cons_zero, List.set_cons_succ]
              refine wpAnyH_take (i := 9) (oi := ?oiP9x) (v := ?vP9x) ?hiP9x (by kernel_rfl) (by kernel_rfl) (by kernel_rfl) ?hqP9x ?hyP9x (by assumption) ?restP9x
              case hiP9x => (simp only [List.getElem?_toArray, List.getElem?_cons_succ, List.getElem?_cons_zero] <;> rfl)
              case hqP9x => exact fun _ _ _ h => h
              case hyP9x => exact Or.inl ⟨by rfl, by (intro wS hSw; obtain ⟨s0, s1⟩ := hSw; go_simp; try with_reducible rfl)⟩
              try simp only [Act.put, List.setIfInBounds_toArray, List.set_cons_zero, List.set_cons_succ]
              refine wpAnyH_ready (rs := [10]) (by kernel_rfl) (by simp) ?_
              refine AllReadyH.cons (o := ?oiP10x) ?hiP10x (fun K hK => ?hsP10x) AllReadyH.nil
              case hiP10x => (simp only [List.getElem?_toArray, List.getElem?_cons_succ, List.getElem?_cons_zero] <;> rfl)
              go_simp
              obtain ⟨W, hW, k0, k1, k2, RW, BW⟩ := A7.out.fin R7.out
              have HRW := Lib.hid RW
              have HBW := Lib.hid BW
              have HWE := Lib.hid hW
              obtain ⟨z0, z1, _⟩ := A7.out.cells
              have HSW := Lib.hid (show W.cell? ⟨w.heap.size, 0, none⟩ = some (.int .i64 su) ∧ W.cell? ⟨w.heap.size, 1, none⟩ = some (.int .i64 ty) from by rw [hW]; exact ⟨(World.cell?_of_block (by rw [Below.heap_setCell _ _ _ _ (by show w.heap.size ≠ w.heap.size + 1; omega), Below.heap_setCell _ _ _ _ (by show w.heap.size ≠ w.heap.size + 1; omega), Below.heap_setCell _ _ _ _ (by show w.heap.size ≠ w.heap.size + 1; omega)])).trans z0, (World.cell?_of_block (by rw [Below.heap_setCell _ _ _ _ (by show w.heap.size ≠ w.heap.size + 1; omega), Below.heap_setCell _ _ _ _ (by show w.heap.size ≠ w.heap.size + 1; omega), Below.heap_setCell _ _ _ _ (by show w.heap.size ≠ w.heap.size + 1; omega)])).trans z1⟩)
              clear hW RW BW z0 z1 e0 e1 e2 f3 f4 f5
              rw [← HWE.out]
              refine hK.out _ _ HSW.out (fun hHeld10 => ?_)
              clear hK K
              try simp only [Act.put, List.setIfInBounds_toArray, List.set_cons_zero, List.set_cons_succ]
              refine wpAnyH_done (by kernel_rfl) ?_ _
              refine NoPanic.normal ?_
              go_wp2_with fail
              exact bodyPost_ret (v := lineV su ty (.slice (some ⟨g7, 0, none⟩) (insAt xs k s).length cap7)) (by simp [results, Tryd.results28, go_sem, k0, k1, k2]) rfl ⟨_, rfl, by rw [HAL.out]; exact HRW.out, HBW.out⟩
            · have hl2 : Op.bytesLess x.toList s.toList = true := hl
              have HL := Lib.hid hl
              clear hl
              go_wp2_with fail
              go_round
              case rel => exact ⟨k + 1, by omega, by go_num, Lib.hid fun j hj => by
                by_cases e : j = k
                · rw [e, ← HXE.out]; exact HL.out
                · exact HK.out j (by omega)⟩
              case measure => simp [intOf]; omega
          · obtain rfl : k = xs.length := by omega
            have HE := Lib.hid (geIdx_of xs s xs.length hk HK.out (fun h => by omega))
            rw [HE.out] at HAL
            clear HE HK
            have OE := Lib.hid (empty_own w4 w4.heap.size (Nat.le_refl _))
            have BE := Lib.hid (show Below w4.heap.size w4 (w4.alloc (.cells #[] 9)) from (Below.refl _ _).alloc (Nat.le_refl _) _)
            have RH := Lib.hid ((row_head O4.out xs.length (by omega)).below BE.out)
            have htl : 0 + (xs.take xs.length).length = xs.length := by rw [List.length_take]; omega
            have HTL := Lib.hid htl
            have hkc : xs.length ≤ cap1 := Nat.le_trans (by omega) HCAP.out
            have HKC := Lib.hid hkc
            have A5 := Lib.hid (A4.out.later BE.out)
            clear htl
            go_wp2_with (first
              | (at_builtin; refine wpList_append_row2 rfl (.tmp 45) (.tmp 48) 22 rfl w4.heap.size stringsElem ⟨w4.heap.size, 0, none⟩ 0 0 _ rfl OE.out Value.string (fun _ => rfl) (xs.take xs.length) _ rfl RH.out (by rw [HTL.out]; omega) (by rw [HTL.out]; omega) BE.out.size ?_; intro g5 cap5 w5 own5 bel5; rw [HTL.out, List.nil_append] at own5; rw [HTL.out]; have B5 := Lib.hid (BE.out.trans bel5); have O5 := Lib.hid own5; have HS5 := Lib.hid (Nat.le_trans BE.out.size bel5.size); clear bel5 own5)
              | (at_builtin; refine wpList_append_new rfl (.tmp 50) (.tmp 52) 22 rfl w4.heap.size stringsElem _ xs.length _ rfl O5.out [.string s] rfl rfl rfl (by omega) (by omega) HS5.out ?_; intro v6 w6 own6 bel6 hne6; obtain ⟨g6, cap6, rfl⟩ := own_some own6 hne6; have O6 := Lib.hid own6; have B6 := Lib.hid (B5.out.trans bel6); have HS56 := Lib.hid bel6.size; clear own6 bel6 hne6))
            have A6 := Lib.hid (A4.out.later B6.out)
            have O46 := Lib.hid (own_block O4.out B6.out)
            obtain ⟨c0, c1, _⟩ := A6.out.cells
            have BD := Lib.hid (show Below w6.heap.size w6 w6.drew from (Below.refl _ _).drew)
            have O6D := Lib.hid (show w6.drew.ownsRow w4.heap.size 9 1 (.slice (some ⟨g6, 0, none⟩) (xs.length + 1) cap6) (xs.length + 1) ((xs.take xs.length).map Value.string ++ [Value.string s]) from own_block O6.out BD.out)
            have RTD := Lib.hid (fun o ho => (row_tail O46.out xs.length (by omega) o ho).below BD.out)
            have e7 : xs.length + 1 + (xs.drop xs.length).length = (insAt xs xs.length s).length := by rw [insAt_len xs xs.length s (by omega), List.length_drop]; omega
            have E7 := Lib.hid e7
            have hdl : (xs.drop xs.length).length ≤ 1000 := by rw [List.length_drop]; omega
            have HDL := Lib.hid hdl
            have H46 := Lib.hid (Nat.le_trans HS5.out (Nat.le_trans (show w5.heap.size ≤ w6.heap.size from HS56.out) BD.out.size))
            have HB4 := Lib.hid (A4.out.2.2.2)
            clear e7 hdl
            by_cases hck : cap1 = xs.length
            · subst hck
              have RT := Lib.hid (show RowAt Value.string w6.drew (.slice (some ⟨g, 0, none⟩) 0 0) (xs.drop xs.length) by have h := RTD.out 0 (.inr rfl); rw [Nat.sub_self] at h; exact h)
              refine wp_region_noPanic ?_
              refine wp_region_held_drew (S := fun w' => w'.cell? ⟨w.heap.size, 0, none⟩ = some (.int .i64 su) ∧ w'.cell? ⟨w.heap.size, 1, none⟩ = some (.int .i64 ty)) (by kernel_rfl) (⟨c0, c1⟩) (fun hHeld => ?_)
              refine wpAnyH_take (i := 0) (oi := ?oiQ0x) (v := ?vQ0x) ?hiQ0x (by kernel_rfl) (by kernel_rfl) (by kernel_rfl) ?hqQ0x ?hyQ0x (by assumption) ?restQ0x
              case hiQ0x => (simp only [List.getElem?_toArray, List.getElem?_cons_zero] <;> rfl)
              case hqQ0x => exact fun _ _ _ h => h
              case hyQ0x => exact Or.inl ⟨by rfl, by (intro wS hSw; obtain ⟨s0, s1⟩ := hSw; go_simp; try with_reducible rfl)⟩
              try simp only [Act.put, List.setIfInBounds_toArray, List.set_cons_zero, List.set_cons_succ]
              refine wpAnyH_take (i := 1) (oi := ?oiQ1x) (v := ?vQ1x) ?hiQ1x (by kernel_rfl) (by kernel_rfl) (by kernel_rfl) ?hqQ1x ?hyQ1x (by assumption) ?restQ1x
              case hiQ1x => (simp only [List.getElem?_toArray, List.getElem?_cons_succ, List.getElem?_cons_zero] <;> rfl)
              case hqQ1x => exact fun _ _ _ h => h
              case hyQ1x => exact Or.inl ⟨by rfl, by (intro wS hSw; obtain ⟨s0, s1⟩ := hSw; go_simp; try with_reducible rfl)⟩
              try simp only [Act.put, List.setIfInBounds_toArray, List.set_cons_zero, List.set_cons_succ]
              refine wpAnyH_take (i := 2) (oi := ?oiQ2x) (v := ?vQ2x) ?hiQ2x (by kernel_rfl) (by kernel_rfl) (by kernel_rfl) ?hqQ2x ?hyQ2x (by assumption) ?restQ2x
              case hiQ2x => (simp only [List.getElem?_toArray, List.getElem?_cons_succ, List.getElem?_cons_zero] <;> rfl)
              case hqQ2x => exact fun _ _ _ h => h
              case hyQ2x => exact Or.inl ⟨by rfl, by (intro wS hSw; obtain ⟨s0, s1⟩ := hSw; go_simp; try with_reducible rfl)⟩
              try simp only [Act.put, List.setIfInBounds_toArray, List.set_cons_zero, List.set_cons_succ]
              refine wpAnyH_take (i := 3) (oi := ?oiQ3x) (v := ?vQ3x) ?hiQ3x (by kernel_rfl) (by kernel_rfl) (by kernel_rfl) ?hqQ3x ?hyQ3x (by assumption) ?restQ3x
              case hiQ3x => (simp only [List.getElem?_toArray, List.getElem?_cons_succ, List.getElem?_cons_zero] <;> rfl)
              case hqQ3x => exact fun _ _ _ h => h
              case hyQ3x => exact Or.inl ⟨by rfl, by (intro wS hSw; obtain ⟨s0, s1⟩ := hSw; go_simp; try with_reducible rfl)⟩
              try simp only [Act.put, List.setIfInBounds_toArray, List.set_cons_zero, List.set_cons_succ]
              refine wpAnyH_take (i := 4) (oi := ?oiQ4x) (v := ?vQ4x) ?hiQ4x (by kernel_rfl) (by kernel_rfl) (by kernel_rfl) ?hqQ4x ?hyQ4x (by assumption) ?restQ4x
              case hiQ4x => (simp only [List.getElem?_toArray, List.getElem?_cons_succ, List.getElem?_cons_zero] <;> rfl)
              case hqQ4x => exact fun _ _ _ h => h
              case hyQ4x => exact Or.inl ⟨by rfl, by (intro wS hSw; obtain ⟨s0, s1⟩ := hSw; go_simp; try with_reducible rfl)⟩
              try simp only [Act.put, List.setIfInBounds_toArray, List.set_cons_zero, List.set_cons_succ]
              refine wpAnyH_take (i := 5) (oi := ?oiQ5x) (v := ?vQ5x) ?hiQ5x (by kernel_rfl) (by kernel_rfl) (by kernel_rfl) ?hqQ5x ?hyQ5x (by assumption) ?restQ5x
              case hiQ5x => (simp only [List.getElem?_toArray, List.getElem?_cons_succ, List.getElem?_cons_zero] <;> rfl)
              case hqQ5x => exact fun _ _ _ h => h
              case hyQ5x => exact Or.inl ⟨by rfl, by (intro wS hSw; obtain ⟨s0, s1⟩ := hSw; go_simp; try with_reducible rfl)⟩
              try simp only [Act.put, List.setIfInBounds_toArray, List.set_cons_zero, List.set_cons_succ]
              refine wpAnyH_take (i := 6) (oi := ?oiQ6x) (v := ?vQ6x) ?hiQ6x (by kernel_rfl) (by kernel_rfl) (by kernel_rfl) ?hqQ6x ?hyQ6x (by assumption) ?restQ6x
              case hiQ6x => (simp only [List.getElem?_toArray, List.getElem?_cons_succ, List.getElem?_cons_zero] <;> rfl)
              case hqQ6x => exact fun _ _ _ h => h
              case hyQ6x => exact Or.inl ⟨by rfl, by (intro wS hSw; obtain ⟨s0, s1⟩ := hSw; go_simp; try with_reducible rfl)⟩
              try simp only [Act.put, List.setIfInBounds_toArray, List.set_cons_zero, List.set_cons_succ]
              refine wpAnyH_take (i := 7) (oi := ?oiQ7x) (v := ?vQ7x) ?hiQ7x (by kernel_rfl) (by kernel_rfl) (by kernel_rfl) ?hqQ7x ?hyQ7x (by assumption) ?restQ7x
              case hiQ7x => (simp only [List.getElem?_toArray, List.getElem?_cons_succ, List.getElem?_cons_zero] <;> rfl)
              case hqQ7x => exact fun _ _ _ h => h
              case hyQ7x => exact Or.inl ⟨by rfl, by (intro wS hSw; obtain ⟨s0, s1⟩ := hSw; go_simp; try with_reducible rfl)⟩
              try simp only [Act.put, List.setIfInBounds_toArray, List.set_cons_zero, List.set_cons_succ]
              refine wpAnyH_ready (rs := [8]) (by kernel_rfl) (by simp) ?_
              refine AllReadyH.cons (o := ?oiQ8x) ?hiQ8x (fun K hK => ?hsQ8x) AllReadyH.nil
              case hiQ8x => (simp only [List.getElem?_toArray, List.getElem?_cons_succ, List.getElem?_cons_zero] <;> rfl)
              refine step_append_row2 rfl (.tmp 58) (.tmp 61) 22 rfl w4.heap.size stringsElem ⟨g6, 0, none⟩ (xs.length + 1) cap6 _ rfl O6D.out Value.string (fun _ => rfl) (xs.drop xs.length) ⟨g, 0, none⟩ 0 0 rfl RT.out (by have := HDL.out; omega) (by have := HDL.out; omega) H46.out ?_
              intro g7 cap7 w7 own7 bel7
              rw [E7.out] at own7
              rw [E7.out]
              have A7 := Lib.hid ((A6.out.later BD.out).grow (bel7.mono HB4.out))
              have R7 := Lib.hid (rowAt_own (xs := insAt xs xs.length s) (by have e := own7; rw [← ins_map] at e; exact e))
              obtain ⟨c0, c1, c2, e0, e1, e2, f3, f4, f5⟩ := A7.out.cells
              have HS7 := Lib.hid (show _ ∧ _ from ⟨c0, c1⟩)
              clear own7 bel7 c0 c1 c2
              refine hK.out _ _ HS7.out (fun hHeld8 => ?_)
              clear hK K
              try simp only [Act.put, List.setIfInBounds_toArray, List.set_cons_zero, List.set_cons_succ]
              refine wpAnyH_take (i := 9) (oi := ?oiQ9x) (v := ?vQ9x) ?hiQ9x (by kernel_rfl) (by kernel_rfl) (by kernel_rfl) ?hqQ9x ?hyQ9x (by assumption) ?restQ9x
              case hiQ9x => (simp only [List.getElem?_toArray, List.getElem?_cons_succ, List.getElem?_cons_zero] <;> rfl)
              case hqQ9x => exact fun _ _ _ h => h
              case hyQ9x => exact Or.inl ⟨by rfl, by (intro wS hSw; obtain ⟨s0, s1⟩ := hSw; go_simp; try with_reducible rfl)⟩
              try simp only [Act.put, List.setIfInBounds_toArray, List.set_cons_zero, List.set_cons_succ]
              refine wpAnyH_ready (rs := [10]) (by kernel_rfl) (by simp) ?_
              refine AllReadyH.cons (o := ?oiQ10x) ?hiQ10x (fun K hK => ?hsQ10x) AllReadyH.nil
              case hiQ10x => (simp only [List.getElem?_toArray, List.getElem?_cons_succ, List.getElem?_cons_zero] <;> rfl)
              go_simp
              obtain ⟨W, hW, k0, k1, k2, RW, BW⟩ := A7.out.fin R7.out
              have HRW := Lib.hid RW
              have HBW := Lib.hid BW
              have HWE := Lib.hid hW
              obtain ⟨z0, z1, _⟩ := A7.out.cells
              have HSW := Lib.hid (show W.cell? ⟨w.heap.size, 0, none⟩ = some (.int .i64 su) ∧ W.cell? ⟨w.heap.size, 1, none⟩ = some (.int .i64 ty) from by rw [hW]; exact ⟨(World.cell?_of_block (by rw [Below.heap_setCell _ _ _ _ (by show w.heap.size ≠ w.heap.size + 1; omega), Below.heap_setCell _ _ _ _ (by show w.heap.size ≠ w.heap.size + 1; omega), Below.heap_setCell _ _ _ _ (by show w.heap.size ≠ w.heap.size + 1; omega)])).trans z0, (World.cell?_of_block (by rw [Below.heap_setCell _ _ _ _ (by show w.heap.size ≠ w.heap.size + 1; omega), Below.heap_setCell _ _ _ _ (by show w.heap.size ≠ w.heap.size + 1; omega), Below.heap_setCell _ _ _ _ (by show w.heap.size ≠ w.heap.size + 1; omega)])).trans z1⟩)
              clear hW RW BW z0 z1 e0 e1 e2 f3 f4 f5
              rw [← HWE.out]
              refine hK.out _ _ HSW.out (fun hHeld10 => ?_)
              clear hK K
              try simp only [Act.put, List.setIfInBounds_toArray, List.set_cons_zero, List.set_cons_succ]
              refine wpAnyH_done (by kernel_rfl) ?_ _
              refine NoPanic.normal ?_
              go_wp2_with fail
              exact bodyPost_ret (v := lineV su ty (.slice (some ⟨g7, 0, none⟩) (insAt xs xs.length s).length cap7)) (by simp [results, Tryd.results28, go_sem, k0, k1, k2]) rfl ⟨_, rfl, by rw [HAL.out]; exact HRW.out, HBW.out⟩
            · have RT := Lib.hid (show RowAt Value.string w6.drew (.slice (some ⟨g, xs.length, none⟩) 0 (cap1 - xs.length)) (xs.drop xs.length) by have h := RTD.out xs.length (.inl rfl); rw [Nat.sub_self] at h; exact h)
              refine wp_region_noPanic ?_
              refine wp_region_held_drew (S := fun w' => w'.cell? ⟨w.heap.size, 0, none⟩ = some (.int .i64 su) ∧ w'.cell? ⟨w.heap.size, 1, none⟩ = some (.int .i64 ty)) (by kernel_rfl) (⟨c0, c1⟩) (fun hHeld => ?_)
              refine wpAnyH_take (i := 0) (oi := ?oiR0x) (v := ?vR0x) ?hiR0x (by kernel_rfl) (by kernel_rfl) (by kernel_rfl) ?hqR0x ?hyR0x (by assumption) ?restR0x
              case hiR0x => (simp only [List.getElem?_toArray, List.getElem?_cons_zero] <;> rfl)
              case hqR0x => exact fun _ _ _ h => h
              case hyR0x => exact Or.inl ⟨by rfl, by (intro wS hSw; obtain ⟨s0, s1⟩ := hSw; go_simp; try with_reducible rfl)⟩
              try simp only [Act.put, List.setIfInBounds_toArray, List.set_cons_zero, List.set_cons_succ]
              refine wpAnyH_take (i := 1) (oi := ?oiR1x) (v := ?vR1x) ?hiR1x (by kernel_rfl) (by kernel_rfl) (by kernel_rfl) ?hqR1x ?hyR1x (by assumption) ?restR1x
              case hiR1x => (simp only [List.getElem?_toArray, List.getElem?_cons_succ, List.getElem?_cons_zero] <;> rfl)
              case hqR1x => exact fun _ _ _ h => h
              case hyR1x => exact Or.inl ⟨by rfl, by (intro wS hSw; obtain ⟨s0, s1⟩ := hSw; go_simp; try with_reducible rfl)⟩
              try simp only [Act.put, List.setIfInBounds_toArray, List.set_cons_zero, List.set_cons_succ]
              refine wpAnyH_take (i := 2) (oi := ?oiR2x) (v := ?vR2x) ?hiR2x (by kernel_rfl) (by kernel_rfl) (by kernel_rfl) ?hqR2x ?hyR2x (by assumption) ?restR2x
              case hiR2x => (simp only [List.getElem?_toArray, List.getElem?_cons_succ, List.getElem?_cons_zero] <;> rfl)
              case hqR2x => exact fun _ _ _ h => h
              case hyR2x => exact Or.inl ⟨by rfl, by (intro wS hSw; obtain ⟨s0, s1⟩ := hSw; go_simp; try with_reducible rfl)⟩
              try simp only [Act.put, List.setIfInBounds_toArray, List.set_cons_zero, List.set_cons_succ]
              refine wpAnyH_take (i := 3) (oi := ?oiR3x) (v := ?vR3x) ?hiR3x (by kernel_rfl) (by kernel_rfl) (by kernel_rfl) ?hqR3x ?hyR3x (by assumption) ?restR3x
              case hiR3x => (simp only [List.getElem?_toArray, List.getElem?_cons_succ, List.getElem?_cons_zero] <;> rfl)
              case hqR3x => exact fun _ _ _ h => h
              case hyR3x => exact Or.inl ⟨by rfl, by (intro wS hSw; obtain ⟨s0, s1⟩ := hSw; go_simp; try with_reducible rfl)⟩
              try simp only [Act.put, List.setIfInBounds_toArray, List.set_cons_zero, List.set_cons_succ]
              refine wpAnyH_take (i := 4) (oi := ?oiR4x) (v := ?vR4x) ?hiR4x (by kernel_rfl) (by kernel_rfl) (by kernel_rfl) ?hqR4x ?hyR4x (by assumption) ?restR4x
              case hiR4x => (simp only [List.getElem?_toArray, List.getElem?_cons_succ, List.getElem?_cons_zero] <;> rfl)
              case hqR4x => exact fun _ _ _ h => h
              case hyR4x => exact Or.inl ⟨by rfl, by (intro wS hSw; obtain ⟨s0, s1⟩ := hSw; go_simp; try with_reducible rfl)⟩
              try simp only [Act.put, List.setIfInBounds_toArray, List.set_cons_zero, List.set_cons_succ]
              refine wpAnyH_take (i := 5) (oi := ?oiR5x) (v := ?vR5x) ?hiR5x (by kernel_rfl) (by kernel_rfl) (by kernel_rfl) ?hqR5x ?hyR5x (by assumption) ?restR5x
              case hiR5x => (simp only [List.getElem?_toArray, List.getElem?_cons_succ, List.getElem?_cons_zero] <;> rfl)
              case hqR5x => exact fun _ _ _ h => h
              case hyR5x => exact Or.inl ⟨by rfl, by (intro wS hSw; obtain ⟨s0, s1⟩ := hSw; go_simp; try with_reducible rfl)⟩
              try simp only [Act.put, List.setIfInBounds_toArray, List.set_cons_zero, List.set_cons_succ]
              refine wpAnyH_take (i := 6) (oi := ?oiR6x) (v := ?vR6x) ?hiR6x (by kernel_rfl) (by kernel_rfl) (by kernel_rfl) ?hqR6x ?hyR6x (by assumption) ?restR6x
              case hiR6x => (simp only [List.getElem?_toArray, List.getElem?_cons_succ, List.getElem?_cons_zero] <;> rfl)
              case hqR6x => exact fun _ _ _ h => h
              case hyR6x => exact Or.inl ⟨by rfl, by (intro wS hSw; obtain ⟨s0, s1⟩ := hSw; go_simp; try with_reducible rfl)⟩
              try simp only [Act.put, List.setIfInBounds_toArray, List.set_cons_zero, List.set_cons_succ]
              refine wpAnyH_take (i := 7) (oi := ?oiR7x) (v := ?vR7x) ?hiR7x (by kernel_rfl) (by kernel_rfl) (by kernel_rfl) ?hqR7x ?hyR7x (by assumption) ?restR7x
              case hiR7x => (simp only [List.getElem?_toArray, List.getElem?_cons_succ, List.getElem?_cons_zero] <;> rfl)
              case hqR7x => exact fun _ _ _ h => h
              case hyR7x => exact Or.inl ⟨by rfl, by (intro wS hSw; obtain ⟨s0, s1⟩ := hSw; go_simp; try with_reducible rfl)⟩
              try simp only [Act.put, List.setIfInBounds_toArray, List.set_cons_zero, List.set_cons_succ]
              refine wpAnyH_ready (rs := [8]) (by kernel_rfl) (by simp) ?_
              refine AllReadyH.cons (o := ?oiR8x) ?hiR8x (fun K hK => ?hsR8x) AllReadyH.nil
              case hiR8x => (simp only [List.getElem?_toArray, List.getElem?_cons_succ, List.getElem?_cons_zero] <;> rfl)
              refine step_append_row2 rfl (.tmp 58) (.tmp 61) 22 rfl w4.heap.size stringsElem ⟨g6, 0, none⟩ (xs.length + 1) cap6 _ rfl O6D.out Value.string (fun _ => rfl) (xs.drop xs.length) ⟨g, xs.length, none⟩ 0 (cap1 - xs.length) rfl RT.out (by have := HDL.out; omega) (by have := HDL.out; omega) H46.out ?_
              intro g7 cap7 w7 own7 bel7
              rw [E7.out] at own7
              rw [E7.out]
              have A7 := Lib.hid ((A6.out.later BD.out).grow (bel7.mono HB4.out))
              have R7 := Lib.hid (rowAt_own (xs := insAt xs xs.length s) (by have e := own7; rw [← ins_map] at e; exact e))
              obtain ⟨c0, c1, c2, e0, e1, e2, f3, f4, f5⟩ := A7.out.cells
              have HS7 := Lib.hid (show _ ∧ _ from ⟨c0, c1⟩)
              clear own7 bel7 c0 c1 c2
              refine hK.out _ _ HS7.out (fun hHeld8 => ?_)
              clear hK K
              try simp only [Act.put, List.setIfInBounds_toArray, List.set_cons_zero, List.set_cons_succ]
              refine wpAnyH_take (i := 9) (oi := ?oiR9x) (v := ?vR9x) ?hiR9x (by kernel_rfl) (by kernel_rfl) (by kernel_rfl) ?hqR9x ?hyR9x (by assumption) ?restR9x
              case hiR9x => (simp only [List.getElem?_toArray, List.getElem?_cons_succ, List.getElem?_cons_zero] <;> rfl)
              case hqR9x => exact fun _ _ _ h => h
              case hyR9x => exact Or.inl ⟨by rfl, by (intro wS hSw; obtain ⟨s0, s1⟩ := hSw; go_simp; try with_reducible rfl)⟩
              try simp only [Act.put, List.setIfInBounds_toArray, List.set_cons_zero, List.set_cons_succ]
              refine wpAnyH_ready (rs := [10]) (by kernel_rfl) (by simp) ?_
              refine AllReadyH.cons (o := ?oiR10x) ?hiR10x (fun K hK => ?hsR10x) AllReadyH.nil
              case hiR10x => (simp only [List.getElem?_toArray, List.getElem?_cons_succ, List.getElem?_cons_zero] <;> rfl)
              go_simp
              obtain ⟨W, hW, k0, k1, k2, RW, BW⟩ := A7.out.fin R7.out
              have HRW := Lib.hid RW
              have HBW := Lib.hid BW
              have HWE := Lib.hid hW
              obtain ⟨z0, z1, _⟩ := A7.out.cells
              have HSW := Lib.hid (show W.cell? ⟨w.heap.size, 0, none⟩ = some (.int .i64 su) ∧ W.cell? ⟨w.heap.size, 1, none⟩ = some (.int .i64 ty) from by rw [hW]; exact ⟨(World.cell?_of_block (by rw [Below.heap_setCell _ _ _ _ (by show w.heap.size ≠ w.heap.size + 1; omega), Below.heap_setCell _ _ _ _ (by show w.heap.size ≠ w.heap.size + 1; omega), Below.heap_setCell _ _ _ _ (by show w.heap.size ≠ w.heap.size + 1; omega)])).trans z0, (World.cell?_of_block (by rw [Below.heap_setCell _ _ _ _ (by show w.heap.size ≠ w.heap.size + 1; omega), Below.heap_setCell _ _ _ _ (by show w.heap.size ≠ w.heap.size + 1; omega), Below.heap_setCell _ _ _ _ (by show w.heap.size ≠ w.heap.size + 1; omega)])).trans z1⟩)
              clear hW RW BW z0 z1 e0 e1 e2 f3 f4 f5
              rw [← HWE.out]
              refine hK.out _ _ HSW.out (fun hHeld10 => ?_)
              clear hK K
              try simp only [Act.put, List.setIfInBounds_toArray, List.set_cons_zero, List.set_cons_succ]
              refine wpAnyH_done (by kernel_rfl) ?_ _
              refine NoPanic.normal ?_
              go_wp2_with fail
              exact bodyPost_ret (v := lineV su ty (.slice (some ⟨g7, 0, none⟩) (insAt xs xs.length s).length cap7)) (by simp [results, Tryd.results28, go_sem, k0, k1, k2]) rfl ⟨_, rfl, by rw [HAL.out]; exact HRW.out, HBW.out⟩
      · have HAL := Lib.hid (show addL xs s = xs by rw [addL, if_neg (fun h => h4 h.2.2)])
        have d1 : decide (4 ≤ xs.length) = true := decide_eq_true (by omega)
        have d2 : decide (4 ≤ (xs.length : Int)) = true := decide_eq_true (by omega)
        clear hc h4
        go_wp2_with fail
        refine HQ.out.mono ?_
        rintro e w4 ⟨rfl, b4⟩
        have A4 := Lib.hid (A3.out.later b4)
        have R4 := Lib.hid (R3.out.below b4)
        clear b4 c0 c1 c2 HQ
        obtain ⟨W, hW, k0, k1', k2, RW, BW⟩ := A4.out.fin R4.out
        have HRW := Lib.hid RW
        have HBW := Lib.hid BW
        have HWE := Lib.hid hW
        clear hW RW BW
        obtain ⟨c0, c1, c2, e0, e1, e2, f3, f4, f5⟩ := A4.out.cells
        go_wp2_with fail
        rw [← HWE.out]
        exact bodyPost_ret (v := lineV su ty (.slice (some ⟨g, 0, none⟩) xs.length cap1)) (by simp [results, Tryd.results28, go_sem, k0, k1', k2]) rfl ⟨_, rfl, by rw [HAL.out]; exact HRW.out, HBW.out⟩
    · rw [hc] at HQ
      have HAL := Lib.hid (show addL xs s = xs by rw [addL, if_neg (fun h => by rw [hc] at h; exact Bool.noConfusion h.2.1)])
      clear hc
      go_wp2_with fail
      refine HQ.out.mono ?_
      rintro e w4 ⟨rfl, b4⟩
      have A4 := Lib.hid (A3.out.later b4)
      have R4 := Lib.hid (R3.out.below b4)
      clear b4 c0 c1 c2 HQ
      obtain ⟨W, hW, k0, k1', k2, RW, BW⟩ := A4.out.fin R4.out
      have HRW := Lib.hid RW
      have HBW := Lib.hid BW
      have HWE := Lib.hid hW
      clear hW RW BW
      obtain ⟨c0, c1, c2, e0, e1, e2, f3, f4, f5⟩ := A4.out.cells
      go_wp2_with fail
      rw [← HWE.out]
      exact bodyPost_ret (v := lineV su ty (.slice (some ⟨g, 0, none⟩) xs.length cap1)) (by simp [results, Tryd.results28, go_sem, k0, k1', k2]) rfl ⟨_, rfl, by rw [HAL.out]; exact HRW.out, HBW.out⟩
end Go.Proofs.YtgnffmlcjnnneaaDoor
