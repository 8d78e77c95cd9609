/- Chapter 10: Parse of the reference. -/
import Derived.Test.YtgnffmlcjnnneaaDoorLnTp
import Derived.Deep.RegionLaw
namespace Go.Proofs.YtgnffmlcjnnneaaDoor
open Go Go.RowKit Go.Sort Cg
theorem supers_val (p : ByteArray) : (Lib.idxOfS supers p < 0 ∧ bitW superN p 2 = 0) ∨ ∃ a : Nat, a < 2 ∧ Lib.idxOfS supers p = (a : Int) ∧ bitW superN p 2 = 2 ^ a := by
  by_cases h : ∃ a, a < 2 ∧ superN a = p
  · obtain ⟨a, ha, rfl⟩ := h
    refine .inr ⟨a, ha, ?_⟩
    rcases (show a = 0 ∨ a = 1 by omega) with rfl | rfl <;> decide
  · have h0 := (bitW_zero superN p 2).2 (fun i hi e => h ⟨i, hi, e⟩)
    exact .inl ⟨(decide_eq_decide.1 (idxS_eq p)).2 h0, h0⟩
theorem types_val (p : ByteArray) : (Lib.idxOfS types p < 0 ∧ bitW typeN p 6 = 0) ∨ ∃ a : Nat, a < 6 ∧ Lib.idxOfS types p = (a : Int) ∧ bitW typeN p 6 = 2 ^ a := by
  by_cases h : ∃ a, a < 6 ∧ typeN a = p
  · obtain ⟨a, ha, rfl⟩ := h
    refine .inr ⟨a, ha, ?_⟩
    rcases (show a = 0 ∨ a = 1 ∨ a = 2 ∨ a = 3 ∨ a = 4 ∨ a = 5 by omega) with rfl | rfl | rfl | rfl | rfl | rfl <;> decide
  · have h0 := (bitW_zero typeN p 6).2 (fun i hi e => h ⟨i, hi, e⟩)
    exact .inl ⟨(decide_eq_decide.1 (idxT_eq p)).2 h0, h0⟩
theorem or_bit : ∀ m, m < 64 → ∀ a, a < 6 → (m ||| 2 ^ a) = if m / 2 ^ a % 2 = 1 then m else m + 2 ^ a := by decide
theorem split32 (s : ByteArray) (hs : s.size ≤ 1000000) (w : World) : Calls Tryd.prog 33 #[.string s, .int .u8 32] w fun e w' => ∃ v, e = .returned v ∧ w'.ownsRow w.heap.size 9 1 v (split s 32).length ((split s 32).map Value.string) ∧ Below w.heap.size w w' := split_ref s 32 hs w
theorem split_some (s : ByteArray) (c : UInt8) : 0 < (split s c).length := by
  unfold split
  split
  · simp
  · simp
theorem split_len (s : ByteArray) (c : UInt8) : (split s c).length ≤ s.size + 1 := by
  have := (spl_le s c s.size).2
  unfold split
  split
  · simp
  · simp; omega
/-- The line that lies in block B; what was made before is as it was, but for that block. -/
def LnR (B : Nat) (wo : World) (su ty : Nat) (ys : List ByteArray) (w : World) : Prop :=
  ∃ v, w.heap[B]? = some (.cells #[.int .i64 (su : Int), .int .i64 (ty : Int), v] 24 (0, 0)) ∧ w.ownsRow wo.heap.size 9 1 v ys.length (ys.map Value.string) ∧ Below B wo w ∧ wo.heap.size ≤ w.heap.size ∧ B < wo.heap.size ∧ ∀ k, k < wo.heap.size → k ≠ B → w.heap[k]? = wo.heap[k]?
theorem LnR.set0 {B su ty : Nat} {wo w : World} {ys : List ByteArray} (h : LnR B wo su ty ys w) (n : Nat) : LnR B wo n ty ys (w.setCell ⟨B, 0, none⟩ (.int .i64 (n : Int))) := by
  obtain ⟨v, h1, h2, h3, h4, h5, h6⟩ := h
  exact ⟨v, cells_set w B 0 _ _ _ _ h1, ownsRow_setCell_below h2 h5 _, h3.setCell (Nat.le_refl _) _, by simpa [World.setCell] using h4, h5, fun k hk hB => (Below.heap_setCell w _ _ _ (by show k ≠ B; exact hB)).trans (h6 k hk hB)⟩
theorem LnR.set1 {B su ty : Nat} {wo w : World} {ys : List ByteArray} (h : LnR B wo su ty ys w) (n : Nat) : LnR B wo su n ys (w.setCell ⟨B, 1, none⟩ (.int .i64 (n : Int))) := by
  obtain ⟨v, h1, h2, h3, h4, h5, h6⟩ := h
  exact ⟨v, cells_set w B 1 _ _ _ _ h1, ownsRow_setCell_below h2 h5 _, h3.setCell (Nat.le_refl _) _, by simpa [World.setCell] using h4, h5, fun k hk hB => (Below.heap_setCell w _ _ _ (by show k ≠ B; exact hB)).trans (h6 k hk hB)⟩
theorem LnR.set2 {B su ty : Nat} {wo w w' : World} {ys zs : List ByteArray} {v' : Value} (h : LnR B wo su ty ys w) (hb : Below wo.heap.size w w') (ho : w'.ownsRow wo.heap.size 9 1 v' zs.length (zs.map Value.string)) : LnR B wo su ty zs (w'.setCell ⟨B, 2, none⟩ v') := by
  obtain ⟨v, h1, h2, h3, h4, h5, h6⟩ := h
  exact ⟨v', cells_set w' B 2 _ _ _ _ ((hb.block B h5).trans h1), ownsRow_setCell_below ho h5 _, (h3.trans (hb.mono (by omega))).setCell (Nat.le_refl _) _, by have := hb.size; simp [World.setCell]; omega, h5, fun k hk hB => (Below.heap_setCell w' _ _ _ (by show k ≠ B; exact hB)).trans ((hb.block k hk).trans (h6 k hk hB))⟩
theorem LnR.grow {B su ty : Nat} {wo w w' : World} {ys : List ByteArray} (h : LnR B wo su ty ys w) (hb : Below w.heap.size w w') : LnR B wo su ty ys w' := by
  obtain ⟨v, h1, h2, h3, h4, h5, h6⟩ := h
  exact ⟨v, (hb.block B (by omega)).trans h1, own_block h2 hb, h3.trans (hb.mono (by omega)), Nat.le_trans h4 hb.size, h5, fun k hk hB => (hb.block k (by omega)).trans (h6 k hk hB)⟩
theorem LnR.cells {B su ty : Nat} {wo w : World} {ys : List ByteArray} (h : LnR B wo su ty ys w) : ∃ v, w.ownsRow wo.heap.size 9 1 v ys.length (ys.map Value.string) ∧ w.cell? ⟨B, 0, none⟩ = some (.int .i64 (su : Int)) ∧ w.cell? ⟨B, 1, none⟩ = some (.int .i64 (ty : Int)) ∧ w.cell? ⟨B, 2, none⟩ = some v ∧ w.frozen? ⟨B, 0, none⟩ = false ∧ w.frozen? ⟨B, 1, none⟩ = false ∧ w.frozen? ⟨B, 2, none⟩ = false := by
  obtain ⟨v, h1, h2, _⟩ := h
  exact ⟨v, h2, cell_of_row _ _ 0 _ _ _ h1, cell_of_row _ _ 1 _ _ _ h1, cell_of_row _ _ 2 _ _ _ h1, by simp [World.frozen?, h1], by simp [World.frozen?, h1], by simp [World.frozen?, h1]⟩
/-- 'out = append(out, x)' inside a region that draws its order. -/
theorem step_append_new {P : Program} {ops : Array Oper} {o : Oper} {a : Act} {w : World} {K : Act → World → Prop} {Q : Exit → Act → World → Prop} {E : Prop} (hgd : o.guard = none) (s x : Operand) (t : TypeId)
    (ho : o.op = .call { callee := .builtin .append, args := #[s, x], argTypes := #[t, t] })
    (base : Nat) {e : TypeId} {z : Value} {bytes : Nat} (hE : ElemIs P t e z 1 bytes)
    (v : Value) (n : Nat) (xs : List Value) (hs : a.eval s = v) (hown : w.ownsRow base e 1 v n xs)
    (nb : Nat) (u : Value) (hx : a.eval x = .slice (some ⟨nb, 0, none⟩) 1 1) (hu : w.cell? ⟨nb, 0, none⟩ = some u) (h1 : u.oneCell' = true)
    (hn : (n + 1) * bytes ≤ 140737488355328) (hn1 : n < 140737488355328) (hbase : base ≤ w.heap.size)
    (h : ∀ v' w', w'.ownsRow base e 1 v' (n + 1) (xs ++ [u]) → Below base w w' → K (a.put o.dst v') w') :
    if Region.wanted o (yielded ops a.tmps) = true then Oper.wp P o a w K Q else E := by
  have hw : Region.wanted o (yielded ops a.tmps) = true := by simp [Region.wanted, hgd]
  rw [if_pos hw]
  obtain ⟨ht, hzs, hsz, i, hi, hz, hsize, hby⟩ := hE
  refine wp_append_own w s x t ho base e i z 1 bytes ht hi hz hsize hby hzs hsz v n xs hs hown ⟨nb, 0, none⟩ 1 1 [u] hx rfl (fun j y hj => ?_) (fun y hy => by rw [List.mem_singleton.1 hy]; exact h1) (by simp only [maxLen]; omega) hn hbase ?_
  · cases j with
    | zero =>
      have hadd : (⟨nb, 0, none⟩ : Addr).add 0 = ⟨nb, 0, none⟩ := by unfold Addr.add; split <;> simp_all
      rw [hadd, hu]
      simpa using hj
    | succ j => simp at hj
  · intro v' w' hown' hgrow _
    exact h v' w' hown' ((Below.refl base w).grown hgrow hbase (fun k hk => (hown.lt k hk).1))
set_option maxRecDepth 100000 in
set_option maxHeartbeats 4000000 in
theorem parse_ref (s : ByteArray) (hs : s.size ≤ 1000000) (w : World) : Calls Tryd.prog 12 #[.string s] w fun e w' => ∃ v, e = .returned (.tuple #[lineV (parseL s).1 (parseL s).2.1 v, .int .i64 (parseL s).2.2.2]) ∧ RowAt Value.string w' v (parseL s).2.2.1 ∧ Below w.heap.size w w' := by
  have hll := split_len s 32
  have hl1 := split_some s 32
  have b0 := ((Below.refl w.heap.size w).alloc (Nat.le_refl _) (.cells #[.int .i64 0, .int .i64 0, .slice none 0 0] 24)).alloc (by show w.heap.size ≤ (w.heap.push _).size; simp) (.cells #[.int .i64 0, .int .i64 0, .slice none 0 0] 24)
  obtain ⟨wa, hwa⟩ : ∃ wa, wa = (w.alloc (.cells #[.int .i64 0, .int .i64 0, .slice none 0 0] 24)).alloc (.cells #[.int .i64 0, .int .i64 0, .slice none 0 0] 24) := ⟨_, rfl⟩
  have HA := Lib.hid hwa
  have HZ := Lib.hid (show wa.heap.size = w.heap.size + 2 by rw [hwa]; show ((w.heap.push _).push _).size = _; simp)
  have HL := Lib.hid (show wa.heap[w.heap.size + 1]? = some (.cells #[.int .i64 0, .int .i64 0, .slice none 0 0] 24 (0, 0)) by rw [hwa]; show ((w.heap.push _).push _)[w.heap.size + 1]? = _; simp [Array.getElem_push])
  have HL0 := Lib.hid (show wa.heap[w.heap.size]? = some (.cells #[.int .i64 0, .int .i64 0, .slice none 0 0] 24 (0, 0)) by rw [hwa]; show ((w.heap.push _).push _)[w.heap.size]? = _; simp [Array.getElem?_push])
  have HPS := Lib.hid (parse_same s)
  rw [← hwa] at b0
  have B0 := Lib.hid b0
  clear hwa b0
  go_enter Tryd.func12, Tryd.ntmps12
  go_wp2_with fail
  rw [← HA.out]
  refine (split32 s hs _).mono ?_
  rintro e w1 ⟨v0, rfl, own1, b1⟩
  obtain ⟨xs, hxs⟩ : ∃ xs, xs = split s 32 := ⟨_, rfl⟩
  rw [← hxs] at hll hl1 own1 HPS
  obtain ⟨gw, cw, rfl, hgb, hgl, hcw, hcell⟩ := own_nil_or own1 hl1
  have LA := Lib.hid (show LnR (w.heap.size + 1) w1 0 0 [] w1 from ⟨_, (b1.block _ (by have := HZ.out; omega)).trans HL.out, World.ownsRow_nil _ _ _ _, Below.refl _ _, Nat.le_refl _, by have := HZ.out; have := b1.size; omega, fun _ _ _ => rfl⟩)
  have LB0 := Lib.hid ((b1.block w.heap.size (by have := HZ.out; omega)).trans HL0.out)
  have B1 := Lib.hid (B0.out.trans (b1.mono B0.out.size))
  have HC := Lib.hid (show ∀ j, j < xs.length → w1.cell? ⟨gw, j, none⟩ = some (.string (xs.getD j ByteArray.empty)) from fun j hj => hcell j _ (by rw [List.getElem?_map, List.getElem?_eq_getElem hj, List.getD_eq_getElem?_getD, List.getElem?_eq_getElem hj]; rfl))
  have hgn : gw ≠ w.heap.size + 1 := by have := HZ.out; omega
  have HGN := Lib.hid hgn
  have hsz1 : w.heap.size + 2 ≤ w1.heap.size := by have := HZ.out; have := b1.size; omega
  clear hxs b1 own1 hcell hgn hgb
  go_wp2_with fail
  go_loopw [6] (fun i wr => ∃ j : Nat, j ≤ xs.length ∧ i = .int .i64 j ∧ Hid (LnR (w.heap.size + 1) w1 (orW superN 2 xs j) (orW typeN 6 xs j) (subsW xs j) wr)) (fun i _ => xs.length - (intOf i).toNat)
  case atStart => exact ⟨0, by omega, rfl, LA⟩
  case round =>
    obtain ⟨j, hj, rfl, HR⟩ := hrel
    by_cases hlt : j < xs.length
    · have hs0 := orW_lt superN 2 xs j
      have ht0 := orW_lt typeN 6 xs j
      have hsl := subsW_len xs j
      obtain ⟨p, hp⟩ : ∃ p, p = xs.getD j ByteArray.empty := ⟨_, rfl⟩
      have HS := Lib.hid (show orW superN 2 xs (j + 1) = orW superN 2 xs j ||| bitW superN p 2 by rw [orW, hp])
      have HT := Lib.hid (show orW typeN 6 xs (j + 1) = orW typeN 6 xs j ||| bitW typeN p 6 by rw [orW, hp])
      have HU := Lib.hid (show subsW xs (j + 1) = if bitW superN p 2 = 0 ∧ bitW typeN p 6 = 0 then subsW xs j ++ [p] else subsW xs j by rw [subsW, hp])
      have hlw : w1.heap.size ≤ wr.heap.size := by obtain ⟨_, _, _, _, h, _⟩ := HR.out; exact h
      have Q := Lib.hid (show wr.cell? ⟨gw, j, none⟩ = some (.string p) from (World.cell?_of_block (by obtain ⟨_, _, _, _, _, _, h⟩ := HR.out; exact h gw hgl HGN.out)).trans (by rw [hp]; exact HC.out j hlt))
      have HV1 := Lib.hid (supers_val p)
      have HV2 := Lib.hid (types_val p)
      have HX := Lib.hid (super_type p)
      obtain ⟨m1, hm1⟩ : ∃ m1, m1 = orW superN 2 xs j := ⟨_, rfl⟩
      obtain ⟨m2, hm2⟩ : ∃ m2, m2 = orW typeN 6 xs j := ⟨_, rfl⟩
      obtain ⟨ys, hys⟩ : ∃ ys, ys = subsW xs j := ⟨_, rfl⟩
      obtain ⟨n1, hn1⟩ : ∃ n1, n1 = bitW superN p 2 := ⟨_, rfl⟩
      obtain ⟨n2, hn2⟩ : ∃ n2, n2 = bitW typeN p 6 := ⟨_, rfl⟩
      obtain ⟨z1, hz1⟩ : ∃ z1, z1 = Lib.idxOfS supers p := ⟨_, rfl⟩
      obtain ⟨z2, hz2⟩ : ∃ z2, z2 = Lib.idxOfS types p := ⟨_, rfl⟩
      rw [← hm1] at hs0 HS HR
      rw [← hm2] at ht0 HT HR
      rw [← hys] at hsl HU HR
      rw [← hn1] at HS HU HX HV1
      rw [← hn2] at HT HU HX HV2
      rw [← hz1] at HV1
      rw [← hz2] at HV2
      have HZ1 := Lib.hid hz1.symm
      have HZ2 := Lib.hid hz2.symm
      clear hp hm1 hm2 hys hn1 hn2 hz1 hz2
      have hgr : gw < wr.heap.size := by omega
      have HGR := Lib.hid hgr
      go_wp2_with fail
      have hG0 : Lx wr wr := Below.refl _ _
      have hG0d : Lx wr wr.drew := Lx.drew hG0
      refine wp_region_noPanic ?_
      refine wp_region_held_drew (S := fun w' => Lx wr w') (by kernel_rfl) (Lx.drew (by assumption)) (fun hHeld => ?_)
      refine wpAnyH_take (i := 1) (oi := ?oiA1x) (v := ?vA1x) ?hiA1x (by kernel_rfl) (by kernel_rfl) (by kernel_rfl) ?hqA1x ?hyA1x (by assumption) ?restA1x
      case hiA1x => (simp only [List.getElem?_toArray, List.getElem?_cons_succ, List.getElem?_cons_zero] <;> rfl)
      case hqA1x => exact fun _ _ _ h => h
      case hyA1x => exact Or.inl ⟨by rfl, by (intro wS hSw; have q := (Below.cell hSw (p := ⟨gw, j, none⟩) HGR.out).trans Q.out; go_simp; try with_reducible rfl)⟩
      try simp only [Act.put, List.setIfInBounds_toArray, List.set_cons_zero, List.set_cons_succ]
      refine wpAnyH_take (i := 2) (oi := ?oiA2x) (v := ?vA2x) ?hiA2x (by kernel_rfl) (by kernel_rfl) (by kernel_rfl) ?hqA2x ?hyA2x (by assumption) ?restA2x
      case hiA2x => (simp only [List.getElem?_toArray, List.getElem?_cons_succ, List.getElem?_cons_zero] <;> rfl)
      case hqA2x => exact fun _ _ _ h => h
      case hyA2x => exact Or.inl ⟨by rfl, by (intro wS hSw; have q := (Below.cell hSw (p := ⟨gw, j, none⟩) HGR.out).trans Q.out; go_simp; try with_reducible rfl)⟩
      try simp only [Act.put, List.setIfInBounds_toArray, List.set_cons_zero, List.set_cons_succ]
      refine wpAnyH_take (i := 3) (oi := ?oiA3x) (v := ?vA3x) ?hiA3x (by kernel_rfl) (by kernel_rfl) (by kernel_rfl) ?hqA3x ?hyA3x (by assumption) ?restA3x
      case hiA3x => (simp only [List.getElem?_toArray, List.getElem?_cons_succ, List.getElem?_cons_zero] <;> rfl)
      case hqA3x => exact fun _ _ _ h => h
      case hyA3x => exact Or.inl ⟨by rfl, by (intro wS hSw; have q := (Below.cell hSw (p := ⟨gw, j, none⟩) HGR.out).trans Q.out; go_simp; try with_reducible rfl)⟩
      try simp only [Act.put, List.setIfInBounds_toArray, List.set_cons_zero, List.set_cons_succ]
      refine wpAnyH_take (i := 4) (oi := ?oiA4x) (v := ?vA4x) ?hiA4x (by kernel_rfl) (by kernel_rfl) (by kernel_rfl) ?hqA4x ?hyA4x (by assumption) ?restA4x
      case hiA4x => (simp only [List.getElem?_toArray, List.getElem?_cons_succ, List.getElem?_cons_zero] <;> rfl)
      case hqA4x => exact fun _ _ _ h => h
      case hyA4x => exact Or.inl ⟨by rfl, by (intro wS hSw; have q := (Below.cell hSw (p := ⟨gw, j, none⟩) HGR.out).trans Q.out; go_simp; try with_reducible rfl)⟩
      try simp only [Act.put, List.setIfInBounds_toArray, List.set_cons_zero, List.set_cons_succ]
      refine wpAnyH_ready (rs := [0]) (by kernel_rfl) (by simp) ?_
      refine AllReadyH.cons (o := ?oiA0x) ?hiA0x (fun K hK => ?hsA0x) AllReadyH.nil
      case hiA0x => (simp only [List.getElem?_toArray, List.getElem?_cons_zero] <;> rfl)
      go_simp
      refine (superWords_ref wr.drew).mono ?_
      rintro e w3 ⟨v3, rfl, rw3, bw3⟩
      have hGw3 : Lx wr w3 := Lx.step (by assumption) bw3
      have Rw3 := Lib.hid rw3
      clear bw3 rw3
      go_wp2_with fail
      refine hK.out _ _ hGw3 (fun hHeldw3 => ?_)
      clear hK K
      try simp only [Act.put, List.setIfInBounds_toArray, List.set_cons_zero, List.set_cons_succ]
      refine wpAnyH_ready (rs := [5]) (by kernel_rfl) (by simp) ?_
      refine AllReadyH.cons (o := ?oiA5x) ?hiA5x (fun K hK => ?hsA5x) AllReadyH.nil
      case hiA5x => (simp only [List.getElem?_toArray, List.getElem?_cons_succ, List.getElem?_cons_zero] <;> rfl)
      go_simp
      refine (index_ref v3 supers p w3 Rw3.out (by decide)).mono ?_
      rintro e wq ⟨rfl, rfl⟩
      rw [HZ1.out]
      go_wp2_with fail
      refine hK.out _ _ hGw3 (fun hHeldbw3 => ?_)
      clear hK K
      try simp only [Act.put, List.setIfInBounds_toArray, List.set_cons_zero, List.set_cons_succ]
      refine wpAnyH_take (i := 6) (oi := ?oiA6x) (v := ?vA6x) ?hiA6x (by kernel_rfl) (by kernel_rfl) (by kernel_rfl) ?hqA6x ?hyA6x (by assumption) ?restA6x
      case hiA6x => (simp only [List.getElem?_toArray, List.getElem?_cons_succ, List.getElem?_cons_zero] <;> rfl)
      case hqA6x => exact fun _ _ _ h => h
      case hyA6x => exact Or.inl ⟨by rfl, by (intro wS hSw; have q := (Below.cell hSw (p := ⟨gw, j, none⟩) HGR.out).trans Q.out; go_simp; try with_reducible rfl)⟩
      try simp only [Act.put, List.setIfInBounds_toArray, List.set_cons_zero, List.set_cons_succ]
      refine wpAnyH_done (by kernel_rfl) ?_ _
      refine NoPanic.normal ?_
      go_wp2_with fail
      have hG3d : Lx wr w3.drew := Lx.drew hGw3
      refine wp_region_noPanic ?_
      refine wp_region_held_drew (S := fun w' => Lx wr w') (by kernel_rfl) (Lx.drew (by assumption)) (fun hHeld => ?_)
      refine wpAnyH_take (i := 1) (oi := ?oiB1x) (v := ?vB1x) ?hiB1x (by kernel_rfl) (by kernel_rfl) (by kernel_rfl) ?hqB1x ?hyB1x (by assumption) ?restB1x
      case hiB1x => (simp only [List.getElem?_toArray, List.getElem?_cons_succ, List.getElem?_cons_zero] <;> rfl)
      case hqB1x => exact fun _ _ _ h => h
      case hyB1x => exact Or.inl ⟨by rfl, by (intro wS hSw; have q := (Below.cell hSw (p := ⟨gw, j, none⟩) HGR.out).trans Q.out; go_simp; try with_reducible rfl)⟩
      try simp only [Act.put, List.setIfInBounds_toArray, List.set_cons_zero, List.set_cons_succ]
      refine wpAnyH_take (i := 2) (oi := ?oiB2x) (v := ?vB2x) ?hiB2x (by kernel_rfl) (by kernel_rfl) (by kernel_rfl) ?hqB2x ?hyB2x (by assumption) ?restB2x
      case hiB2x => (simp only [List.getElem?_toArray, List.getElem?_cons_succ, List.getElem?_cons_zero] <;> rfl)
      case hqB2x => exact fun _ _ _ h => h
      case hyB2x => exact Or.inl ⟨by rfl, by (intro wS hSw; have q := (Below.cell hSw (p := ⟨gw, j, none⟩) HGR.out).trans Q.out; go_simp; try with_reducible rfl)⟩
      try simp only [Act.put, List.setIfInBounds_toArray, List.set_cons_zero, List.set_cons_succ]
      refine wpAnyH_take (i := 3) (oi := ?oiB3x) (v := ?vB3x) ?hiB3x (by kernel_rfl) (by kernel_rfl) (by kernel_rfl) ?hqB3x ?hyB3x (by assumption) ?restB3x
      case hiB3x => (simp only [List.getElem?_toArray, List.getElem?_cons_succ, List.getElem?_cons_zero] <;> rfl)
      case hqB3x => exact fun _ _ _ h => h
      case hyB3x => exact Or.inl ⟨by rfl, by (intro wS hSw; have q := (Below.cell hSw (p := ⟨gw, j, none⟩) HGR.out).trans Q.out; go_simp; try with_reducible rfl)⟩
      try simp only [Act.put, List.setIfInBounds_toArray, List.set_cons_zero, List.set_cons_succ]
      refine wpAnyH_take (i := 4) (oi := ?oiB4x) (v := ?vB4x) ?hiB4x (by kernel_rfl) (by kernel_rfl) (by kernel_rfl) ?hqB4x ?hyB4x (by assumption) ?restB4x
      case hiB4x => (simp only [List.getElem?_toArray, List.getElem?_cons_succ, List.getElem?_cons_zero] <;> rfl)
      case hqB4x => exact fun _ _ _ h => h
      case hyB4x => exact Or.inl ⟨by rfl, by (intro wS hSw; have q := (Below.cell hSw (p := ⟨gw, j, none⟩) HGR.out).trans Q.out; go_simp; try with_reducible rfl)⟩
      try simp only [Act.put, List.setIfInBounds_toArray, List.set_cons_zero, List.set_cons_succ]
      refine wpAnyH_ready (rs := [0]) (by kernel_rfl) (by simp) ?_
      refine AllReadyH.cons (o := ?oiB0x) ?hiB0x (fun K hK => ?hsB0x) AllReadyH.nil
      case hiB0x => (simp only [List.getElem?_toArray, List.getElem?_cons_zero] <;> rfl)
      go_simp
      refine (typeWords_ref w3.drew).mono ?_
      rintro e w4 ⟨v4, rfl, rw4, bw4⟩
      have hGw4 : Lx wr w4 := Lx.step (by assumption) bw4
      have Rw4 := Lib.hid rw4
      clear bw4 rw4
      go_wp2_with fail
      refine hK.out _ _ hGw4 (fun hHeldw4 => ?_)
      clear hK K
      try simp only [Act.put, List.setIfInBounds_toArray, List.set_cons_zero, List.set_cons_succ]
      refine wpAnyH_ready (rs := [5]) (by kernel_rfl) (by simp) ?_
      refine AllReadyH.cons (o := ?oiB5x) ?hiB5x (fun K hK => ?hsB5x) AllReadyH.nil
      case hiB5x => (simp only [List.getElem?_toArray, List.getElem?_cons_succ, List.getElem?_cons_zero] <;> rfl)
      go_simp
      refine (index_ref v4 types p w4 Rw4.out (by decide)).mono ?_
      rintro e wq ⟨rfl, rfl⟩
      rw [HZ2.out]
      go_wp2_with fail
      refine hK.out _ _ hGw4 (fun hHeldbw4 => ?_)
      clear hK K
      try simp only [Act.put, List.setIfInBounds_toArray, List.set_cons_zero, List.set_cons_succ]
      refine wpAnyH_take (i := 6) (oi := ?oiB6x) (v := ?vB6x) ?hiB6x (by kernel_rfl) (by kernel_rfl) (by kernel_rfl) ?hqB6x ?hyB6x (by assumption) ?restB6x
      case hiB6x => (simp only [List.getElem?_toArray, List.getElem?_cons_succ, List.getElem?_cons_zero] <;> rfl)
      case hqB6x => exact fun _ _ _ h => h
      case hyB6x => exact Or.inl ⟨by rfl, by (intro wS hSw; have q := (Below.cell hSw (p := ⟨gw, j, none⟩) HGR.out).trans Q.out; go_simp; try with_reducible rfl)⟩
      try simp only [Act.put, List.setIfInBounds_toArray, List.set_cons_zero, List.set_cons_succ]
      refine wpAnyH_done (by kernel_rfl) ?_ _
      refine NoPanic.normal ?_
      have HR4 := Lib.hid (HR.out.grow hGw4)
      have Q4 := Lib.hid ((Below.cell hGw4 (p := ⟨gw, j, none⟩) HGR.out).trans Q.out)
      clear HR Q hHeldw3 hHeldw4 hHeldbw3 hHeldbw4 Rw3 Rw4
      obtain ⟨v5, hown, c0, c1, c2, f0, f1, f2⟩ := HR4.out.cells
      have HO := Lib.hid hown
      have hsz4 : w1.heap.size ≤ w4.heap.size := by obtain ⟨_, _, _, _, h, _⟩ := HR4.out; exact h
      clear hown
      rcases HV1.out with ⟨g1, e1⟩ | ⟨a, ha, g1, e1⟩
      · rcases HV2.out with ⟨g2, e2⟩ | ⟨a, ha, g2, e2⟩
        · have HS1 := Lib.hid (show orW superN 2 xs (j + 1) = m1 by rw [HS.out, e1, Nat.or_zero])
          have HT1 := Lib.hid (show orW typeN 6 xs (j + 1) = m2 by rw [HT.out, e2, Nat.or_zero])
          have HU1 := Lib.hid (show subsW xs (j + 1) = ys ++ [p] by rw [HU.out, if_pos ⟨e1, e2⟩])
          have d1 : decide (0 ≤ z1) = false := decide_eq_false (by omega)
          have d2 : decide (0 ≤ z2) = false := decide_eq_false (by omega)
          have d3 : decide (z1 < 0) = true := decide_eq_true g1
          have d4 : decide (z2 < 0) = true := decide_eq_true g2
          have q := Q4.out
          clear g1 g2 e1 e2 HV1 HV2 HX
          go_wp2_with fail
          have HBA := Lib.hid (show Below w4.heap.size w4 ((w4.alloc (.cells #[.string p] 9)).drew) from ((Below.refl _ _).alloc (Nat.le_refl _) _).drew)
          have HOA := Lib.hid (own_block HO.out HBA.out)
          have HCA := Lib.hid (show ((w4.alloc (.cells #[.string p] 9)).drew).cell? ⟨w4.heap.size, 0, none⟩ = some (.string p) from cell_of_row _ _ 0 _ _ (0, 0) (heap_alloc_new w4 _))
          have HSA := Lib.hid (show w1.heap.size ≤ ((w4.alloc (.cells #[.string p] 9)).drew).heap.size from Nat.le_trans hsz4 HBA.out.size)
          have C2A := Lib.hid ((HBA.out.cell (p := ⟨w.heap.size + 1, 2, none⟩) (by show w.heap.size + 1 < w4.heap.size; omega)).trans c2)
          have F2A := Lib.hid ((HBA.out.frozen (p := ⟨w.heap.size + 1, 2, none⟩) (by show w.heap.size + 1 < w4.heap.size; omega)).trans f2)
          have c2a : (w4.alloc (.cells #[.string p] 9)).cell? ⟨w.heap.size + 1, 2, none⟩ = some v5 := C2A.out
          go_region_law (refine step_append_new rfl (.tmp 66) (.tmp 71) 22 rfl w1.heap.size stringsElem _ _ _ rfl HOA.out w4.heap.size (.string p) rfl HCA.out rfl (by omega) (by omega) HSA.out ?_; intro v6 w6 hown6 hbel6; have c2' := (hbel6.cell (p := ⟨w.heap.size + 1, 2, none⟩) (by show w.heap.size + 1 < w1.heap.size; omega)).trans C2A.out; have f2' := (hbel6.frozen (p := ⟨w.heap.size + 1, 2, none⟩) (by show w.heap.size + 1 < w1.heap.size; omega)).trans F2A.out; have ho2 : w6.ownsRow w1.heap.size 9 1 v6 (ys ++ [p]).length ((ys ++ [p]).map Value.string) := (by rw [List.length_append, List.length_singleton, List.map_append]; exact hown6); have HW := Lib.hid ((HR4.out.grow HBA.out).set2 hbel6 ho2); obtain ⟨a6, k6, rfl⟩ := (rowAt_own ho2).form; clear hown6 ho2 hbel6 c0 c1 c2 f0 f1 f2 c2a)
          all_goals
            go_wp2_with fail
            go_roundw
            case rel => exact ⟨j + 1, by omega, by go_num, Lib.hid (by rw [HS1.out, HT1.out, HU1.out]; have e := HW.out; rw [List.length_append, List.length_singleton] at e; exact e)⟩
            case measure => simp [intOf]; omega
        · obtain ⟨pw, hpw⟩ : ∃ pw, pw = 2 ^ a := ⟨_, rfl⟩
          have HPW := Lib.hid hpw
          have hpl : pw ≤ 64 := by rw [hpw]; exact Nat.le_trans (Nat.pow_le_pow_right (by omega) (show a ≤ 6 by omega)) (by decide)
          have hob := or_bit m2 ht0 a ha
          have HS1 := Lib.hid (show orW superN 2 xs (j + 1) = m1 by rw [HS.out, e1, Nat.or_zero])
          have HU1 := Lib.hid (show subsW xs (j + 1) = ys by rw [HU.out, if_neg (fun h => by rw [e2] at h; have := Nat.two_pow_pos a; omega)])
          have d1 : decide (0 ≤ z1) = false := decide_eq_false (by omega)
          have d3 : decide (z1 < 0) = true := decide_eq_true g1
          subst g2
          by_cases hb : m2 / 2 ^ a % 2 = 1
          · have HB := Lib.hid (show decide (m2 / 2 ^ a % 2 = 1) = true from decide_eq_true hb)
            have HT1 := Lib.hid (show orW typeN 6 xs (j + 1) = m2 by rw [HT.out, e2, hob, if_pos hb])
            clear g1 e1 e2 HV1 HV2 HX hob hb hpw
            go_wp2_with fail
            refine (bit_ref m2 a (by omega) (by omega) _).mono ?_
            rintro e w5 ⟨rfl, rfl⟩
            rw [HB.out]
            go_wp2_with fail
            go_roundw
            case rel => exact ⟨j + 1, by omega, by go_num, Lib.hid (by rw [HS1.out, HT1.out, HU1.out]; exact HR4.out)⟩
            case measure => simp [intOf]; omega
          · have HB := Lib.hid (show decide (m2 / 2 ^ a % 2 = 1) = false from decide_eq_false hb)
            have HT1 := Lib.hid (show orW typeN 6 xs (j + 1) = m2 + pw by rw [HT.out, e2, hob, if_neg hb, hpw])
            have hwr : IntKind.i64.wrap ((m2 : Int) + (pw : Int)) = (m2 : Int) + (pw : Int) := by rw [IntKind.wrap_i64]; omega
            clear g1 e1 e2 HV1 HV2 HX hob hb hpw
            go_wp2_with fail
            refine (bit_ref m2 a (by omega) (by omega) _).mono ?_
            rintro e w5 ⟨rfl, rfl⟩
            rw [HB.out]
            go_wp2_with fail
            go_region_with (go_at_call 38; refine (power_ref a (by omega) _).mono ?_; rintro e w5 ⟨rfl, rfl⟩; rw [← HPW.out])
            all_goals
              go_wp2_with fail
              go_roundw
              case rel => exact ⟨j + 1, by omega, by go_num, Lib.hid (by rw [HS1.out, HT1.out, HU1.out]; exact (HR4.out.grow (Below.drew (Below.refl _ _))).set1 (m2 + pw))⟩
              case measure => simp [intOf]; omega
      · obtain ⟨pw, hpw⟩ : ∃ pw, pw = 2 ^ a := ⟨_, rfl⟩
        have HPW := Lib.hid hpw
        have hn1 : n1 ≠ 0 := by rw [e1]; have := Nat.two_pow_pos a; omega
        have e2 := HX.out hn1
        have g2 : z2 < 0 := by
          rcases HV2.out with ⟨g2, _⟩ | ⟨b, _, _, e3⟩
          · exact g2
          · have := Nat.two_pow_pos b; omega
        have hpl : pw ≤ 64 := by rw [hpw]; exact Nat.le_trans (Nat.pow_le_pow_right (by omega) (show a ≤ 6 by omega)) (by decide)
        have hob := or_bit m1 (by omega) a (by omega)
        have HT1 := Lib.hid (show orW typeN 6 xs (j + 1) = m2 by rw [HT.out, e2, Nat.or_zero])
        have HU1 := Lib.hid (show subsW xs (j + 1) = ys by rw [HU.out, if_neg (fun h => hn1 h.1)])
        have d2 : decide (0 ≤ z2) = false := decide_eq_false (by omega)
        have d4 : decide (z2 < 0) = true := decide_eq_true g2
        subst g1
        by_cases hb : m1 / 2 ^ a % 2 = 1
        · have HB := Lib.hid (show decide (m1 / 2 ^ a % 2 = 1) = true from decide_eq_true hb)
          have HS1 := Lib.hid (show orW superN 2 xs (j + 1) = m1 by rw [HS.out, e1, hob, if_pos hb])
          clear g2 e1 e2 HV1 HV2 HX hob hb hpw hn1
          go_wp2_with fail
          refine (bit_ref m1 a (by omega) (by omega) _).mono ?_
          rintro e w5 ⟨rfl, rfl⟩
          rw [HB.out]
          go_wp2_with fail
          go_roundw
          case rel => exact ⟨j + 1, by omega, by go_num, Lib.hid (by rw [HS1.out, HT1.out, HU1.out]; exact HR4.out)⟩
          case measure => simp [intOf]; omega
        · have HB := Lib.hid (show decide (m1 / 2 ^ a % 2 = 1) = false from decide_eq_false hb)
          have HS1 := Lib.hid (show orW superN 2 xs (j + 1) = m1 + pw by rw [HS.out, e1, hob, if_neg hb, hpw])
          have hwr : IntKind.i64.wrap ((m1 : Int) + (pw : Int)) = (m1 : Int) + (pw : Int) := by rw [IntKind.wrap_i64]; omega
          clear g2 e1 e2 HV1 HV2 HX hob hb hpw hn1
          go_wp2_with fail
          refine (bit_ref m1 a (by omega) (by omega) _).mono ?_
          rintro e w5 ⟨rfl, rfl⟩
          rw [HB.out]
          go_wp2_with fail
          go_region_with (go_at_call 38; refine (power_ref a (by omega) _).mono ?_; rintro e w5 ⟨rfl, rfl⟩; rw [← HPW.out])
          all_goals
            go_wp2_with fail
            go_roundw
            case rel => exact ⟨j + 1, by omega, by go_num, Lib.hid (by rw [HS1.out, HT1.out, HU1.out]; exact (HR4.out.grow (Below.drew (Below.refl _ _))).set0 (m1 + pw))⟩
            case measure => simp [intOf]; omega
    · obtain rfl : j = xs.length := by omega
      have HR := Lib.hid (show LnR (w.heap.size + 1) w1 (wSu xs) (wTy xs) (wSubs xs) wr from HR.out)
      have hsl : (wSubs xs).length ≤ xs.length := subsW_len xs xs.length
      have HW := Lib.hid (show Below w.heap.size w wr by obtain ⟨_, _, _, h, _⟩ := HR.out; exact B1.out.trans (h.mono (by omega)))
      have HB0 := Lib.hid (show wr.heap[w.heap.size]? = _ by obtain ⟨_, _, _, h, _⟩ := HR.out; exact (h.block w.heap.size (by omega)).trans LB0.out)
      obtain ⟨v, hown, c0, c1, c2, f0, f1, f2⟩ := HR.out.cells
      have RV := Lib.hid (rowAt_own hown)
      have HI := Lib.hid (isL_ref (wSu xs) (wTy xs) v (wSubs xs) wr RV.out (by omega))
      obtain ⟨a5, k5, rfl⟩ := RV.out.form
      have HX := Lib.hid (text_ref (wSu xs) (wTy xs) (.slice a5 (wSubs xs).length k5) (wSubs xs))
      have hlt0 : w.heap.size + 1 < wr.heap.size := by obtain ⟨_, _, _, _, h, _⟩ := HR.out; omega
      have HLT := Lib.hid hlt0
      have HB1 := Lib.hid (show ∃ v', wr.heap[w.heap.size + 1]? = some (.cells #[.int .i64 (wSu xs : Int), .int .i64 (wTy xs : Int), v'] 24 (0, 0)) by obtain ⟨v', h, _⟩ := HR.out; exact ⟨v', h⟩)
      have HOW := Lib.hid hown
      clear hown hlt hj hlt0
      cases hl : isL (wSu xs) (wTy xs) (wSubs xs)
      · have HPL := Lib.hid (show parseL s = (0, 0, [], 3) by rw [← HPS.out, parseW, if_neg (fun h => Bool.noConfusion (hl.symm.trans h.1))])
        rw [hl] at HI
        clear hl
        go_wp2_with fail
        refine HI.out.mono ?_
        rintro e wb ⟨rfl, bI⟩
        have hb0 := (bI.block w.heap.size (by have := HLT.out; omega)).trans HB0.out
        have d0 := cell_of_row _ _ 0 _ _ _ hb0
        have d1 := cell_of_row _ _ 1 _ _ _ hb0
        have d2 := cell_of_row _ _ 2 _ _ _ hb0
        have g0 : wb.frozen? ⟨w.heap.size, 0, none⟩ = false := by simp [World.frozen?, hb0]
        have g1 : wb.frozen? ⟨w.heap.size, 1, none⟩ = false := by simp [World.frozen?, hb0]
        have g2 : wb.frozen? ⟨w.heap.size, 2, none⟩ = false := by simp [World.frozen?, hb0]
        simp only [List.getElem?_toArray, List.getElem?_cons_succ, List.getElem?_cons_zero] at d0 d1 d2
        have HS3 := Lib.hid (set3 wb w.heap.size _ _ _ (.int .i64 0) (.int .i64 0) (.slice none 0 0) _ _ hb0)
        have HB3 := Lib.hid (below_set3 (HW.out.trans (bI.mono HW.out.size)) w.heap.size (.int .i64 0) (.int .i64 0) (.slice none 0 0) (Nat.le_refl _))
        clear hb0
        go_wp2_with fail
        generalize hWW : World.setCell (World.setCell (World.setCell wb _ _) _ _) _ _ = W at HS3 HB3 ⊢
        have k0 := cell_of_row _ _ 0 _ _ _ HS3.out
        have k1 := cell_of_row _ _ 1 _ _ _ HS3.out
        have k2 := cell_of_row _ _ 2 _ _ _ HS3.out
        simp only [List.getElem?_toArray, List.getElem?_cons_succ, List.getElem?_cons_zero] at k0 k1 k2
        refine bodyPost_ret (v := .tuple #[.agg #[.int .i64 0, .int .i64 0, .slice none 0 0], .int .i64 3]) (by simp [results, Tryd.results12, go_sem, k0, k1, k2]) rfl ⟨.slice none 0 0, ?_, ?_, HB3.out⟩
        · rw [HPL.out]; rfl
        · rw [HPL.out]; exact rowAt_nil _ _
      · rw [hl] at HI
        have HTX := Lib.hid (show lineText (wSu xs) (wTy xs) (wSubs xs) = jo (lineWords (wSu xs) (wTy xs) (wSubs xs)) ⟨#[32]⟩ by rw [lineText, hl]; rfl)
        by_cases he : lineText (wSu xs) (wTy xs) (wSubs xs) = s
        · have HPL := Lib.hid (show parseL s = (wSu xs, wTy xs, wSubs xs, 0) by rw [← HPS.out, parseW, if_pos ⟨hl, he⟩])
          have hsame2 := same_true he
          clear hl he
          go_wp2_with fail
          refine HI.out.mono ?_
          rintro e wb ⟨rfl, bI⟩
          have HBI := Lib.hid bI
          have q0 := (bI.cell (p := ⟨w.heap.size + 1, 0, none⟩) HLT.out).trans c0
          have q1 := (bI.cell (p := ⟨w.heap.size + 1, 1, none⟩) HLT.out).trans c1
          have q2 := (bI.cell (p := ⟨w.heap.size + 1, 2, none⟩) HLT.out).trans c2
          clear bI
          go_wp2_with fail
          refine (HX.out wb (RV.out.below HBI.out) (by omega)).mono ?_
          rintro e wc ⟨rfl, bT⟩
          have HBC := Lib.hid (HBI.out.trans (bT.mono HBI.out.size))
          have r0 := (HBC.out.cell (p := ⟨w.heap.size + 1, 0, none⟩) HLT.out).trans c0
          have r1 := (HBC.out.cell (p := ⟨w.heap.size + 1, 1, none⟩) HLT.out).trans c1
          have r2 := (HBC.out.cell (p := ⟨w.heap.size + 1, 2, none⟩) HLT.out).trans c2
          have hb0 := (HBC.out.block w.heap.size (by have := HLT.out; omega)).trans HB0.out
          have d0 := cell_of_row _ _ 0 _ _ _ hb0
          have d1 := cell_of_row _ _ 1 _ _ _ hb0
          have d2 := cell_of_row _ _ 2 _ _ _ hb0
          have g0 : wc.frozen? ⟨w.heap.size, 0, none⟩ = false := by simp [World.frozen?, hb0]
          have g1 : wc.frozen? ⟨w.heap.size, 1, none⟩ = false := by simp [World.frozen?, hb0]
          have g2 : wc.frozen? ⟨w.heap.size, 2, none⟩ = false := by simp [World.frozen?, hb0]
          simp only [List.getElem?_toArray, List.getElem?_cons_succ, List.getElem?_cons_zero] at d0 d1 d2
          have HS3 := Lib.hid (set3 wc w.heap.size _ _ _ (.int .i64 (wSu xs : Int)) (.int .i64 (wTy xs : Int)) (.slice a5 (wSubs xs).length k5) _ _ hb0)
          have HB3 := Lib.hid (below_set3 (HW.out.trans (HBC.out.mono HW.out.size)) w.heap.size (.int .i64 (wSu xs : Int)) (.int .i64 (wTy xs : Int)) (.slice a5 (wSubs xs).length k5) (Nat.le_refl _))
          have HRW := Lib.hid (rowAt_own (own_set3 (own_block HOW.out HBC.out) w.heap.size (.int .i64 (wSu xs : Int)) (.int .i64 (wTy xs : Int)) (.slice a5 (wSubs xs).length k5) (by omega)))
          clear hb0 bT
          go_wp2_with fail
          generalize hWW : World.setCell (World.setCell (World.setCell wc _ _) _ _) _ _ = W at HS3 HB3 HRW ⊢
          have k0 := cell_of_row _ _ 0 _ _ _ HS3.out
          have k1 := cell_of_row _ _ 1 _ _ _ HS3.out
          have k2 := cell_of_row _ _ 2 _ _ _ HS3.out
          simp only [List.getElem?_toArray, List.getElem?_cons_succ, List.getElem?_cons_zero] at k0 k1 k2
          refine bodyPost_ret (v := .tuple #[.agg #[.int .i64 (wSu xs : Int), .int .i64 (wTy xs : Int), .slice a5 (wSubs xs).length k5], .int .i64 0]) (by simp [results, Tryd.results12, go_sem, k0, k1, k2]) rfl ⟨.slice a5 (wSubs xs).length k5, ?_, ?_, HB3.out⟩
          · rw [HPL.out]; rfl
          · rw [HPL.out]; exact HRW.out
        · have HPL := Lib.hid (show parseL s = (0, 0, [], 3) by rw [← HPS.out, parseW, if_neg (fun h => he h.2)])
          have hsame2 := same_false he
          clear hl he
          go_wp2_with fail
          refine HI.out.mono ?_
          rintro e wb ⟨rfl, bI⟩
          have HBI := Lib.hid bI
          have q0 := (bI.cell (p := ⟨w.heap.size + 1, 0, none⟩) HLT.out).trans c0
          have q1 := (bI.cell (p := ⟨w.heap.size + 1, 1, none⟩) HLT.out).trans c1
          have q2 := (bI.cell (p := ⟨w.heap.size + 1, 2, none⟩) HLT.out).trans c2
          clear bI
          go_wp2_with fail
          refine (HX.out wb (RV.out.below HBI.out) (by omega)).mono ?_
          rintro e wc ⟨rfl, bT⟩
          have HBC := Lib.hid (HBI.out.trans (bT.mono HBI.out.size))
          have r0 := (HBC.out.cell (p := ⟨w.heap.size + 1, 0, none⟩) HLT.out).trans c0
          have r1 := (HBC.out.cell (p := ⟨w.heap.size + 1, 1, none⟩) HLT.out).trans c1
          have r2 := (HBC.out.cell (p := ⟨w.heap.size + 1, 2, none⟩) HLT.out).trans c2
          have hb0 := (HBC.out.block w.heap.size (by have := HLT.out; omega)).trans HB0.out
          have d0 := cell_of_row _ _ 0 _ _ _ hb0
          have d1 := cell_of_row _ _ 1 _ _ _ hb0
          have d2 := cell_of_row _ _ 2 _ _ _ hb0
          have g0 : wc.frozen? ⟨w.heap.size, 0, none⟩ = false := by simp [World.frozen?, hb0]
          have g1 : wc.frozen? ⟨w.heap.size, 1, none⟩ = false := by simp [World.frozen?, hb0]
          have g2 : wc.frozen? ⟨w.heap.size, 2, none⟩ = false := by simp [World.frozen?, hb0]
          simp only [List.getElem?_toArray, List.getElem?_cons_succ, List.getElem?_cons_zero] at d0 d1 d2
          have HS3 := Lib.hid (set3 wc w.heap.size _ _ _ (.int .i64 0) (.int .i64 0) (.slice none 0 0) _ _ hb0)
          have HB3 := Lib.hid (below_set3 (HW.out.trans (HBC.out.mono HW.out.size)) w.heap.size (.int .i64 0) (.int .i64 0) (.slice none 0 0) (Nat.le_refl _))
          skip
          clear hb0 bT
          go_wp2_with fail
          generalize hWW : World.setCell (World.setCell (World.setCell wc _ _) _ _) _ _ = W at HS3 HB3 ⊢
          have k0 := cell_of_row _ _ 0 _ _ _ HS3.out
          have k1 := cell_of_row _ _ 1 _ _ _ HS3.out
          have k2 := cell_of_row _ _ 2 _ _ _ HS3.out
          simp only [List.getElem?_toArray, List.getElem?_cons_succ, List.getElem?_cons_zero] at k0 k1 k2
          refine bodyPost_ret (v := .tuple #[.agg #[.int .i64 0, .int .i64 0, .slice none 0 0], .int .i64 3]) (by simp [results, Tryd.results12, go_sem, k0, k1, k2]) rfl ⟨.slice none 0 0, ?_, ?_, HB3.out⟩
          · rw [HPL.out]; rfl
          · rw [HPL.out]; exact rowAt_nil _ _
end Go.Proofs.YtgnffmlcjnnneaaDoor
