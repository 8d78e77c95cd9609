/- Chapter 25: slices.DeleteFunc at items and at ints; idset.Without. -/
import Derived.Test.YtiebjkbofoppaaaZnT
namespace Go.Proofs.Ytiebjkbofoppaaa
open Go Go.RowKit Go.Sort Go.Shelf Cg
theorem infoInt1 : (Try.prog.info? 3).map (·.size) = some 1 := by kernel_rfl
/-- The number in cell i. -/
def cInt (vs : List Value) (i : Nat) : Int := match vs[i]? with
  | some (.int _ n) => n
  | _ => 0
theorem cInt_of {vs : List Value} {i : Nat} {n : Int} {k : IntKind} (h : vs[i]? = some (.int k n)) : cInt vs i = n := by unfold cInt; rw [h]
theorem store_at (w : World) (b o : Nat) (cs : List Value) (ht : w.there b o cs.length) (h1 : ∀ u ∈ cs, u.oneCell' = true) : (storeCells ⟨b, o, none⟩ cs).run Try.prog w = .ok () (w.setCells b o cs) := by
  have := run_storeCells_cells (P := Try.prog) b o cs 0 w (fun j hj => (ht j hj).1) (fun j hj => (ht j hj).2) h1
  simpa using this
theorem zAllItem : ∃ z : Value, (∀ w, (zeroValue 83).run Try.prog w = .ok z w) ∧ z.cells.size = 94 ∧ z.cells.all (·.oneCell') = true := ⟨Try.prog.info? 83 |>.bind (·.zero) |>.getD undef, fun w => by kernel_rfl, by kernel_rfl, by kernel_rfl⟩
set_option maxRecDepth 100000 in
set_option maxHeartbeats 8000000 in
theorem delfuncItem (F G : Nat → Prop) (L M base : Nat) (v : Value) (es : List (Cl 94)) (xs : List (List D)) (id : Int) (bi : Nat) (w : World) (h : RdC F L w (.sl kItem 824) v (.sl xs)) (hes : Es G M w kItem es xs) (hL : L ≤ 140737488355328) (hown : w.ownsRow base 83 94 v es.length (es.flatMap Subtype.val)) (hi : w.cell? ⟨bi, 0, none⟩ = some (.int .i64 id)) (hne : v.ownBlock ≠ some bi) (q : Cl 94 → Bool) (hq : q = (fun x : Cl 94 => cInt x.1 0 == id && cInt x.1 1 == 1)) :
    Calls Try.prog 64 #[v, .func (.func 65) #[] #[.pointer (some ⟨bi, 0, none⟩)]] w fun e w' => ∃ ao m c, e = .returned (.slice ao m c) ∧ m = (es.filter (fun x => !q x)).length ∧ w'.ownsRow base 83 94 (.slice ao m c) m ((es.filter (fun x => !q x)).flatMap Subtype.val) ∧ (∀ g, (Value.slice ao m c).ownBlock = some g → v.ownBlock = some g) ∧ w.grownBy w' v.ownBlock := by
  have eg : ∀ args w, (callFunc 65 args).run Try.prog w = .ok (.enter 65 args) w := enters_of Try.func65 (by kernel_rfl) rfl
  have hby := rd_bytes h
  have hxl := hes.len
  have HI0 := Lib.hid (idx_remove F L v xs id bi w h hL hi)
  have hpq : ∀ (j : Nat) (x : Cl 94) (d : List D), es[j]? = some x → xs[j]? = some d → q x = (fun o => dint o 0 == id && dint o 1 == 1) d := fun j x d h1 h2 => by
    rw [hq]
    have hr := hes.at_ j x d h1 h2
    have q0 := cInt_of (hr.int 0 rfl).1
    have q1 := cInt_of (hr.int 1 rfl).1
    simp only [q0, q1]
  have HQ := Lib.hid hq
  obtain ⟨p, hp⟩ : ∃ p : List D → Bool, p = (fun o => dint o 0 == id && dint o 1 == 1) := ⟨_, rfl⟩
  rw [← hp] at HI0
  have hfx := fidx_es hes p q (by rw [hp]; exact hpq)
  have hint : ∀ j (hj : j < es.length), ∃ z kd : Int, es[j].1[0]? = some (.int .i64 z) ∧ es[j].1[1]? = some (.int .i64 kd) := fun j hj => by
    have hr := hes.get j hj (by omega)
    exact ⟨_, _, (hr.int 0 rfl).1, (hr.int 1 rfl).1⟩
  have HINT := Lib.hid hint
  obtain ⟨ao, n, c, rfl⟩ := own_sl hown
  obtain ⟨hnl, hnc, hnil, hat⟩ := own_cap hown
  rcases hfx with ⟨hm1, hall⟩ | ⟨i0, hi0, hil, hqi, hlt⟩
  · rw [hm1] at HI0
    rw [hall]
    have HO := Lib.hid hown
    have HNL := Lib.hid hnl
    clear hnl hall hint hpq hes h hown hq hp hm1 hi hat hnil hxl hby
    go_enter Try.func64, Try.ntmps64
    go_wp2_with fail
    refine HI0.out.mono ?_
    rintro e w1 ⟨rfl, b1⟩
    go_wp2_with fail
    go_ret
    exact ⟨ao, n, c, rfl, HNL.out, ownsRow_old (by rw [HNL.out] at HO ⊢; exact HO.out) b1, fun g hg => hg, below_grown b1⟩
  · rcases own_form hown with ⟨cap, hv, h0⟩ | ⟨g, cap, hv⟩
    · omega
    simp only [Value.slice.injEq] at hv
    obtain ⟨rfl, rfl, rfl⟩ := hv
    rw [hi0] at HI0
    obtain ⟨n, hn⟩ : ∃ n, n = es.length := ⟨_, rfl⟩
    have hb := own_blkC hown rfl
    have hd := hdC_of hown
    have hng : bi ≠ g := fun e => hne (by rw [e]; rfl)
    have HIB := Lib.hid hi
    have HGB := Lib.hid (hown.lt g rfl)
    have hgs : Hid (∀ wr, Below w.heap.size w wr → Df 94 83 base g n c es q w wr i0 (i0 + 1)) := Lib.hid fun wr hbw => Df.start (hb.same (hbw.block g hb.lt)) (hd.same (hbw.block g hb.lt)) hn.symm (below_grown hbw) hil hqi hlt
    obtain ⟨z, hz1, hz2, hz3⟩ := zAllItem
    have HZ1 := Lib.hid hz1
    have HZ2 := Lib.hid hz2
    have HZ3 := Lib.hid hz3
    have hcm : c ≤ 9223372036854775807 := by
      have := hd.2.1
      simp only [maxLen] at this
      omega
    have hnx : n * 824 ≤ 140737488355328 := by omega
    rw [← hn] at hnc HI0 ⊢
    have hin : i0 < n := by omega
    have hw0 : IntKind.i64.wrap ((i0 : Int) + 1) = ((i0 + 1 : Nat) : Int) := by rw [IntKind.wrap_i64]; omega
    have hn1 : ((i0 : Int) == -1) = false := beq_eq_false_iff_ne.2 (by omega)
    have HN := Lib.hid hn
    clear hint hpq hes h hown hq hp hi hat hnil hxl hby hi0 hil hqi hlt hb hd hn hz1 hz2 hz3 hnl hne
    go_enter Try.func64, Try.ntmps64
    go_wp2_with fail
    refine HI0.out.mono ?_
    rintro e w1 ⟨rfl, b1⟩
    skip
    have BI := Lib.hid b1; clear b1
    go_wp2_with fail
    go_loopw [5, 6] (fun a b wr => ∃ i j : Nat, a = .int .i64 i ∧ b = .int .i64 j ∧ Df 94 83 base g n c es q w wr i j ∧ wr.cell? ⟨bi, 0, none⟩ = some (.int .i64 id)) (fun _ b _ => n - (intOf b).toNat)
    case atStart => exact ⟨i0, i0 + 1, rfl, rfl, hgs.out _ BI.out, (BI.out.cell (p := ⟨bi, 0, none⟩) (block_lt_of_cell HIB.out)).trans HIB.out⟩
    case round =>
      obtain ⟨i, j, rfl, rfl, df, hci⟩ := hrel
      have hij := df.ij
      have hjn := df.jn
      have DF := Lib.hid df
      have HCI := Lib.hid hci
      clear df hci
      by_cases hlt : j < n
      · have hle : j < es.length := by rw [← HN.out]; exact hlt
        obtain ⟨rg, th, hglt⟩ := DF.out.rng hle
        have hin2 : i < n := by omega
        have hwi : IntKind.i64.wrap ((i : Int) + 1) = ((i + 1 : Nat) : Int) := by rw [IntKind.wrap_i64]; omega
        have hwj : IntKind.i64.wrap ((j : Int) + 1) = ((j + 1 : Nat) : Int) := by rw [IntKind.wrap_i64]; omega
        obtain ⟨x, hx⟩ : ∃ x, x = es[j] := ⟨_, rfl⟩
        rw [← hx] at rg
        obtain ⟨zz, kd, hz0, hz1⟩ := HINT.out j hle
        rw [← hx] at hz0 hz1
        obtain ⟨pb, hpb⟩ : ∃ pb, pb = q x := ⟨_, rfl⟩
        have hcl : ∀ (W : World), W.cell? ⟨bi, 0, none⟩ = some (.int .i64 id) → Calls Try.prog 65 #[.agg x.1.toArray, .pointer (some ⟨bi, 0, none⟩)] W fun e w' => e = .returned (.bool pb) ∧ Below W.heap.size W w' := fun W hW => by
          have := remove1 x.1 zz kd id bi W hz0 hz1 hW
          rw [hpb, HQ.out]
          simp only [cInt_of hz0, cInt_of hz1]
          exact this
        have RG := Lib.hid rg
        have HIN := Lib.hid (show (Try.prog.info? 83).map (·.size) = some x.1.length by rw [infoItem, x.len])
        obtain ⟨zs, hzs⟩ : ∃ zs : List Value, zs = Try.zeroCells83.toList := ⟨_, rfl⟩
        have hzl : zs.length = 94 := by rw [hzs, Array.length_toList]; exact Try.zeroCells83_size
        obtain ⟨Wa, hWa⟩ : ∃ Wa, Wa = wr.alloc (.cells Try.zeroCells83 83) := ⟨_, rfl⟩
        have bxa : Bx Wa wr.heap.size 83 zs := by rw [hWa, hzs]; exact Bx.new _ _ _
        have hst := store_cs Wa wr.heap.size x.1 (by rw [x.len, ← hzl]; exact bxa.there) x.one
        obtain ⟨Wb, hWb⟩ : ∃ Wb, Wb = Wa.setCells wr.heap.size 0 x.1 := ⟨_, rfl⟩
        have bxb := bxa.setAll x.1 (by rw [x.len, hzl])
        rw [← hWb] at bxb hst
        have BB := Lib.hid (show Below wr.heap.size wr Wb by
          rw [hWb]
          refine below_sets _ _ _ ?_ _ (Nat.le_refl _)
          rw [hWa]
          exact (Below.refl _ _).alloc (Nat.le_refl _) _)
        have RGB := Lib.hid bxb.range
        have BXB := Lib.hid bxb
        have HCL := Lib.hid (hcl Wb ((BB.out.cell (p := ⟨bi, 0, none⟩) (block_lt_of_cell HCI.out)).trans HCI.out))
        rw [hWa] at hst
        have HPB := Lib.hid hpb
        have HX := Lib.hid hx
        clear rg th hzs bxa bxb hWa hWb hcl hpb hx hz0 hz1 hzl
        cases pb
        · go_wp2_with (first
            | (with_reducible refine wpList_load_mid rfl 83 (.tmp 24) rfl g (j * 94) ?_ x.1 _ RG.out Try.underlying83 rfl HIN.out ?_; simp [Act.eval])
            | (with_reducible refine wpList_load_mid rfl 83 (.tmp 7) rfl wr.heap.size 0 ?_ x.1 _ RGB.out Try.underlying83 rfl HIN.out ?_; simp [Act.eval])
            | (with_reducible refine wpList_load_mid rfl 83 (.tmp 7) rfl wr.heap.size 0 ?_ x.1 _ RG5.out Try.underlying83 rfl HIN.out ?_; simp [Act.eval])
            | (go_at_fn 65; refine HCL.out.mono ?_; rintro e w5 ⟨rfl, b5⟩; have B5 := Lib.hid (BB.out.trans (b5.mono BB.out.size)); have RG5 := Lib.hid (BXB.out.old b5).range; have D5 := Lib.hid (DF.out.old B5.out); have hs5 := store_at w5 g (i * 94) x.1 (by rw [x.len]; exact (D5.out.rng hle).2.1) x.one; clear b5))
          go_round
          case rel => exact ⟨i + 1, j + 1, by go_num, by go_num, by have := D5.out.keep hle (by rw [← HX.out]; exact HPB.out.symm); rw [← HX.out] at this; exact this, (World.cell?_of_block (a := ⟨bi, 0, none⟩) (heap_sets _ _ _ _ bi hng)).trans ((B5.out.cell (p := ⟨bi, 0, none⟩) (block_lt_of_cell HCI.out)).trans HCI.out)⟩
          case measure => simp [intOf]; omega
        · go_wp2_with (first
            | (with_reducible refine wpList_load_mid rfl 83 (.tmp 24) rfl g (j * 94) ?_ x.1 _ RG.out Try.underlying83 rfl HIN.out ?_; simp [Act.eval])
            | (with_reducible refine wpList_load_mid rfl 83 (.tmp 7) rfl wr.heap.size 0 ?_ x.1 _ RGB.out Try.underlying83 rfl HIN.out ?_; simp [Act.eval])
            | (go_at_fn 65; refine HCL.out.mono ?_; rintro e w5 ⟨rfl, b5⟩; have B5 := Lib.hid (BB.out.trans (b5.mono BB.out.size)); clear b5))
          go_round
          case rel => exact ⟨i, j + 1, rfl, by go_num, (DF.out.old B5.out).skip hle (by rw [← HX.out]; exact HPB.out.symm), (B5.out.cell (p := ⟨bi, 0, none⟩) (block_lt_of_cell HCI.out)).trans HCI.out⟩
          case measure => simp [intOf]; omega
      · obtain rfl : j = n := by omega
        obtain ⟨vs, hvs⟩ : ∃ vs, vs = (Builtin.zeroCells z.cells (j - i)).toList := ⟨_, rfl⟩
        have hvl : vs.length = (j - i) * 94 := by rw [hvs, Array.length_toList, size_zeroCells, HZ2.out]
        have hfin := DF.out.fin vs hnc hvl
        have hth : ∀ t, t < vs.length → (wr.cell? ⟨g, i * 94 + t, none⟩).isSome = true ∧ wr.frozen? ⟨g, i * 94 + t, none⟩ = false := fun t ht => by
          obtain ⟨_, _, cur, hg, hs⟩ := DF.out.hd
          rw [hvl] at ht
          have : j * 94 ≤ c * 94 := Nat.mul_le_mul_right _ hnc
          exact ⟨by rw [cell_of_row _ _ _ _ _ _ hg, Array.getElem?_eq_getElem (by rw [hs]; omega)]; rfl, by simp [World.frozen?, hg]⟩
        have hclr : ∀ ty, (Builtin.clear_ #[25] ty #[.slice (some ⟨g, i * 94, none⟩) (j - i) (c - i)]).run Try.prog wr = .ok (.tuple #[]) (wr.setCells g (i * 94) vs) := fun ty =>
          run_clear_K wr _ _ ty z Try.underlying25 HZ1.out (j - i) (by omega) vs hvs.symm (by rw [hvs]; exact zeroCells_one _ HZ3.out _) g (i * 94) (c - i) (fun t ht => (hth t ht).1) (fun t ht => (hth t ht).2)
        have HF := Lib.hid hfin
        have HIL := Lib.hid DF.out.il
        have hci : ¬ (c = i) := by omega
        have hic : i ≤ c := by omega
        have hij2 : i ≤ j := by omega
        clear hfin hth hvs hvl
        go_wp2_with fail
        go_ret
        refine ⟨_, _, _, rfl, ?_, HF.out.1, fun g hg => hg, HF.out.2⟩
        have := HIL.out
        rwa [HN.out, List.take_length] at this
theorem zAllint : ∃ z : Value, (∀ w, (zeroValue 3).run Try.prog w = .ok z w) ∧ z.cells.size = 1 ∧ z.cells.all (·.oneCell') = true := ⟨Try.prog.info? 3 |>.bind (·.zero) |>.getD undef, fun w => by kernel_rfl, by kernel_rfl, by kernel_rfl⟩
set_option maxRecDepth 100000 in
set_option maxHeartbeats 8000000 in
theorem delfuncint (F G : Nat → Prop) (L M base : Nat) (v : Value) (es : List (Cl 1)) (xs : List (List D)) (id : Int) (bi : Nat) (w : World) (h : RdC F L w (.sl (kI 1) 8) v (.sl xs)) (hes : Es G M w (kI 1) es xs) (hL : L ≤ 140737488355328) (hown : w.ownsRow base 3 1 v es.length (es.flatMap Subtype.val)) (hi : w.cell? ⟨bi, 0, none⟩ = some (.int .i64 id)) (hne : v.ownBlock ≠ some bi) (q : Cl 1 → Bool) (hq : q = (fun x : Cl 1 => cInt x.1 0 == id)) :
    Calls Try.prog 77 #[v, .func (.func 78) #[] #[.pointer (some ⟨bi, 0, none⟩)]] w fun e w' => ∃ ao m c, e = .returned (.slice ao m c) ∧ m = (es.filter (fun x => !q x)).length ∧ w'.ownsRow base 3 1 (.slice ao m c) m ((es.filter (fun x => !q x)).flatMap Subtype.val) ∧ (∀ g, (Value.slice ao m c).ownBlock = some g → v.ownBlock = some g) ∧ w.grownBy w' v.ownBlock := by
  have eg : ∀ args w, (callFunc 78 args).run Try.prog w = .ok (.enter 78 args) w := enters_of Try.func78 (by kernel_rfl) rfl
  have hby := rd_bytes h
  have hxl := hes.len
  have HI0 := Lib.hid (idx_without F L v xs id bi w h hL hi)
  have hpq : ∀ (j : Nat) (x : Cl 1) (d : List D), es[j]? = some x → xs[j]? = some d → q x = (fun x => dint x 0 == id) d := fun j x d h1 h2 => by
    rw [hq]
    have hr := hes.at_ j x d h1 h2
    have q0 := cInt_of (hr.int 0 rfl).1
    simp only [q0]
  have HQ := Lib.hid hq
  obtain ⟨p, hp⟩ : ∃ p : List D → Bool, p = (fun x => dint x 0 == id) := ⟨_, rfl⟩
  rw [← hp] at HI0
  have hfx := fidx_es hes p q (by rw [hp]; exact hpq)
  have hint : ∀ j (hj : j < es.length), ∃ z : Int, es[j].1[0]? = some (.int .i64 z) := fun j hj => by
    have hr := hes.get j hj (by omega)
    exact ⟨_, (hr.int 0 rfl).1⟩
  have HINT := Lib.hid hint
  obtain ⟨ao, n, c, rfl⟩ := own_sl hown
  obtain ⟨hnl, hnc, hnil, hat⟩ := own_cap hown
  rcases hfx with ⟨hm1, hall⟩ | ⟨i0, hi0, hil, hqi, hlt⟩
  · rw [hm1] at HI0
    rw [hall]
    have HO := Lib.hid hown
    have HNL := Lib.hid hnl
    clear hnl hall hint hpq hes h hown hq hp hm1 hi hat hnil hxl hby
    go_enter Try.func77, Try.ntmps77
    go_wp2_with fail
    refine HI0.out.mono ?_
    rintro e w1 ⟨rfl, rfl⟩
    go_wp2_with fail
    go_ret
    exact ⟨ao, n, c, rfl, HNL.out, by rw [HNL.out] at HO ⊢; exact HO.out, fun g hg => hg, ⟨rfl, rfl, rfl, Nat.le_refl _, fun _ _ _ => rfl⟩⟩
  · rcases own_form hown with ⟨cap, hv, h0⟩ | ⟨g, cap, hv⟩
    · omega
    simp only [Value.slice.injEq] at hv
    obtain ⟨rfl, rfl, rfl⟩ := hv
    rw [hi0] at HI0
    obtain ⟨n, hn⟩ : ∃ n, n = es.length := ⟨_, rfl⟩
    have hb := own_blkC hown rfl
    have hd := hdC_of hown
    have hng : bi ≠ g := fun e => hne (by rw [e]; rfl)
    have HIB := Lib.hid hi
    have HGB := Lib.hid (hown.lt g rfl)
    have hgs : Hid (∀ wr, wr = w → Df 1 3 base g n c es q w wr i0 (i0 + 1)) := Lib.hid fun wr hbw => by subst hbw; exact Df.start hb hd hn.symm ⟨rfl, rfl, rfl, Nat.le_refl _, fun _ _ _ => rfl⟩ hil hqi hlt
    obtain ⟨z, hz1, hz2, hz3⟩ := zAllint
    have HZ1 := Lib.hid hz1
    have HZ2 := Lib.hid hz2
    have HZ3 := Lib.hid hz3
    have hcm : c ≤ 9223372036854775807 := by
      have := hd.2.1
      simp only [maxLen] at this
      omega
    have hnx : n * 8 ≤ 140737488355328 := by omega
    rw [← hn] at hnc HI0 ⊢
    have hin : i0 < n := by omega
    have hw0 : IntKind.i64.wrap ((i0 : Int) + 1) = ((i0 + 1 : Nat) : Int) := by rw [IntKind.wrap_i64]; omega
    have hn1 : ((i0 : Int) == -1) = false := beq_eq_false_iff_ne.2 (by omega)
    have HN := Lib.hid hn
    clear hint hpq hes h hown hq hp hi hat hnil hxl hby hi0 hil hqi hlt hb hd hn hz1 hz2 hz3 hnl hne
    go_enter Try.func77, Try.ntmps77
    go_wp2_with fail
    refine HI0.out.mono ?_
    rintro e w1 ⟨rfl, hw1⟩
    obtain ⟨w, rfl⟩ : ∃ w0, w0 = w1 := ⟨_, rfl⟩; subst hw1
    skip
    go_wp2_with fail
    go_loopw [5, 6] (fun a b wr => ∃ i j : Nat, a = .int .i64 i ∧ b = .int .i64 j ∧ Df 1 3 base g n c es q w wr i j ∧ wr.cell? ⟨bi, 0, none⟩ = some (.int .i64 id)) (fun _ b _ => n - (intOf b).toNat)
    case atStart => exact ⟨i0, i0 + 1, rfl, rfl, hgs.out _ rfl, HIB.out⟩
    case round =>
      obtain ⟨i, j, rfl, rfl, df, hci⟩ := hrel
      have hij := df.ij
      have hjn := df.jn
      have DF := Lib.hid df
      have HCI := Lib.hid hci
      clear df hci
      by_cases hlt : j < n
      · have hle : j < es.length := by rw [← HN.out]; exact hlt
        obtain ⟨rg, th, hglt⟩ := DF.out.rng hle
        have hin2 : i < n := by omega
        have hwi : IntKind.i64.wrap ((i : Int) + 1) = ((i + 1 : Nat) : Int) := by rw [IntKind.wrap_i64]; omega
        have hwj : IntKind.i64.wrap ((j : Int) + 1) = ((j + 1 : Nat) : Int) := by rw [IntKind.wrap_i64]; omega
        obtain ⟨x, hx⟩ : ∃ x, x = es[j] := ⟨_, rfl⟩
        rw [← hx] at rg
        obtain ⟨zz, hz0⟩ := HINT.out j hle
        rw [← hx] at hz0
        have c0 := rg 0 _ hz0
        rw [Nat.mul_one, Nat.add_zero] at c0
        have f0 := (th 0 (by decide)).2
        have e0 := (th 0 (by decide)).1
        rw [Nat.mul_one, Nat.add_zero] at f0 e0
        obtain ⟨y0, hy0⟩ := Option.isSome_iff_exists.1 e0
        obtain ⟨pb, hpb⟩ : ∃ pb, pb = q x := ⟨_, rfl⟩
        have HCL := Lib.hid (show Calls Try.prog 78 #[.int .i64 zz, .pointer (some ⟨bi, 0, none⟩)] wr fun e w' => e = .returned (.bool pb) ∧ w' = wr by
          have := without1 zz id bi wr HCI.out
          rw [hpb, HQ.out]
          simp only [cInt_of hz0]
          exact this)
        have hx1 : x.1 = [.int .i64 zz] := by
          have hl := x.len
          match h : x.1, hl with
          | [u], _ =>
            rw [h] at hz0
            rw [Option.some.inj hz0]
        have HPB := Lib.hid hpb
        have HX := Lib.hid hx
        have HX1 := Lib.hid hx1
        clear rg th hpb hx hz0 e0 hx1
        cases pb
        · go_wp2_with (go_at_fn 78; refine HCL.out.mono ?_; rintro e w5 ⟨rfl, rfl⟩)
          go_round
          case rel => exact ⟨i + 1, j + 1, by go_num, by go_num, by have := DF.out.keep hle (by rw [← HX.out]; exact HPB.out.symm); rw [← HX.out, HX1.out, Nat.mul_one] at this; exact this, (World.cell?_of_block (a := ⟨bi, 0, none⟩) (Below.heap_setCell _ ⟨g, i, none⟩ _ bi hng)).trans HCI.out⟩
          case measure => simp [intOf]; omega
        · go_wp2_with (go_at_fn 78; refine HCL.out.mono ?_; rintro e w5 ⟨rfl, rfl⟩)
          go_round
          case rel => exact ⟨i, j + 1, rfl, by go_num, DF.out.skip hle (by rw [← HX.out]; exact HPB.out.symm), HCI.out⟩
          case measure => simp [intOf]; omega
      · obtain rfl : j = n := by omega
        obtain ⟨vs, hvs⟩ : ∃ vs, vs = (Builtin.zeroCells z.cells (j - i)).toList := ⟨_, rfl⟩
        have hvl : vs.length = (j - i) * 1 := by rw [hvs, Array.length_toList, size_zeroCells, HZ2.out]
        have hfin := DF.out.fin vs hnc hvl
        have hth : ∀ t, t < vs.length → (wr.cell? ⟨g, i * 1 + t, none⟩).isSome = true ∧ wr.frozen? ⟨g, i * 1 + t, none⟩ = false := fun t ht => by
          obtain ⟨_, _, cur, hg, hs⟩ := DF.out.hd
          rw [hvl] at ht
          have : j * 1 ≤ c * 1 := Nat.mul_le_mul_right _ hnc
          exact ⟨by rw [cell_of_row _ _ _ _ _ _ hg, Array.getElem?_eq_getElem (by rw [hs]; omega)]; rfl, by simp [World.frozen?, hg]⟩
        have hclr : ∀ ty, (Builtin.clear_ #[24] ty #[.slice (some ⟨g, i, none⟩) (j - i) (c - i)]).run Try.prog wr = .ok (.tuple #[]) (wr.setCells g (i) vs) := fun ty =>
          run_clear_K wr _ _ ty z Try.underlying24 HZ1.out (j - i) (by omega) vs hvs.symm (by rw [hvs]; exact zeroCells_one _ HZ3.out _) g (i) (c - i) (fun t ht => by have := (hth t ht).1; rwa [Nat.mul_one] at this) (fun t ht => by have := (hth t ht).2; rwa [Nat.mul_one] at this)
        have HF := Lib.hid hfin
        have HIL := Lib.hid DF.out.il
        have hci : ¬ (c = i) := by omega
        have hic : i ≤ c := by omega
        have hij2 : i ≤ j := by omega
        clear hfin hth hvs hvl
        go_wp2_with fail
        go_ret
        refine ⟨_, _, _, rfl, ?_, by have := HF.out.1; rw [Nat.mul_one] at this; exact this, fun g hg => hg, by have := HF.out.2; rw [Nat.mul_one] at this; exact this⟩
        have := HIL.out
        rwa [HN.out, List.take_length] at this
end Go.Proofs.Ytiebjkbofoppaaa
