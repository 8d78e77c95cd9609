/- Chapter 25: Copy of the program. -/
import Derived.Test.YtiebjkbofoppaaaZnO
namespace Go.Proofs.Ytiebjkbofoppaaa
open Go Go.RowKit Go.Sort Cg
theorem infoState : (Try.prog.info? 30).map (·.size) = some 19 := by kernel_rfl
theorem infoItem : (Try.prog.info? 83).map (·.size) = some 94 := by kernel_rfl
def StB (b c : Nat) (v : Value) (w : World) : Prop := w.cell? ⟨b, c, none⟩ = some v
theorem own_cap {w : World} {B e k n m c : Nat} {ao : Option Addr} {xs : List Value} (h : w.ownsRow B e k (.slice ao m c) n xs) : m = n ∧ n ≤ c ∧ (ao = none → c = 0) ∧ ∀ g, ao = some g → g.off = 0 ∧ g.spot = none := by
  rcases h.2 with ⟨hv, hn⟩ | ⟨g, cap, cur, hv, _, _, hc, _⟩
  · simp only [Value.slice.injEq] at hv
    obtain ⟨rfl, rfl, rfl⟩ := hv
    exact ⟨hn.symm, by omega, fun _ => rfl, fun g hg => by cases hg⟩
  · simp only [Value.slice.injEq] at hv
    obtain ⟨rfl, rfl, rfl⟩ := hv
    exact ⟨rfl, hc, (fun h => by cases h), (fun g hg => by cases hg; exact ⟨rfl, rfl⟩)⟩
theorem flatObject : flatK kObject := fun k hk => by
  have h : ∀ k ∈ kObject, (match k with
    | .lit _ => true
    | .sl _ _ => false) = true := by
    rw [← List.all_eq_true]
    rfl
  have := h k hk
  cases k with
  | lit l => exact ⟨l, rfl⟩
  | sl e b => cases this
theorem blk_there {k : Nat} {t : TypeId} {w : World} {g : Nat} {es : List (Cl k)} (h : BlkC k t w g es) (j : Nat) (hj : j < es.length) (y : Cl k) : w.there g (j * k) y.1.length := fun i hi => by
  rw [Cl.len] at hi
  have := h.cell j _ (List.getElem?_eq_getElem hj) i _ (List.getElem?_eq_getElem (show i < es[j].1.length by rw [Cl.len]; exact hi))
  exact ⟨by rw [this]; rfl, h.frozen _⟩
set_option maxRecDepth 100000 in
set_option maxHeartbeats 8000000 in
theorem copy_prog (F : Nat → Prop) (L : Nat) (cs : List Value) (ds : List D) (w : World) (h : RdL F L w kState cs ds) (hL : L ≤ 140737488355328) :
    Calls Try.prog 24 #[.agg cs.toArray] w fun e w' => ∃ cs', e = .returned (.agg cs'.toArray) ∧ (∃ ρ, OwnS ρ L w.heap.size w' cs' ds ∧ ∀ b, b < w.heap.size → ¬ F b → ρ b = .none) ∧ Below w.heap.size w w' := by
  have hl := h.len.1
  rw [kState_len] at hl
  have HH := Lib.hid h
  obtain ⟨sv0, x0, d0, r0⟩ := h.sl 0 _ _ rfl
  have R0 := Lib.hid r0
  have U0 := Lib.hid x0
  obtain ⟨sv1, x1, d1, r1⟩ := h.sl 1 _ _ rfl
  have R1 := Lib.hid r1
  have U1 := Lib.hid x1
  obtain ⟨sv2, x2, d2, r2⟩ := h.sl 2 _ _ rfl
  have R2 := Lib.hid r2
  have U2 := Lib.hid x2
  obtain ⟨sv3, x3, d3, r3⟩ := h.sl 3 _ _ rfl
  have R3 := Lib.hid r3
  have U3 := Lib.hid x3
  obtain ⟨sv4, x4, d4, r4⟩ := h.sl 4 _ _ rfl
  have R4 := Lib.hid r4
  have U4 := Lib.hid x4
  obtain ⟨sv5, x5, d5, r5⟩ := h.sl 5 _ _ rfl
  have R5 := Lib.hid r5
  have U5 := Lib.hid x5
  obtain ⟨sv6, x6, d6, r6⟩ := h.sl 6 _ _ rfl
  have R6 := Lib.hid r6
  have U6 := Lib.hid x6
  obtain ⟨sv16, x16, d16, r16⟩ := h.sl 16 _ _ rfl
  have R16 := Lib.hid r16
  have U16 := Lib.hid x16
  have e1 : cs[0] = sv0 := (List.getElem?_eq_some_iff.1 x0).2
  obtain ⟨zs, hzs⟩ : ∃ zs : List Value, zs = [.slice none 0 0, .slice none 0 0, .slice none 0 0, .slice none 0 0, .slice none 0 0, .slice none 0 0, .slice none 0 0, .int .i64 0, .int .i64 0, .int .i64 0, .bool false, .int .i64 0, .int .i64 0, .int .i64 0, .int .i64 0, .int .u64 0, .slice none 0 0, .int .i64 0, .int .i64 0] := ⟨_, rfl⟩
  obtain ⟨W0, hW0⟩ : ∃ W, W = (w.alloc (.cells cs.toArray 30)).alloc (.cells zs.toArray 30) := ⟨_, rfl⟩
  have hsz : (w.alloc (.cells cs.toArray 30)).heap.size = w.heap.size + 1 := by simp
  have SG0 := Lib.hid (show Stg w W0 cs zs from ⟨by rw [hW0]; exact (Bx.new _ _ _).old ((Below.refl _ _).alloc (Nat.le_refl _) _), by rw [hW0, ← hsz]; exact Bx.new _ _ _, by rw [hW0]; exact ((Below.refl w.heap.size w).alloc (Nat.le_refl _) _).alloc (by rw [hsz]; omega) _, by rw [hW0]; simp⟩)
  have HW0 := Lib.hid (show W0 = _ by rw [hW0, hzs])
  have HZ := Lib.hid (show zs.length = 19 by rw [hzs]; rfl)
  clear x0 d0 r0 x1 d1 r1 x2 d2 r2 x3 d3 r3 x4 d4 r4 x5 d5 r5 x6 d6 r6 x16 d16 r16 hzs hW0 hsz h
  go_enter Try.func24, Try.ntmps24
  go_wp2_with fail
  rw [← HW0.out]
  obtain ⟨es0, row0, hes0, hby0⟩ := R0.out.row (k := 14) rfl
  have ES0 := Lib.hid hes0
  have HBY0 := Lib.hid hby0
  refine (clonePlayer sv0 es0 W0 (row0.below SG0.out.bel) (by rw [hes0.len]; omega)).mono ?_
  rintro e wa0 ⟨v0, rfl, own0, ba0⟩
  obtain ⟨p0, n0, k0, rfl⟩ := own_sl own0
  obtain ⟨rfl, hcap0, hnil0, hat0⟩ := own_cap own0
  have ca0 := (SG0.out.old ba0).box.cell 0 _ U0.out
  have fa0 := (SG0.out.old ba0).box.frozen 0
  obtain ⟨cs1, hcs1⟩ : ∃ l, l = cs.set 0 (.slice p0 es0.length k0) := ⟨_, rfl⟩
  have hl1 : cs1.length = 19 := by rw [hcs1, List.length_set]; exact hl
  obtain ⟨Ws0, hWs0, sg0, kp0, sz0, sm0⟩ := SG0.out.store ba0 0 (.slice p0 es0.length k0)
  rw [← hcs1] at sg0
  have U1x1 := Lib.hid (show cs1[1]? = some sv1 by rw [hcs1, List.getElem?_set_ne (by decide)]; exact U1.out)
  have U1x2 := Lib.hid (show cs1[2]? = some sv2 by rw [hcs1, List.getElem?_set_ne (by decide)]; exact U2.out)
  have U1x3 := Lib.hid (show cs1[3]? = some sv3 by rw [hcs1, List.getElem?_set_ne (by decide)]; exact U3.out)
  have U1x4 := Lib.hid (show cs1[4]? = some sv4 by rw [hcs1, List.getElem?_set_ne (by decide)]; exact U4.out)
  have U1x5 := Lib.hid (show cs1[5]? = some sv5 by rw [hcs1, List.getElem?_set_ne (by decide)]; exact U5.out)
  have U1x6 := Lib.hid (show cs1[6]? = some sv6 by rw [hcs1, List.getElem?_set_ne (by decide)]; exact U6.out)
  have U1x16 := Lib.hid (show cs1[16]? = some sv16 by rw [hcs1, List.getElem?_set_ne (by decide)]; exact U16.out)
  have V1 := Lib.hid (show cs1[0]? = some (.slice p0 es0.length k0) by rw [hcs1, List.getElem?_set_self (by rw [hl]; decide)])
  have HCS1 := Lib.hid hcs1
  have KP0 := Lib.hid kp0
  have OWN0 := Lib.hid (ownsRow_same own0 (fun g hg => sm0 g (by have := (own0.lt g hg).1; have := SG0.out.siz; omega)))
  have WS0 := Lib.hid hWs0
  obtain ⟨g0, hg0, hpi0⟩ : ∃ g0, (es0.length = 0 ∨ p0 = some ⟨g0, 0, none⟩) ∧ (es0.length = 0 ∨ ∃ es a, 0 < es0.length ∧ PlInv F L w.heap.size Ws0 g0 (dxs ds 0) 0 es a ∧ HdC (w.heap.size + 2) 59 14 Ws0 g0 k0) := by
    rcases own_form OWN0.out with ⟨cap, hv, h0⟩ | ⟨g, cap, hv⟩
    · exact ⟨0, .inl h0, .inl h0⟩
    · simp only [Value.slice.injEq] at hv
      obtain ⟨rfl, _, rfl⟩ := hv
      by_cases hpos : es0.length = 0
      · exact ⟨0, .inl hpos, .inl hpos⟩
      refine ⟨g, .inr rfl, .inr ⟨es0, fun _ => Ws0.heap.size, Nat.pos_of_ne_zero hpos, ⟨own_blkC OWN0.out rfl, ES0.out.len, Nat.le_trans SG0.out.siz (OWN0.out.lt g rfl).1, (OWN0.out.lt g rfl).2, fun _ => Nat.le_refl _, Nat.le_refl _, fun j _ _ hj => absurd hj (Nat.not_lt_zero j), fun j vs ds' _ h1 h2 => ?_⟩, ?_⟩⟩
      exact (ES0.out.at_ j vs ds' h1 h2).frame (Nat.le_refl _) sg0.bel.size (fun b _ hlt => sg0.bel.block b hlt) (fun b hF hlt => ⟨hF, hlt⟩)
      exact hdC_of (own_low OWN0.out SG0.out.siz)
  have HG := Lib.hid hg0
  have HPI := Lib.hid hpi0
  have SGs := Lib.hid sg0
  have hnb : es0.length * 152 ≤ 140737488355328 := by rw [ES0.out.len]; exact Nat.le_trans HBY0.out hL
  have c0s := sg0.box.cell 0 _ V1.out
  rw [WS0.out] at c0s
  clear own0 hWs0 kp0 hcs1 row0 hes0 hby0 sg0 sz0 sm0 ba0 e1 hg0 hpi0 hat0
  go_wp2_with fail
  rw [← WS0.out]
  go_loopw [14] (fun i wr => ∃ k : Nat, k ≤ es0.length ∧ i = .int .i64 k ∧ Stg w wr cs1 zs ∧ ((es0.length = 0 ∧ wr = Ws0) ∨ ∃ es a, 0 < es0.length ∧ PlInv F L w.heap.size wr g0 (dxs ds 0) k es a ∧ HdC (w.heap.size + 2) 59 14 wr g0 k0)) (fun i _ => es0.length - (intOf i).toNat)
  case atStart => exact ⟨0, by omega, rfl, SGs.out, HPI.out.imp (fun h => ⟨h, rfl⟩) id⟩
  case round =>
    obtain ⟨k, hk, rfl, sg, hpi⟩ := hrel
    have SG := Lib.hid sg
    have HP := Lib.hid hpi
    clear sg hpi
    by_cases hlt : k < es0.length
    · have hp0 : p0 = some ⟨g0, 0, none⟩ := by
        rcases HG.out with h | h
        · omega
        · exact h
      subst hp0
      obtain ⟨esk, ak, _, pi, hdc⟩ : ∃ es a, 0 < es0.length ∧ PlInv F L w.heap.size wr g0 (dxs ds 0) k es a ∧ HdC (w.heap.size + 2) 59 14 wr g0 k0 := by
        rcases HP.out with h | h
        · omega
        · exact h
      have HKX := Lib.hid (show k < (dxs ds 0).length by rw [← ES0.out.len]; exact hlt)
      obtain ⟨vs, hvs⟩ : ∃ vs, vs = esk[k]'(by rw [pi.len]; exact HKX.out) := ⟨_, rfl⟩
      have hvs2 : esk[k]? = some vs := by rw [hvs]; exact List.getElem?_eq_getElem _
      have RD := Lib.hid (pi.todo k vs _ (Nat.le_refl _) hvs2 (List.getElem?_eq_getElem HKX.out))
      have RG := Lib.hid (show wr.drew.rangeAt g0 (k * 14) vs.1 from fun i u hu => pi.blk.cell k vs hvs2 i u hu)
      have HI := Lib.hid (show (Try.prog.info? 59).map (·.size) = some vs.1.length by rw [infoPlayer, Cl.len])
      have HG0 := Lib.hid pi.blk.lt
      have PI := Lib.hid pi
      have HDC := Lib.hid hdc
      have S0 := Lib.hid (show StB w.heap.size 0 (.slice (some ⟨g0, 0, none⟩) es0.length k0) wr from SG.out.box.cell 0 _ V1.out)
      have c0k := SG.out.box.cell 0 _ V1.out
      clear hvs hvs2 pi hdc
      go_wp2_with fail
      refine wp_region_noPanic ?_
      refine wp_region_held_drew (S := StB w.heap.size 0 (.slice (some ⟨g0, 0, none⟩) es0.length k0)) (by kernel_rfl) (S0.out) (fun hHeld => ?_)
      refine wpAnyH_take (i := 0) (oi := ?oiP0x) (v := ?vP0x) ?hiP0x (by kernel_rfl) (by kernel_rfl) (by kernel_rfl) ?hqP0x ?hyP0x (by assumption) ?restP0x
      case hiP0x => (simp only [List.getElem?_toArray, List.getElem?_cons_zero] <;> rfl)
      case hqP0x => exact fun _ _ _ h => h
      case hyP0x => exact Or.inl ⟨by rfl, by (intro wS hSw; have s49 : wS.cell? ⟨w.heap.size, 0, none⟩ = some (.slice (some ⟨g0, 0, none⟩) es0.length k0) := hSw; go_simp; try with_reducible rfl)⟩
      try simp only [Act.put, List.setIfInBounds_toArray, List.set_cons_zero, List.set_cons_succ]
      refine wpAnyH_take (i := 1) (oi := ?oiP1x) (v := ?vP1x) ?hiP1x (by kernel_rfl) (by kernel_rfl) (by kernel_rfl) ?hqP1x ?hyP1x (by assumption) ?restP1x
      case hiP1x => (simp only [List.getElem?_toArray, List.getElem?_cons_succ, List.getElem?_cons_zero] <;> rfl)
      case hqP1x => exact fun _ _ _ h => h
      case hyP1x => exact Or.inl ⟨by rfl, by (intro wS hSw; have s49 : wS.cell? ⟨w.heap.size, 0, none⟩ = some (.slice (some ⟨g0, 0, none⟩) es0.length k0) := hSw; go_simp; try with_reducible rfl)⟩
      try simp only [Act.put, List.setIfInBounds_toArray, List.set_cons_zero, List.set_cons_succ]
      refine wpAnyH_take (i := 2) (oi := ?oiP2x) (v := ?vP2x) ?hiP2x (by kernel_rfl) (by kernel_rfl) (by kernel_rfl) ?hqP2x ?hyP2x (by assumption) ?restP2x
      case hiP2x => (simp only [List.getElem?_toArray, List.getElem?_cons_succ, List.getElem?_cons_zero] <;> rfl)
      case hqP2x => exact fun _ _ _ h => h
      case hyP2x => exact Or.inl ⟨by rfl, by (intro wS hSw; have s49 : wS.cell? ⟨w.heap.size, 0, none⟩ = some (.slice (some ⟨g0, 0, none⟩) es0.length k0) := hSw; go_simp; try with_reducible rfl)⟩
      try simp only [Act.put, List.setIfInBounds_toArray, List.set_cons_zero, List.set_cons_succ]
      refine wpAnyH_take (i := 3) (oi := ?oiP3x) (v := ?vP3x) ?hiP3x (by kernel_rfl) (by kernel_rfl) (by kernel_rfl) ?hqP3x ?hyP3x (by assumption) ?restP3x
      case hiP3x => (simp only [List.getElem?_toArray, List.getElem?_cons_succ, List.getElem?_cons_zero] <;> rfl)
      case hqP3x => exact fun _ _ _ h => h
      case hyP3x => exact Or.inl ⟨by rfl, by (intro wS hSw; have s49 : wS.cell? ⟨w.heap.size, 0, none⟩ = some (.slice (some ⟨g0, 0, none⟩) es0.length k0) := hSw; go_simp; try with_reducible rfl)⟩
      try simp only [Act.put, List.setIfInBounds_toArray, List.set_cons_zero, List.set_cons_succ]
      refine wpAnyH_take (i := 4) (oi := ?oiP4x) (v := ?vP4x) ?hiP4x (by kernel_rfl) (by kernel_rfl) (by kernel_rfl) ?hqP4x ?hyP4x (by assumption) ?restP4x
      case hiP4x => (simp only [List.getElem?_toArray, List.getElem?_cons_succ, List.getElem?_cons_zero] <;> rfl)
      case hqP4x => exact fun _ _ _ h => h
      case hyP4x => exact Or.inl ⟨by rfl, by (intro wS hSw; have s49 : wS.cell? ⟨w.heap.size, 0, none⟩ = some (.slice (some ⟨g0, 0, none⟩) es0.length k0) := hSw; go_simp; try with_reducible rfl)⟩
      try simp only [Act.put, List.setIfInBounds_toArray, List.set_cons_zero, List.set_cons_succ]
      refine wpAnyH_take (i := 5) (oi := ?oiP5x) (v := ?vP5x) ?hiP5x (by kernel_rfl) (by kernel_rfl) (by kernel_rfl) ?hqP5x ?hyP5x (by assumption) ?restP5x
      case hiP5x => (simp only [List.getElem?_toArray, List.getElem?_cons_succ, List.getElem?_cons_zero] <;> rfl)
      case hqP5x => exact fun _ _ _ h => h
      case hyP5x => exact Or.inl ⟨by rfl, by (intro wS hSw; have s49 : wS.cell? ⟨w.heap.size, 0, none⟩ = some (.slice (some ⟨g0, 0, none⟩) es0.length k0) := hSw; go_simp; try with_reducible rfl)⟩
      try simp only [Act.put, List.setIfInBounds_toArray, List.set_cons_zero, List.set_cons_succ]
      refine wpAnyH_take (i := 6) (oi := ?oiP6x) (v := ?vP6x) ?hiP6x (by kernel_rfl) (by kernel_rfl) (by kernel_rfl) ?hqP6x ?hyP6x (by assumption) ?restP6x
      case hiP6x => (simp only [List.getElem?_toArray, List.getElem?_cons_succ, List.getElem?_cons_zero] <;> rfl)
      case hqP6x => exact fun _ _ _ h => h
      case hyP6x => exact Or.inl ⟨by rfl, by (intro wS hSw; have s49 : wS.cell? ⟨w.heap.size, 0, none⟩ = some (.slice (some ⟨g0, 0, none⟩) es0.length k0) := hSw; go_simp; try with_reducible rfl)⟩
      try simp only [Act.put, List.setIfInBounds_toArray, List.set_cons_zero, List.set_cons_succ]
      refine wpAnyH_ready (rs := [7]) (by kernel_rfl) (by simp) ?_
      refine AllReadyH.cons (o := ?oiP7x) ?hiP7x (fun K hK => ?hsP7x) AllReadyH.nil
      case hiP7x => (simp only [List.getElem?_toArray, List.getElem?_cons_succ, List.getElem?_cons_zero] <;> rfl)
      refine step_load_mid rfl 59 (.tmp 23) rfl g0 (k * 14) (by simp [Act.eval]) vs.1 _ RG.out Try.underlying59 rfl HI.out ?_
      refine hK.out _ _ S0.out (fun hHeld7 => ?_)
      clear hHeld7
      clear hK K
      try simp only [Act.put, List.setIfInBounds_toArray, List.set_cons_zero, List.set_cons_succ]
      refine wpAnyH_ready (rs := [8]) (by kernel_rfl) (by simp) ?_
      refine AllReadyH.cons (o := ?oiP8x) ?hiP8x (fun K hK => ?hsP8x) AllReadyH.nil
      case hiP8x => (simp only [List.getElem?_toArray, List.getElem?_cons_succ, List.getElem?_cons_zero] <;> rfl)
      go_simp
      refine (copyPlayer _ L vs.1 ((dxs ds 0)[k]'(HKX.out)) wr.drew (RD.out.old (Below.refl _ _).drew) hL).mono ?_
      rintro e w5 ⟨c5, rfl, y1, y2, y3, hc5, op5, b5⟩
      have HY5 := Lib.hid (plEl_of (RD.out.old (Below.refl _ _).drew) hc5 op5)
      have B5 := Lib.hid (show Below wr.heap.size wr w5 from (Below.refl _ _).drew.trans b5)
      have S5 := Lib.hid (show StB w.heap.size 0 (.slice (some ⟨g0, 0, none⟩) es0.length k0) w5 from (B5.out.cell (p := ⟨w.heap.size, 0, none⟩) SG.out.box.lt).trans S0.out)
      obtain ⟨y, hy⟩ : ∃ y : Cl 14, y.1 = c5 := ⟨⟨c5, by rw [HY5.out.rd.len.1]; rfl, HY5.out.rd.one⟩, rfl⟩
      subst hy
      have TH5 := Lib.hid (show w5.there g0 (k * 14) y.1.length from blk_there (PI.out.blk.same (B5.out.block g0 HG0.out)) k (by rw [PI.out.len]; exact HKX.out) y)
      have HI5 := Lib.hid (show (Try.prog.info? 59).map (·.size) = some y.1.length by rw [infoPlayer, Cl.len])
      clear hc5 op5 b5
      refine hK.out _ _ S5.out (fun hHeld8 => ?_)
      clear hK K
      try simp only [Act.put, List.setIfInBounds_toArray, List.set_cons_zero, List.set_cons_succ]
      refine wpAnyH_take (i := 9) (oi := ?oiP9x) (v := ?vP9x) ?hiP9x (by kernel_rfl) (by kernel_rfl) (by kernel_rfl) ?hqP9x ?hyP9x (by assumption) ?restP9x
      case hiP9x => (simp only [List.getElem?_toArray, List.getElem?_cons_succ, List.getElem?_cons_zero] <;> rfl)
      case hqP9x => exact fun _ _ _ h => h
      case hyP9x => exact Or.inl ⟨by rfl, by (intro wS hSw; have s49 : wS.cell? ⟨w.heap.size, 0, none⟩ = some (.slice (some ⟨g0, 0, none⟩) es0.length k0) := hSw; go_simp; try with_reducible rfl)⟩
      try simp only [Act.put, List.setIfInBounds_toArray, List.set_cons_zero, List.set_cons_succ]
      refine wpAnyH_ready (rs := [10]) (by kernel_rfl) (by simp) ?_
      refine AllReadyH.cons (o := ?oiP10x) ?hiP10x (fun K hK => ?hsP10x) AllReadyH.nil
      case hiP10x => (simp only [List.getElem?_toArray, List.getElem?_cons_succ, List.getElem?_cons_zero] <;> rfl)
      refine step_store_mid rfl 59 (.tmp 26) (.tmp 25) rfl g0 (k * 14) y.1 (by simp [Act.eval]) (by simp [Act.eval]) TH5.out HI5.out (Cl.one y) ?_
      obtain ⟨a6, pi6⟩ := PI.out.step HKX.out B5.out y HY5.out
      have PI6 := Lib.hid pi6
      have S6 := Lib.hid (show StB w.heap.size 0 (.slice (some ⟨g0, 0, none⟩) es0.length k0) (w5.setCells g0 (k * 14) y.1) from (World.cell?_of_block (a := ⟨w.heap.size, 0, none⟩) (heap_sets _ _ _ _ _ (by have := PI.out.glo; show w.heap.size ≠ g0; omega))).trans S5.out)
      refine hK.out _ _ S6.out (fun hHeld10 => ?_)
      clear hK K
      try simp only [Act.put]
      refine wpAnyH_done (by kernel_rfl) ?_ _
      refine NoPanic.normal ?_
      go_wp2_with fail
      go_round
      case rel => exact ⟨k + 1, by omega, by go_num, (SG.out.old B5.out).far (sets_size _ _ _ _) (below_sets _ _ _ (SG.out.bel.trans (B5.out.mono SG.out.bel.size)) _ (by have := PI.out.glo; omega)) (heap_sets _ _ _ _ _ (by have := PI.out.glo; omega)) (heap_sets _ _ _ _ _ (by have := PI.out.glo; omega)), .inr ⟨_, a6, by omega, PI6.out, HdC.sets _ _ _ (HDC.out.same (B5.out.block g0 HG0.out))⟩⟩
      case measure => simp [intOf]; omega
    · obtain rfl : k = es0.length := by omega
      obtain ⟨W1, rfl⟩ : ∃ W, W = wr := ⟨_, rfl⟩
      have P0 := Lib.hid (show PlyOwn L (w.heap.size + 2) W1.heap.size W1 (.slice p0 es0.length k0) (dxs ds 0) by
        rcases HP.out with ⟨h0, hw⟩ | ⟨es, a, hpos, pi, hdc⟩
        · have hxs : dxs ds 0 = [] := List.eq_nil_of_length_eq_zero (by rw [← ES0.out.len]; exact h0)
          have he : es0 = [] := List.eq_nil_of_length_eq_zero h0
          rw [hxs, hw]
          have ho := OWN0.out
          rw [he] at ho
          rw [he]
          exact ⟨[], fun _ => Ws0.heap.size, own_low ho SG0.out.siz, rfl, fun g hg => (ho.lt g hg).2, fun _ => Nat.le_refl _, Nat.le_refl _, fun j vs ds' h => by simp at h⟩
        · have hel : es0.length = es.length := by rw [pi.len, ES0.out.len]
          have hp0 : p0 = some ⟨g0, 0, none⟩ := by
            rcases HG.out with h | h
            · omega
            · exact h
          rw [hp0, hel]
          exact ⟨es, a, own_of pi.blk hdc (by rw [← hel]; exact hcap0), pi.len, fun g hg => (by cases hg; exact pi.ga), pi.mon, (by rw [← pi.len, ← hel]; exact pi.top), fun j vs ds' h1 h2 => pi.done j vs ds' (by rw [hel, pi.len]; exact (List.getElem?_eq_some_iff.1 h2).1) h1 h2⟩)
      have SG1 := SG
      have cn := SG1.out.box.cell 1 _ U1x1.out
      clear HP HPI SGs
      go_wp2_with fail

      obtain ⟨es1, row1, hes1, hby1⟩ := R1.out.row (k := 19) rfl
      have ES1 := Lib.hid hes1
      have HBY1 := Lib.hid hby1
      refine (cloneObject sv1 es1 W1 (row1.below SG1.out.bel) (by rw [hes1.len]; omega)).mono ?_
      rintro e wa1 ⟨v1, rfl, own1, ba1⟩
      obtain ⟨p1, n1, k1, rfl⟩ := own_sl own1
      obtain ⟨rfl, hcap1, hnil1, hat1⟩ := own_cap own1
      have ca1 := (SG1.out.old ba1).box.cell 1 _ U1x1.out
      have fa1 := (SG1.out.old ba1).box.frozen 1
      have cb1 := (SG1.out.old ba1).box.cell 2 _ U1x2.out
      obtain ⟨cs2, hcs2⟩ : ∃ l, l = cs1.set 1 (.slice p1 es1.length k1) := ⟨_, rfl⟩
      have hl2 : cs2.length = 19 := by rw [hcs2, List.length_set]; exact hl1
      obtain ⟨Ws1, hWs1, sg1, kp1, sz1, sm1⟩ := SG1.out.store ba1 1 (.slice p1 es1.length k1)
      rw [← hcs2] at sg1
      have U2x2 := Lib.hid (show cs2[2]? = some sv2 by rw [hcs2, List.getElem?_set_ne (by decide)]; exact U1x2.out)
      have U2x3 := Lib.hid (show cs2[3]? = some sv3 by rw [hcs2, List.getElem?_set_ne (by decide)]; exact U1x3.out)
      have U2x4 := Lib.hid (show cs2[4]? = some sv4 by rw [hcs2, List.getElem?_set_ne (by decide)]; exact U1x4.out)
      have U2x5 := Lib.hid (show cs2[5]? = some sv5 by rw [hcs2, List.getElem?_set_ne (by decide)]; exact U1x5.out)
      have U2x6 := Lib.hid (show cs2[6]? = some sv6 by rw [hcs2, List.getElem?_set_ne (by decide)]; exact U1x6.out)
      have U2x16 := Lib.hid (show cs2[16]? = some sv16 by rw [hcs2, List.getElem?_set_ne (by decide)]; exact U1x16.out)
      have V2 := Lib.hid (show cs2[1]? = some (.slice p1 es1.length k1) by rw [hcs2, List.getElem?_set_self (by rw [hl1]; decide)])
      have HCS2 := Lib.hid hcs2
      have KP1 := Lib.hid kp1
      have OWN1 := Lib.hid (ownsRow_same own1 (fun g hg => sm1 g (by have := (own1.lt g hg).1; have := SG1.out.siz; omega)))
      have WS1 := Lib.hid hWs1
      obtain ⟨W2, rfl⟩ : ∃ W, W = Ws1 := ⟨_, rfl⟩
      have P1 := Lib.hid (show OwnE 19 47 kObject W1.heap.size W2.heap.size W2 (.slice p1 es1.length k1) (dxs ds 1) from ⟨es1, OWN1.out, es_any flatObject ES1.out, fun g hg => by have := (OWN1.out.lt g hg).2; exact this⟩)
      have SG2 := Lib.hid sg1
      have HW2 := WS1
      clear own1 hWs1 kp1 hcs2 row1 hes1 hby1 sg1 sz1 sm1 ba1 hat1 hnil1 hcap1
      go_wp2_with fail
      rw [← HW2.out]
      obtain ⟨es2, row2, hes2, hby2⟩ := R2.out.row (k := 1) rfl
      have ES2 := Lib.hid hes2
      have HBY2 := Lib.hid hby2
      refine (cloneint sv2 es2 W2 (row2.below SG2.out.bel) (by rw [hes2.len]; omega)).mono ?_
      rintro e wa2 ⟨v2, rfl, own2, ba2⟩
      obtain ⟨p2, n2, k2, rfl⟩ := own_sl own2
      obtain ⟨rfl, hcap2, hnil2, hat2⟩ := own_cap own2
      have ca2 := (SG2.out.old ba2).box.cell 2 _ U2x2.out
      have fa2 := (SG2.out.old ba2).box.frozen 2
      have cb2 := (SG2.out.old ba2).box.cell 3 _ U2x3.out
      obtain ⟨cs3, hcs3⟩ : ∃ l, l = cs2.set 2 (.slice p2 es2.length k2) := ⟨_, rfl⟩
      have hl3 : cs3.length = 19 := by rw [hcs3, List.length_set]; exact hl2
      obtain ⟨Ws2, hWs2, sg2, kp2, sz2, sm2⟩ := SG2.out.store ba2 2 (.slice p2 es2.length k2)
      rw [← hcs3] at sg2
      have U3x3 := Lib.hid (show cs3[3]? = some sv3 by rw [hcs3, List.getElem?_set_ne (by decide)]; exact U2x3.out)
      have U3x4 := Lib.hid (show cs3[4]? = some sv4 by rw [hcs3, List.getElem?_set_ne (by decide)]; exact U2x4.out)
      have U3x5 := Lib.hid (show cs3[5]? = some sv5 by rw [hcs3, List.getElem?_set_ne (by decide)]; exact U2x5.out)
      have U3x6 := Lib.hid (show cs3[6]? = some sv6 by rw [hcs3, List.getElem?_set_ne (by decide)]; exact U2x6.out)
      have U3x16 := Lib.hid (show cs3[16]? = some sv16 by rw [hcs3, List.getElem?_set_ne (by decide)]; exact U2x16.out)
      have V3 := Lib.hid (show cs3[2]? = some (.slice p2 es2.length k2) by rw [hcs3, List.getElem?_set_self (by rw [hl2]; decide)])
      have HCS3 := Lib.hid hcs3
      have KP2 := Lib.hid kp2
      have OWN2 := Lib.hid (ownsRow_same own2 (fun g hg => sm2 g (by have := (own2.lt g hg).1; have := SG2.out.siz; omega)))
      have WS2 := Lib.hid hWs2
      obtain ⟨W3, rfl⟩ : ∃ W, W = Ws2 := ⟨_, rfl⟩
      have P2 := Lib.hid (show OwnIn W2.heap.size W3.heap.size W3 (.slice p2 es2.length k2) (dxs ds 2) from ⟨⟨es2, OWN2.out, es_any (flat_ints 1) ES2.out⟩, fun g hg => (OWN2.out.lt g hg).2⟩)
      have SG3 := Lib.hid sg2
      have HW3 := WS2
      clear own2 hWs2 kp2 hcs3 row2 hes2 hby2 sg2 sz2 sm2 ba2 hat2 hnil2 hcap2
      go_wp2_with fail
      rw [← HW3.out]
      obtain ⟨es3, row3, hes3, hby3⟩ := R3.out.row (k := 1) rfl
      have ES3 := Lib.hid hes3
      have HBY3 := Lib.hid hby3
      refine (cloneint sv3 es3 W3 (row3.below SG3.out.bel) (by rw [hes3.len]; omega)).mono ?_
      rintro e wa3 ⟨v3, rfl, own3, ba3⟩
      obtain ⟨p3, n3, k3, rfl⟩ := own_sl own3
      obtain ⟨rfl, hcap3, hnil3, hat3⟩ := own_cap own3
      have ca3 := (SG3.out.old ba3).box.cell 3 _ U3x3.out
      have fa3 := (SG3.out.old ba3).box.frozen 3
      have cb3 := (SG3.out.old ba3).box.cell 4 _ U3x4.out
      obtain ⟨cs4, hcs4⟩ : ∃ l, l = cs3.set 3 (.slice p3 es3.length k3) := ⟨_, rfl⟩
      have hl4 : cs4.length = 19 := by rw [hcs4, List.length_set]; exact hl3
      obtain ⟨Ws3, hWs3, sg3, kp3, sz3, sm3⟩ := SG3.out.store ba3 3 (.slice p3 es3.length k3)
      rw [← hcs4] at sg3
      have U4x4 := Lib.hid (show cs4[4]? = some sv4 by rw [hcs4, List.getElem?_set_ne (by decide)]; exact U3x4.out)
      have U4x5 := Lib.hid (show cs4[5]? = some sv5 by rw [hcs4, List.getElem?_set_ne (by decide)]; exact U3x5.out)
      have U4x6 := Lib.hid (show cs4[6]? = some sv6 by rw [hcs4, List.getElem?_set_ne (by decide)]; exact U3x6.out)
      have U4x16 := Lib.hid (show cs4[16]? = some sv16 by rw [hcs4, List.getElem?_set_ne (by decide)]; exact U3x16.out)
      have V4 := Lib.hid (show cs4[3]? = some (.slice p3 es3.length k3) by rw [hcs4, List.getElem?_set_self (by rw [hl3]; decide)])
      have HCS4 := Lib.hid hcs4
      have KP3 := Lib.hid kp3
      have OWN3 := Lib.hid (ownsRow_same own3 (fun g hg => sm3 g (by have := (own3.lt g hg).1; have := SG3.out.siz; omega)))
      have WS3 := Lib.hid hWs3
      obtain ⟨W4, rfl⟩ : ∃ W, W = Ws3 := ⟨_, rfl⟩
      have P3 := Lib.hid (show OwnIn W3.heap.size W4.heap.size W4 (.slice p3 es3.length k3) (dxs ds 3) from ⟨⟨es3, OWN3.out, es_any (flat_ints 1) ES3.out⟩, fun g hg => (OWN3.out.lt g hg).2⟩)
      have SG4 := Lib.hid sg3
      have HW4 := WS3
      clear own3 hWs3 kp3 hcs4 row3 hes3 hby3 sg3 sz3 sm3 ba3 hat3 hnil3 hcap3
      go_wp2_with fail
      rw [← HW4.out]
      obtain ⟨es4, row4, hes4, hby4⟩ := R4.out.row (k := 94) rfl
      have ES4 := Lib.hid hes4
      have HBY4 := Lib.hid hby4
      refine (cloneItem sv4 es4 W4 (row4.below SG4.out.bel) (by rw [hes4.len]; omega)).mono ?_
      rintro e wa4 ⟨v4, rfl, own4, ba4⟩
      obtain ⟨p4, n4, k4, rfl⟩ := own_sl own4
      obtain ⟨rfl, hcap4, hnil4, hat4⟩ := own_cap own4
      have ca4 := (SG4.out.old ba4).box.cell 4 _ U4x4.out
      have fa4 := (SG4.out.old ba4).box.frozen 4
      obtain ⟨cs5, hcs5⟩ : ∃ l, l = cs4.set 4 (.slice p4 es4.length k4) := ⟨_, rfl⟩
      have hl5 : cs5.length = 19 := by rw [hcs5, List.length_set]; exact hl4
      obtain ⟨Ws4, hWs4, sg4, kp4, sz4, sm4⟩ := SG4.out.store ba4 4 (.slice p4 es4.length k4)
      rw [← hcs5] at sg4
      have U5x5 := Lib.hid (show cs5[5]? = some sv5 by rw [hcs5, List.getElem?_set_ne (by decide)]; exact U4x5.out)
      have U5x6 := Lib.hid (show cs5[6]? = some sv6 by rw [hcs5, List.getElem?_set_ne (by decide)]; exact U4x6.out)
      have U5x16 := Lib.hid (show cs5[16]? = some sv16 by rw [hcs5, List.getElem?_set_ne (by decide)]; exact U4x16.out)
      have V5 := Lib.hid (show cs5[4]? = some (.slice p4 es4.length k4) by rw [hcs5, List.getElem?_set_self (by rw [hl4]; decide)])
      have HCS5 := Lib.hid hcs5
      have KP4 := Lib.hid kp4
      have OWN4 := Lib.hid (ownsRow_same own4 (fun g hg => sm4 g (by have := (own4.lt g hg).1; have := SG4.out.siz; omega)))
      have WS4 := Lib.hid hWs4
      obtain ⟨g4, hg4, hli4⟩ : ∃ g4, (es4.length = 0 ∨ p4 = some ⟨g4, 0, none⟩) ∧ LpI F L w.heap.size 94 83 kItem W4 Ws4 g4 es4.length k4 (dxs ds 4) := by
        rcases own_form OWN4.out with ⟨cap, hv, h0⟩ | ⟨g, cap, hv⟩
        · exact ⟨0, .inl h0, KP4.out, .inl h0⟩
        · simp only [Value.slice.injEq] at hv
          obtain ⟨rfl, _, rfl⟩ := hv
          have hgw := (OWN4.out.lt g rfl).1
          have hsz := SG4.out.siz
          refine ⟨g, .inr rfl, KP4.out, .inr ⟨hcap4, hdC_of OWN4.out, es4, rfl, own_blkC OWN4.out rfl, ES4.out.frame (Nat.le_refl _) sg4.bel.size (fun b _ hlt => sg4.bel.block b hlt) (fun b hF hlt => .inl ⟨hF, hlt⟩), fun b hb => ?_⟩⟩
          rcases hb with hb | hb
          · omega
          · exact fun e => hb.2 (by rw [e])
      have HG4 := Lib.hid hg4
      have HLI4 := Lib.hid hli4
      have SGs4 := Lib.hid sg4
      have HCAP4 := Lib.hid hcap4
      have hnb4 : es4.length * 824 ≤ 140737488355328 := by rw [ES4.out.len]; exact Nat.le_trans HBY4.out hL
      have cls4 := sg4.box.cell 4 _ V5.out
      rw [WS4.out] at cls4
      clear own4 hWs4 kp4 hcs5 row4 hes4 hby4 sg4 sz4 sm4 ba4 hg4 hli4 hat4 hnil4 hcap4
      go_wp2_with fail
      rw [← WS4.out]
      go_loopw [47] (fun i wr => ∃ k : Nat, k ≤ es4.length ∧ i = .int .i64 k ∧ Stg w wr cs5 zs ∧ LpI F L w.heap.size 94 83 kItem W4 wr g4 es4.length k4 (dxs ds 4) ∧ (es4.length = 0 → wr = Ws4)) (fun i _ => es4.length - (intOf i).toNat)
      case atStart => exact ⟨0, by omega, rfl, SGs4.out, HLI4.out, fun _ => rfl⟩
      case round =>
        obtain ⟨k, hk, rfl, sg, li, hnw⟩ := hrel
        have SG := Lib.hid sg
        have LI := Lib.hid li
        have HNW := Lib.hid hnw
        clear sg li hnw
        by_cases hlt : k < es4.length
        · have hp4 : p4 = some ⟨g4, 0, none⟩ := by
            rcases HG4.out with h | h
            · omega
            · exact h
          subst hp4
          have GLO := Lib.hid ((LI.out.part k hlt 0 0 (by decide)).2.2)
          obtain ⟨⟨vs0, dv0, pt0⟩, th0, _⟩ := LI.out.part k hlt 6 72 (by decide)
          have S0 := Lib.hid (show StB w.heap.size 4 (.slice (some ⟨g4, 0, none⟩) es4.length k4) wr from SG.out.box.cell 4 _ V5.out)
          have c0k0 := SG.out.box.cell 4 _ V5.out
          have PT0 := Lib.hid pt0
          have RG0 := Lib.hid (show wr.drew.rangeAt g4 (k * 94 + 6) vs0 from pt0.rng)
          have HI0 := Lib.hid (show (Try.prog.info? 78).map (·.size) = some vs0.length by rw [infoAbility, pt0.len])
          clear pt0 th0
          go_wp2_with fail
          refine wp_region_noPanic ?_
          refine wp_region_held_drew (S := StB w.heap.size 4 (.slice (some ⟨g4, 0, none⟩) es4.length k4)) (by kernel_rfl) (S0.out) (fun hHeld => ?_)
          refine wpAnyH_take (i := 0) (oi := ?oiA40x) (v := ?vA40x) ?hiA40x (by kernel_rfl) (by kernel_rfl) (by kernel_rfl) ?hqA40x ?hyA40x (by assumption) ?restA40x
          case hiA40x => (simp only [List.getElem?_toArray, List.getElem?_cons_zero] <;> rfl)
          case hqA40x => exact fun _ _ _ h => h
          case hyA40x => exact Or.inl ⟨by rfl, by (intro wS hSw; have s49 : wS.cell? ⟨w.heap.size, 4, none⟩ = some (.slice (some ⟨g4, 0, none⟩) es4.length k4) := hSw; go_simp; try with_reducible rfl)⟩
          try simp only [Act.put, List.setIfInBounds_toArray, List.set_cons_zero, List.set_cons_succ]
          refine wpAnyH_take (i := 1) (oi := ?oiA41x) (v := ?vA41x) ?hiA41x (by kernel_rfl) (by kernel_rfl) (by kernel_rfl) ?hqA41x ?hyA41x (by assumption) ?restA41x
          case hiA41x => (simp only [List.getElem?_toArray, List.getElem?_cons_succ, List.getElem?_cons_zero] <;> rfl)
          case hqA41x => exact fun _ _ _ h => h
          case hyA41x => exact Or.inl ⟨by rfl, by (intro wS hSw; have s49 : wS.cell? ⟨w.heap.size, 4, none⟩ = some (.slice (some ⟨g4, 0, none⟩) es4.length k4) := hSw; go_simp; try with_reducible rfl)⟩
          try simp only [Act.put, List.setIfInBounds_toArray, List.set_cons_zero, List.set_cons_succ]
          refine wpAnyH_take (i := 2) (oi := ?oiA42x) (v := ?vA42x) ?hiA42x (by kernel_rfl) (by kernel_rfl) (by kernel_rfl) ?hqA42x ?hyA42x (by assumption) ?restA42x
          case hiA42x => (simp only [List.getElem?_toArray, List.getElem?_cons_succ, List.getElem?_cons_zero] <;> rfl)
          case hqA42x => exact fun _ _ _ h => h
          case hyA42x => exact Or.inl ⟨by rfl, by (intro wS hSw; have s49 : wS.cell? ⟨w.heap.size, 4, none⟩ = some (.slice (some ⟨g4, 0, none⟩) es4.length k4) := hSw; go_simp; try with_reducible rfl)⟩
          try simp only [Act.put, List.setIfInBounds_toArray, List.set_cons_zero, List.set_cons_succ]
          refine wpAnyH_take (i := 3) (oi := ?oiA43x) (v := ?vA43x) ?hiA43x (by kernel_rfl) (by kernel_rfl) (by kernel_rfl) ?hqA43x ?hyA43x (by assumption) ?restA43x
          case hiA43x => (simp only [List.getElem?_toArray, List.getElem?_cons_succ, List.getElem?_cons_zero] <;> rfl)
          case hqA43x => exact fun _ _ _ h => h
          case hyA43x => exact Or.inl ⟨by rfl, by (intro wS hSw; have s49 : wS.cell? ⟨w.heap.size, 4, none⟩ = some (.slice (some ⟨g4, 0, none⟩) es4.length k4) := hSw; go_simp; try with_reducible rfl)⟩
          try simp only [Act.put, List.setIfInBounds_toArray, List.set_cons_zero, List.set_cons_succ]
          refine wpAnyH_take (i := 4) (oi := ?oiA44x) (v := ?vA44x) ?hiA44x (by kernel_rfl) (by kernel_rfl) (by kernel_rfl) ?hqA44x ?hyA44x (by assumption) ?restA44x
          case hiA44x => (simp only [List.getElem?_toArray, List.getElem?_cons_succ, List.getElem?_cons_zero] <;> rfl)
          case hqA44x => exact fun _ _ _ h => h
          case hyA44x => exact Or.inl ⟨by rfl, by (intro wS hSw; have s49 : wS.cell? ⟨w.heap.size, 4, none⟩ = some (.slice (some ⟨g4, 0, none⟩) es4.length k4) := hSw; go_simp; try with_reducible rfl)⟩
          try simp only [Act.put, List.setIfInBounds_toArray, List.set_cons_zero, List.set_cons_succ]
          refine wpAnyH_take (i := 5) (oi := ?oiA45x) (v := ?vA45x) ?hiA45x (by kernel_rfl) (by kernel_rfl) (by kernel_rfl) ?hqA45x ?hyA45x (by assumption) ?restA45x
          case hiA45x => (simp only [List.getElem?_toArray, List.getElem?_cons_succ, List.getElem?_cons_zero] <;> rfl)
          case hqA45x => exact fun _ _ _ h => h
          case hyA45x => exact Or.inl ⟨by rfl, by (intro wS hSw; have s49 : wS.cell? ⟨w.heap.size, 4, none⟩ = some (.slice (some ⟨g4, 0, none⟩) es4.length k4) := hSw; go_simp; try with_reducible rfl)⟩
          try simp only [Act.put, List.setIfInBounds_toArray, List.set_cons_zero, List.set_cons_succ]
          refine wpAnyH_take (i := 6) (oi := ?oiA46x) (v := ?vA46x) ?hiA46x (by kernel_rfl) (by kernel_rfl) (by kernel_rfl) ?hqA46x ?hyA46x (by assumption) ?restA46x
          case hiA46x => (simp only [List.getElem?_toArray, List.getElem?_cons_succ, List.getElem?_cons_zero] <;> rfl)
          case hqA46x => exact fun _ _ _ h => h
          case hyA46x => exact Or.inl ⟨by rfl, by (intro wS hSw; have s49 : wS.cell? ⟨w.heap.size, 4, none⟩ = some (.slice (some ⟨g4, 0, none⟩) es4.length k4) := hSw; go_simp; try with_reducible rfl)⟩
          try simp only [Act.put, List.setIfInBounds_toArray, List.set_cons_zero, List.set_cons_succ]
          refine wpAnyH_take (i := 7) (oi := ?oiA47x) (v := ?vA47x) ?hiA47x (by kernel_rfl) (by kernel_rfl) (by kernel_rfl) ?hqA47x ?hyA47x (by assumption) ?restA47x
          case hiA47x => (simp only [List.getElem?_toArray, List.getElem?_cons_succ, List.getElem?_cons_zero] <;> rfl)
          case hqA47x => exact fun _ _ _ h => h
          case hyA47x => exact Or.inl ⟨by rfl, by (intro wS hSw; have s49 : wS.cell? ⟨w.heap.size, 4, none⟩ = some (.slice (some ⟨g4, 0, none⟩) es4.length k4) := hSw; go_simp; try with_reducible rfl)⟩
          try simp only [Act.put, List.setIfInBounds_toArray, List.set_cons_zero, List.set_cons_succ]
          refine wpAnyH_ready (rs := [8]) (by kernel_rfl) (by simp) ?_
          refine AllReadyH.cons (o := ?oiA48x) ?hiA48x (fun K hK => ?hsA48x) AllReadyH.nil
          case hiA48x => (simp only [List.getElem?_toArray, List.getElem?_cons_succ, List.getElem?_cons_zero] <;> rfl)
          refine step_load_mid rfl 78 (.tmp 57) rfl g4 (k * 94 + 6) (by simp [Act.eval]) vs0 _ RG0.out Try.underlying78 rfl HI0.out ?_
          refine hK.out _ _ S0.out (fun hHeld8 => ?_)
          clear hHeld8
          clear hK K
          try simp only [Act.put, List.setIfInBounds_toArray, List.set_cons_zero, List.set_cons_succ]
          refine wpAnyH_ready (rs := [9]) (by kernel_rfl) (by simp) ?_
          refine AllReadyH.cons (o := ?oiA49x) ?hiA49x (fun K hK => ?hsA49x) AllReadyH.nil
          case hiA49x => (simp only [List.getElem?_toArray, List.getElem?_cons_succ, List.getElem?_cons_zero] <;> rfl)
          go_simp
          refine (copyAbility (Ft F w.heap.size W4.heap.size (some g4)) L vs0 dv0 wr.drew (PT0.out.rd.old (Below.refl _ _).drew) hL).mono ?_
          rintro e w50 ⟨cw50, rfl, rd5, b5⟩
          have Bw50 := Lib.hid (show Below wr.heap.size wr w50 from (Below.refl _ _).drew.trans b5)
          have RDw50 := Lib.hid (show RdL (Ft F w.heap.size W4.heap.size (some g4)) L w50 ((kItem.drop 6).take 72) cw50 dv0 from rd5.imp (fun b hb _ => by
            rcases hb with hb | hb
            · exact hb.1
            · exact .inr ⟨Nat.le_trans LI.out.kp.1 hb, fun e => by cases e; exact absurd hb (Nat.not_le.2 PT0.out.glt)⟩))
          have LNw50 := Lib.hid (show cw50.length = 72 by rw [rd5.len.1]; exact kAbility_len)
          have Sw50 := Lib.hid (show StB w.heap.size 4 (.slice (some ⟨g4, 0, none⟩) es4.length k4) w50 from (Bw50.out.cell (p := ⟨w.heap.size, 4, none⟩) SG.out.box.lt).trans S0.out)
          have THw50 := Lib.hid (show w50.there g4 (k * 94 + 6) cw50.length by rw [LNw50.out]; exact ((LI.out.old Bw50.out).part k hlt 6 72 (by decide)).2.1)
          have HIw50 := Lib.hid (show (Try.prog.info? 78).map (·.size) = some cw50.length by rw [infoAbility, LNw50.out])
          clear rd5 b5
          refine hK.out _ _ Sw50.out (fun hHeld9 => ?_)
          clear hK K
          try simp only [Act.put, List.setIfInBounds_toArray, List.set_cons_zero, List.set_cons_succ]
          refine wpAnyH_take (i := 10) (oi := ?oiA410x) (v := ?vA410x) ?hiA410x (by kernel_rfl) (by kernel_rfl) (by kernel_rfl) ?hqA410x ?hyA410x (by assumption) ?restA410x
          case hiA410x => (simp only [List.getElem?_toArray, List.getElem?_cons_succ, List.getElem?_cons_zero] <;> rfl)
          case hqA410x => exact fun _ _ _ h => h
          case hyA410x => exact Or.inl ⟨by rfl, by (intro wS hSw; have s49 : wS.cell? ⟨w.heap.size, 4, none⟩ = some (.slice (some ⟨g4, 0, none⟩) es4.length k4) := hSw; go_simp; try with_reducible rfl)⟩
          try simp only [Act.put, List.setIfInBounds_toArray, List.set_cons_zero, List.set_cons_succ]
          refine wpAnyH_take (i := 11) (oi := ?oiA411x) (v := ?vA411x) ?hiA411x (by kernel_rfl) (by kernel_rfl) (by kernel_rfl) ?hqA411x ?hyA411x (by assumption) ?restA411x
          case hiA411x => (simp only [List.getElem?_toArray, List.getElem?_cons_succ, List.getElem?_cons_zero] <;> rfl)
          case hqA411x => exact fun _ _ _ h => h
          case hyA411x => exact Or.inl ⟨by rfl, by (intro wS hSw; have s49 : wS.cell? ⟨w.heap.size, 4, none⟩ = some (.slice (some ⟨g4, 0, none⟩) es4.length k4) := hSw; go_simp; try with_reducible rfl)⟩
          try simp only [Act.put, List.setIfInBounds_toArray, List.set_cons_zero, List.set_cons_succ]
          refine wpAnyH_ready (rs := [12]) (by kernel_rfl) (by simp) ?_
          refine AllReadyH.cons (o := ?oiA412x) ?hiA412x (fun K hK => ?hsA412x) AllReadyH.nil
          case hiA412x => (simp only [List.getElem?_toArray, List.getElem?_cons_succ, List.getElem?_cons_zero] <;> rfl)
          refine step_store_mid rfl 78 (.tmp 61) (.tmp 59) rfl g4 (k * 94 + 6) cw50 (by simp [Act.eval]) (by simp [Act.eval]) THw50.out HIw50.out RDw50.out.one ?_
          have LI6 := Lib.hid (LI.out.put hlt PT0.out Bw50.out cw50 RDw50.out LNw50.out (by decide))
          have SG6 := Lib.hid ((SG.out.old Bw50.out).far (sets_size _ _ _ _) (below_sets _ _ _ (SG.out.bel.trans (Bw50.out.mono SG.out.bel.size)) _ (by have := GLO.out; have := SG4.out.siz; omega)) (heap_sets g4 cw50 (k * 94 + 6) _ _ (by have := GLO.out; have := SG4.out.siz; omega)) (heap_sets g4 cw50 (k * 94 + 6) _ _ (by have := GLO.out; have := SG4.out.siz; omega)))
          have S6 := Lib.hid (show StB w.heap.size 4 (.slice (some ⟨g4, 0, none⟩) es4.length k4) (w50.setCells g4 (k * 94 + 6) cw50) from SG6.out.box.cell 4 _ V5.out)
          refine hK.out _ _ S6.out (fun hHeld12 => ?_)
          clear hK K
          try simp only [Act.put]
          refine wpAnyH_done (by kernel_rfl) ?_ _
          refine NoPanic.normal ?_
          obtain ⟨wm0, hwm0⟩ : ∃ W, W = w50.setCells g4 (k * 94 + 6) cw50 := ⟨_, rfl⟩
          have LIN := LI6
          have SGN := SG6
          change Hid (LpI _ _ _ _ _ _ _ (w50.setCells g4 (k * 94 + 6) cw50) _ _ _ _) at LIN
          change Hid (Stg _ (w50.setCells g4 (k * 94 + 6) cw50) _ _) at SGN
          rw [← hwm0] at LIN SGN
          have HWM0 := Lib.hid hwm0
          clear hwm0 LI SG LI6 SG6 S6 c0k0
          have LI := LIN
          have SG := SGN
          clear LIN SGN
          rw [← HWM0.out]
          obtain ⟨⟨vs1, dv1, pt1⟩, th1, _⟩ := LI.out.part k hlt 78 1 (by decide)
          have S1 := Lib.hid (show StB w.heap.size 4 (.slice (some ⟨g4, 0, none⟩) es4.length k4) wm0 from SG.out.box.cell 4 _ V5.out)
          have c0k1 := SG.out.box.cell 4 _ V5.out
          have PT1 := Lib.hid pt1
          obtain ⟨m1, ms1, rfl, rfl, rm1, cm1⟩ := pt1.one (e' := kTarget) (by_ := 16) rfl
          have RM1 := Lib.hid rm1
          clear rm1 th1 pt1
          go_wp2_with fail
          refine wp_region_noPanic ?_
          refine wp_region_held_drew (S := StB w.heap.size 4 (.slice (some ⟨g4, 0, none⟩) es4.length k4)) (by kernel_rfl) (S1.out) (fun hHeld => ?_)
          refine wpAnyH_take (i := 0) (oi := ?oiB40x) (v := ?vB40x) ?hiB40x (by kernel_rfl) (by kernel_rfl) (by kernel_rfl) ?hqB40x ?hyB40x (by assumption) ?restB40x
          case hiB40x => (simp only [List.getElem?_toArray, List.getElem?_cons_zero] <;> rfl)
          case hqB40x => exact fun _ _ _ h => h
          case hyB40x => exact Or.inl ⟨by rfl, by (intro wS hSw; have s49 : wS.cell? ⟨w.heap.size, 4, none⟩ = some (.slice (some ⟨g4, 0, none⟩) es4.length k4) := hSw; go_simp; try with_reducible rfl)⟩
          try simp only [Act.put, List.setIfInBounds_toArray, List.set_cons_zero, List.set_cons_succ]
          refine wpAnyH_take (i := 1) (oi := ?oiB41x) (v := ?vB41x) ?hiB41x (by kernel_rfl) (by kernel_rfl) (by kernel_rfl) ?hqB41x ?hyB41x (by assumption) ?restB41x
          case hiB41x => (simp only [List.getElem?_toArray, List.getElem?_cons_succ, List.getElem?_cons_zero] <;> rfl)
          case hqB41x => exact fun _ _ _ h => h
          case hyB41x => exact Or.inl ⟨by rfl, by (intro wS hSw; have s49 : wS.cell? ⟨w.heap.size, 4, none⟩ = some (.slice (some ⟨g4, 0, none⟩) es4.length k4) := hSw; go_simp; try with_reducible rfl)⟩
          try simp only [Act.put, List.setIfInBounds_toArray, List.set_cons_zero, List.set_cons_succ]
          refine wpAnyH_take (i := 2) (oi := ?oiB42x) (v := ?vB42x) ?hiB42x (by kernel_rfl) (by kernel_rfl) (by kernel_rfl) ?hqB42x ?hyB42x (by assumption) ?restB42x
          case hiB42x => (simp only [List.getElem?_toArray, List.getElem?_cons_succ, List.getElem?_cons_zero] <;> rfl)
          case hqB42x => exact fun _ _ _ h => h
          case hyB42x => exact Or.inl ⟨by rfl, by (intro wS hSw; have s49 : wS.cell? ⟨w.heap.size, 4, none⟩ = some (.slice (some ⟨g4, 0, none⟩) es4.length k4) := hSw; go_simp; try with_reducible rfl)⟩
          try simp only [Act.put, List.setIfInBounds_toArray, List.set_cons_zero, List.set_cons_succ]
          refine wpAnyH_take (i := 3) (oi := ?oiB43x) (v := ?vB43x) ?hiB43x (by kernel_rfl) (by kernel_rfl) (by kernel_rfl) ?hqB43x ?hyB43x (by assumption) ?restB43x
          case hiB43x => (simp only [List.getElem?_toArray, List.getElem?_cons_succ, List.getElem?_cons_zero] <;> rfl)
          case hqB43x => exact fun _ _ _ h => h
          case hyB43x => exact Or.inl ⟨by rfl, by (intro wS hSw; have s49 : wS.cell? ⟨w.heap.size, 4, none⟩ = some (.slice (some ⟨g4, 0, none⟩) es4.length k4) := hSw; go_simp; try with_reducible rfl)⟩
          try simp only [Act.put, List.setIfInBounds_toArray, List.set_cons_zero, List.set_cons_succ]
          refine wpAnyH_take (i := 4) (oi := ?oiB44x) (v := ?vB44x) ?hiB44x (by kernel_rfl) (by kernel_rfl) (by kernel_rfl) ?hqB44x ?hyB44x (by assumption) ?restB44x
          case hiB44x => (simp only [List.getElem?_toArray, List.getElem?_cons_succ, List.getElem?_cons_zero] <;> rfl)
          case hqB44x => exact fun _ _ _ h => h
          case hyB44x => exact Or.inl ⟨by rfl, by (intro wS hSw; have s49 : wS.cell? ⟨w.heap.size, 4, none⟩ = some (.slice (some ⟨g4, 0, none⟩) es4.length k4) := hSw; go_simp; try with_reducible rfl)⟩
          try simp only [Act.put, List.setIfInBounds_toArray, List.set_cons_zero, List.set_cons_succ]
          refine wpAnyH_take (i := 5) (oi := ?oiB45x) (v := ?vB45x) ?hiB45x (by kernel_rfl) (by kernel_rfl) (by kernel_rfl) ?hqB45x ?hyB45x (by assumption) ?restB45x
          case hiB45x => (simp only [List.getElem?_toArray, List.getElem?_cons_succ, List.getElem?_cons_zero] <;> rfl)
          case hqB45x => exact fun _ _ _ h => h
          case hyB45x => exact Or.inl ⟨by rfl, by (intro wS hSw; have s49 : wS.cell? ⟨w.heap.size, 4, none⟩ = some (.slice (some ⟨g4, 0, none⟩) es4.length k4) := hSw; go_simp; try with_reducible rfl)⟩
          try simp only [Act.put, List.setIfInBounds_toArray, List.set_cons_zero, List.set_cons_succ]
          refine wpAnyH_take (i := 6) (oi := ?oiB46x) (v := ?vB46x) ?hiB46x (by kernel_rfl) (by kernel_rfl) (by kernel_rfl) ?hqB46x ?hyB46x (by assumption) ?restB46x
          case hiB46x => (simp only [List.getElem?_toArray, List.getElem?_cons_succ, List.getElem?_cons_zero] <;> rfl)
          case hqB46x => exact fun _ _ _ h => h
          case hyB46x => exact Or.inl ⟨by rfl, by (intro wS hSw; have s49 : wS.cell? ⟨w.heap.size, 4, none⟩ = some (.slice (some ⟨g4, 0, none⟩) es4.length k4) := hSw; go_simp; try with_reducible rfl)⟩
          try simp only [Act.put, List.setIfInBounds_toArray, List.set_cons_zero, List.set_cons_succ]
          refine wpAnyH_take (i := 7) (oi := ?oiB47x) (v := ?vB47x) ?hiB47x (by kernel_rfl) (by kernel_rfl) (by kernel_rfl) ?hqB47x ?hyB47x (by assumption) ?restB47x
          case hiB47x => (simp only [List.getElem?_toArray, List.getElem?_cons_succ, List.getElem?_cons_zero] <;> rfl)
          case hqB47x => exact fun _ _ _ h => h
          case hyB47x => exact Or.inl ⟨by rfl, by (intro wS hSw; have s49 : wS.cell? ⟨w.heap.size, 4, none⟩ = some (.slice (some ⟨g4, 0, none⟩) es4.length k4) := hSw; go_simp; try with_reducible rfl)⟩
          try simp only [Act.put, List.setIfInBounds_toArray, List.set_cons_zero, List.set_cons_succ]
          refine wpAnyH_ready (rs := [8]) (by kernel_rfl) (by simp) ?_
          refine AllReadyH.cons (o := ?oiB48x) ?hiB48x (fun K hK => ?hsB48x) AllReadyH.nil
          case hiB48x => (simp only [List.getElem?_toArray, List.getElem?_cons_succ, List.getElem?_cons_zero] <;> rfl)
          go_simp
          refine hK.out _ _ S1.out (fun hHeld8 => ?_)
          clear hHeld8
          clear hK K
          try simp only [Act.put, List.setIfInBounds_toArray, List.set_cons_zero, List.set_cons_succ]
          refine wpAnyH_ready (rs := [9]) (by kernel_rfl) (by simp) ?_
          refine AllReadyH.cons (o := ?oiB49x) ?hiB49x (fun K hK => ?hsB49x) AllReadyH.nil
          case hiB49x => (simp only [List.getElem?_toArray, List.getElem?_cons_succ, List.getElem?_cons_zero] <;> rfl)
          go_simp
          refine (cloneFTarget _ L m1 ms1 wm0.drew (RM1.out.old (Below.refl _ _).drew) hL).mono ?_
          rintro e w51 ⟨pw51, nw51, kw51, rfl, q5, b5⟩
          have Bw51 := Lib.hid (show Below wm0.heap.size wm0 w51 from (Below.refl _ _).drew.trans b5)
          have Qw51 := Lib.hid (q5 (Ft F w.heap.size W4.heap.size (some g4)) (fun b h1 _ => .inr ⟨Nat.le_trans LI.out.kp.1 h1, fun e => by cases e; exact absurd h1 (Nat.not_le.2 PT1.out.glt)⟩))
          have Sw51 := Lib.hid (show StB w.heap.size 4 (.slice (some ⟨g4, 0, none⟩) es4.length k4) w51 from (Bw51.out.cell (p := ⟨w.heap.size, 4, none⟩) SG.out.box.lt).trans S1.out)
          have c121 := (Bw51.out.cell (p := ⟨g4, k * 94 + 78, none⟩) PT1.out.glt).trans cm1
          have f121 := (((LI.out.old Bw51.out).part k hlt 78 1 (by decide)).2.1 0 Nat.one_pos).2
          clear q5 b5
          refine hK.out _ _ Sw51.out (fun hHeld9 => ?_)
          clear hK K
          try simp only [Act.put, List.setIfInBounds_toArray, List.set_cons_zero, List.set_cons_succ]
          refine wpAnyH_take (i := 10) (oi := ?oiB410x) (v := ?vB410x) ?hiB410x (by kernel_rfl) (by kernel_rfl) (by kernel_rfl) ?hqB410x ?hyB410x (by assumption) ?restB410x
          case hiB410x => (simp only [List.getElem?_toArray, List.getElem?_cons_succ, List.getElem?_cons_zero] <;> rfl)
          case hqB410x => exact fun _ _ _ h => h
          case hyB410x => exact Or.inl ⟨by rfl, by (intro wS hSw; have s49 : wS.cell? ⟨w.heap.size, 4, none⟩ = some (.slice (some ⟨g4, 0, none⟩) es4.length k4) := hSw; go_simp; try with_reducible rfl)⟩
          try simp only [Act.put, List.setIfInBounds_toArray, List.set_cons_zero, List.set_cons_succ]
          refine wpAnyH_take (i := 11) (oi := ?oiB411x) (v := ?vB411x) ?hiB411x (by kernel_rfl) (by kernel_rfl) (by kernel_rfl) ?hqB411x ?hyB411x (by assumption) ?restB411x
          case hiB411x => (simp only [List.getElem?_toArray, List.getElem?_cons_succ, List.getElem?_cons_zero] <;> rfl)
          case hqB411x => exact fun _ _ _ h => h
          case hyB411x => exact Or.inl ⟨by rfl, by (intro wS hSw; have s49 : wS.cell? ⟨w.heap.size, 4, none⟩ = some (.slice (some ⟨g4, 0, none⟩) es4.length k4) := hSw; go_simp; try with_reducible rfl)⟩
          try simp only [Act.put, List.setIfInBounds_toArray, List.set_cons_zero, List.set_cons_succ]
          refine wpAnyH_ready (rs := [12]) (by kernel_rfl) (by simp) ?_
          refine AllReadyH.cons (o := ?oiB412x) ?hiB412x (fun K hK => ?hsB412x) AllReadyH.nil
          case hiB412x => (simp only [List.getElem?_toArray, List.getElem?_cons_succ, List.getElem?_cons_zero] <;> rfl)
          go_simp
          have LI6 := Lib.hid (LI.out.put hlt PT1.out Bw51.out [.slice pw51 nw51 kw51] (.cons Qw51.out .nil) rfl (by decide))
          have SG6 := Lib.hid ((SG.out.old Bw51.out).far (sets_size _ [.slice pw51 nw51 kw51] _ _) (below_sets _ _ _ (SG.out.bel.trans (Bw51.out.mono SG.out.bel.size)) _ (by have := GLO.out; have := SG4.out.siz; omega)) (heap_sets g4 [.slice pw51 nw51 kw51] (k * 94 + 78) _ _ (by have := GLO.out; have := SG4.out.siz; omega)) (heap_sets g4 [.slice pw51 nw51 kw51] (k * 94 + 78) _ _ (by have := GLO.out; have := SG4.out.siz; omega)))
          have S6 := Lib.hid (show StB w.heap.size 4 (.slice (some ⟨g4, 0, none⟩) es4.length k4) (w51.setCell ⟨g4, k * 94 + 78, none⟩ (.slice pw51 nw51 kw51)) from SG6.out.box.cell 4 _ V5.out)
          refine hK.out _ _ S6.out (fun hHeld12 => ?_)
          clear hK K
          try simp only [Act.put, List.setIfInBounds_toArray, List.set_cons_zero, List.set_cons_succ]
          refine wpAnyH_done (by kernel_rfl) ?_ _
          refine NoPanic.normal ?_
          obtain ⟨wm1, hwm1⟩ : ∃ W, W = w51.setCell ⟨g4, k * 94 + 78, none⟩ (.slice pw51 nw51 kw51) := ⟨_, rfl⟩
          have LIN := LI6
          have SGN := SG6
          change Hid (LpI _ _ _ _ _ _ _ (w51.setCell ⟨g4, k * 94 + 78, none⟩ (.slice pw51 nw51 kw51)) _ _ _ _) at LIN
          change Hid (Stg _ (w51.setCell ⟨g4, k * 94 + 78, none⟩ (.slice pw51 nw51 kw51)) _ _) at SGN
          rw [← hwm1] at LIN SGN
          have HWM1 := Lib.hid hwm1
          clear hwm1 LI SG LI6 SG6 S6 c0k1
          have LI := LIN
          have SG := SGN
          clear LIN SGN
          go_wp2_with fail
          rw [← HWM1.out]
          go_round
          case rel => exact ⟨k + 1, by omega, by go_num, SG.out, LI.out, fun h => by omega⟩
          case measure => simp [intOf]; omega
        · obtain rfl : k = es4.length := by omega
          obtain ⟨W5, rfl⟩ : ∃ W, W = wr := ⟨_, rfl⟩
          have P4 := Lib.hid (ownX_of LI.out HG4.out OWN4.out ES4.out.len.symm (fun h0 => by rw [HNW.out h0]; exact Nat.le_refl _) (fun h0 b _ _ => by rw [HNW.out h0]))
          have KL4 := Lib.hid LI.out.kp
          have SG5 := SG
          have cn := SG5.out.box.cell 5 _ U5x5.out
          clear LI HLI4 SGs4 HNW
          go_wp2_with fail

          obtain ⟨es5, row5, hes5, hby5⟩ := R5.out.row (k := 89) rfl
          have ES5 := Lib.hid hes5
          have HBY5 := Lib.hid hby5
          refine (cloneWaiting sv5 es5 W5 (row5.below SG5.out.bel) (by rw [hes5.len]; omega)).mono ?_
          rintro e wa5 ⟨v5, rfl, own5, ba5⟩
          obtain ⟨p5, n5, k5, rfl⟩ := own_sl own5
          obtain ⟨rfl, hcap5, hnil5, hat5⟩ := own_cap own5
          have ca5 := (SG5.out.old ba5).box.cell 5 _ U5x5.out
          have fa5 := (SG5.out.old ba5).box.frozen 5
          obtain ⟨cs6, hcs6⟩ : ∃ l, l = cs5.set 5 (.slice p5 es5.length k5) := ⟨_, rfl⟩
          have hl6 : cs6.length = 19 := by rw [hcs6, List.length_set]; exact hl5
          obtain ⟨Ws5, hWs5, sg5, kp5, sz5, sm5⟩ := SG5.out.store ba5 5 (.slice p5 es5.length k5)
          rw [← hcs6] at sg5
          have U6x6 := Lib.hid (show cs6[6]? = some sv6 by rw [hcs6, List.getElem?_set_ne (by decide)]; exact U5x6.out)
          have U6x16 := Lib.hid (show cs6[16]? = some sv16 by rw [hcs6, List.getElem?_set_ne (by decide)]; exact U5x16.out)
          have V6 := Lib.hid (show cs6[5]? = some (.slice p5 es5.length k5) by rw [hcs6, List.getElem?_set_self (by rw [hl5]; decide)])
          have HCS6 := Lib.hid hcs6
          have KP5 := Lib.hid kp5
          have OWN5 := Lib.hid (ownsRow_same own5 (fun g hg => sm5 g (by have := (own5.lt g hg).1; have := SG5.out.siz; omega)))
          have WS5 := Lib.hid hWs5
          obtain ⟨g5, hg5, hli5⟩ : ∃ g5, (es5.length = 0 ∨ p5 = some ⟨g5, 0, none⟩) ∧ LpI F L w.heap.size 89 92 kWaiting W5 Ws5 g5 es5.length k5 (dxs ds 5) := by
            rcases own_form OWN5.out with ⟨cap, hv, h0⟩ | ⟨g, cap, hv⟩
            · exact ⟨0, .inl h0, KP5.out, .inl h0⟩
            · simp only [Value.slice.injEq] at hv
              obtain ⟨rfl, _, rfl⟩ := hv
              have hgw := (OWN5.out.lt g rfl).1
              have hsz := SG5.out.siz
              refine ⟨g, .inr rfl, KP5.out, .inr ⟨hcap5, hdC_of OWN5.out, es5, rfl, own_blkC OWN5.out rfl, ES5.out.frame (Nat.le_refl _) sg5.bel.size (fun b _ hlt => sg5.bel.block b hlt) (fun b hF hlt => .inl ⟨hF, hlt⟩), fun b hb => ?_⟩⟩
              rcases hb with hb | hb
              · omega
              · exact fun e => hb.2 (by rw [e])
          have HG5 := Lib.hid hg5
          have HLI5 := Lib.hid hli5
          have SGs5 := Lib.hid sg5
          have HCAP5 := Lib.hid hcap5
          have hnb5 : es5.length * 768 ≤ 140737488355328 := by rw [ES5.out.len]; exact Nat.le_trans HBY5.out hL
          have cls5 := sg5.box.cell 5 _ V6.out
          rw [WS5.out] at cls5
          clear own5 hWs5 kp5 hcs6 row5 hes5 hby5 sg5 sz5 sm5 ba5 hg5 hli5 hat5 hnil5 hcap5
          go_wp2_with fail
          rw [← WS5.out]
          go_loopw [82] (fun i wr => ∃ k : Nat, k ≤ es5.length ∧ i = .int .i64 k ∧ Stg w wr cs6 zs ∧ LpI F L w.heap.size 89 92 kWaiting W5 wr g5 es5.length k5 (dxs ds 5) ∧ (es5.length = 0 → wr = Ws5)) (fun i _ => es5.length - (intOf i).toNat)
          case atStart => exact ⟨0, by omega, rfl, SGs5.out, HLI5.out, fun _ => rfl⟩
          case round =>
            obtain ⟨k, hk, rfl, sg, li, hnw⟩ := hrel
            have SG := Lib.hid sg
            have LI := Lib.hid li
            have HNW := Lib.hid hnw
            clear sg li hnw
            by_cases hlt : k < es5.length
            · have hp5 : p5 = some ⟨g5, 0, none⟩ := by
                rcases HG5.out with h | h
                · omega
                · exact h
              subst hp5
              have GLO := Lib.hid ((LI.out.part k hlt 0 0 (by decide)).2.2)
              obtain ⟨⟨vs0, dv0, pt0⟩, th0, _⟩ := LI.out.part k hlt 2 72 (by decide)
              have S0 := Lib.hid (show StB w.heap.size 5 (.slice (some ⟨g5, 0, none⟩) es5.length k5) wr from SG.out.box.cell 5 _ V6.out)
              have c0k0 := SG.out.box.cell 5 _ V6.out
              have PT0 := Lib.hid pt0
              have RG0 := Lib.hid (show wr.drew.rangeAt g5 (k * 89 + 2) vs0 from pt0.rng)
              have HI0 := Lib.hid (show (Try.prog.info? 78).map (·.size) = some vs0.length by rw [infoAbility, pt0.len])
              clear pt0 th0
              go_wp2_with fail
              refine wp_region_noPanic ?_
              refine wp_region_held_drew (S := StB w.heap.size 5 (.slice (some ⟨g5, 0, none⟩) es5.length k5)) (by kernel_rfl) (S0.out) (fun hHeld => ?_)
              refine wpAnyH_take (i := 0) (oi := ?oiA50x) (v := ?vA50x) ?hiA50x (by kernel_rfl) (by kernel_rfl) (by kernel_rfl) ?hqA50x ?hyA50x (by assumption) ?restA50x
              case hiA50x => (simp only [List.getElem?_toArray, List.getElem?_cons_zero] <;> rfl)
              case hqA50x => exact fun _ _ _ h => h
              case hyA50x => exact Or.inl ⟨by rfl, by (intro wS hSw; have s49 : wS.cell? ⟨w.heap.size, 5, none⟩ = some (.slice (some ⟨g5, 0, none⟩) es5.length k5) := hSw; go_simp; try with_reducible rfl)⟩
              try simp only [Act.put, List.setIfInBounds_toArray, List.set_cons_zero, List.set_cons_succ]
              refine wpAnyH_take (i := 1) (oi := ?oiA51x) (v := ?vA51x) ?hiA51x (by kernel_rfl) (by kernel_rfl) (by kernel_rfl) ?hqA51x ?hyA51x (by assumption) ?restA51x
              case hiA51x => (simp only [List.getElem?_toArray, List.getElem?_cons_succ, List.getElem?_cons_zero] <;> rfl)
              case hqA51x => exact fun _ _ _ h => h
              case hyA51x => exact Or.inl ⟨by rfl, by (intro wS hSw; have s49 : wS.cell? ⟨w.heap.size, 5, none⟩ = some (.slice (some ⟨g5, 0, none⟩) es5.length k5) := hSw; go_simp; try with_reducible rfl)⟩
              try simp only [Act.put, List.setIfInBounds_toArray, List.set_cons_zero, List.set_cons_succ]
              refine wpAnyH_take (i := 2) (oi := ?oiA52x) (v := ?vA52x) ?hiA52x (by kernel_rfl) (by kernel_rfl) (by kernel_rfl) ?hqA52x ?hyA52x (by assumption) ?restA52x
              case hiA52x => (simp only [List.getElem?_toArray, List.getElem?_cons_succ, List.getElem?_cons_zero] <;> rfl)
              case hqA52x => exact fun _ _ _ h => h
              case hyA52x => exact Or.inl ⟨by rfl, by (intro wS hSw; have s49 : wS.cell? ⟨w.heap.size, 5, none⟩ = some (.slice (some ⟨g5, 0, none⟩) es5.length k5) := hSw; go_simp; try with_reducible rfl)⟩
              try simp only [Act.put, List.setIfInBounds_toArray, List.set_cons_zero, List.set_cons_succ]
              refine wpAnyH_take (i := 3) (oi := ?oiA53x) (v := ?vA53x) ?hiA53x (by kernel_rfl) (by kernel_rfl) (by kernel_rfl) ?hqA53x ?hyA53x (by assumption) ?restA53x
              case hiA53x => (simp only [List.getElem?_toArray, List.getElem?_cons_succ, List.getElem?_cons_zero] <;> rfl)
              case hqA53x => exact fun _ _ _ h => h
              case hyA53x => exact Or.inl ⟨by rfl, by (intro wS hSw; have s49 : wS.cell? ⟨w.heap.size, 5, none⟩ = some (.slice (some ⟨g5, 0, none⟩) es5.length k5) := hSw; go_simp; try with_reducible rfl)⟩
              try simp only [Act.put, List.setIfInBounds_toArray, List.set_cons_zero, List.set_cons_succ]
              refine wpAnyH_take (i := 4) (oi := ?oiA54x) (v := ?vA54x) ?hiA54x (by kernel_rfl) (by kernel_rfl) (by kernel_rfl) ?hqA54x ?hyA54x (by assumption) ?restA54x
              case hiA54x => (simp only [List.getElem?_toArray, List.getElem?_cons_succ, List.getElem?_cons_zero] <;> rfl)
              case hqA54x => exact fun _ _ _ h => h
              case hyA54x => exact Or.inl ⟨by rfl, by (intro wS hSw; have s49 : wS.cell? ⟨w.heap.size, 5, none⟩ = some (.slice (some ⟨g5, 0, none⟩) es5.length k5) := hSw; go_simp; try with_reducible rfl)⟩
              try simp only [Act.put, List.setIfInBounds_toArray, List.set_cons_zero, List.set_cons_succ]
              refine wpAnyH_take (i := 5) (oi := ?oiA55x) (v := ?vA55x) ?hiA55x (by kernel_rfl) (by kernel_rfl) (by kernel_rfl) ?hqA55x ?hyA55x (by assumption) ?restA55x
              case hiA55x => (simp only [List.getElem?_toArray, List.getElem?_cons_succ, List.getElem?_cons_zero] <;> rfl)
              case hqA55x => exact fun _ _ _ h => h
              case hyA55x => exact Or.inl ⟨by rfl, by (intro wS hSw; have s49 : wS.cell? ⟨w.heap.size, 5, none⟩ = some (.slice (some ⟨g5, 0, none⟩) es5.length k5) := hSw; go_simp; try with_reducible rfl)⟩
              try simp only [Act.put, List.setIfInBounds_toArray, List.set_cons_zero, List.set_cons_succ]
              refine wpAnyH_take (i := 6) (oi := ?oiA56x) (v := ?vA56x) ?hiA56x (by kernel_rfl) (by kernel_rfl) (by kernel_rfl) ?hqA56x ?hyA56x (by assumption) ?restA56x
              case hiA56x => (simp only [List.getElem?_toArray, List.getElem?_cons_succ, List.getElem?_cons_zero] <;> rfl)
              case hqA56x => exact fun _ _ _ h => h
              case hyA56x => exact Or.inl ⟨by rfl, by (intro wS hSw; have s49 : wS.cell? ⟨w.heap.size, 5, none⟩ = some (.slice (some ⟨g5, 0, none⟩) es5.length k5) := hSw; go_simp; try with_reducible rfl)⟩
              try simp only [Act.put, List.setIfInBounds_toArray, List.set_cons_zero, List.set_cons_succ]
              refine wpAnyH_take (i := 7) (oi := ?oiA57x) (v := ?vA57x) ?hiA57x (by kernel_rfl) (by kernel_rfl) (by kernel_rfl) ?hqA57x ?hyA57x (by assumption) ?restA57x
              case hiA57x => (simp only [List.getElem?_toArray, List.getElem?_cons_succ, List.getElem?_cons_zero] <;> rfl)
              case hqA57x => exact fun _ _ _ h => h
              case hyA57x => exact Or.inl ⟨by rfl, by (intro wS hSw; have s49 : wS.cell? ⟨w.heap.size, 5, none⟩ = some (.slice (some ⟨g5, 0, none⟩) es5.length k5) := hSw; go_simp; try with_reducible rfl)⟩
              try simp only [Act.put, List.setIfInBounds_toArray, List.set_cons_zero, List.set_cons_succ]
              refine wpAnyH_ready (rs := [8]) (by kernel_rfl) (by simp) ?_
              refine AllReadyH.cons (o := ?oiA58x) ?hiA58x (fun K hK => ?hsA58x) AllReadyH.nil
              case hiA58x => (simp only [List.getElem?_toArray, List.getElem?_cons_succ, List.getElem?_cons_zero] <;> rfl)
              refine step_load_mid rfl 78 (.tmp 92) rfl g5 (k * 89 + 2) (by simp [Act.eval]) vs0 _ RG0.out Try.underlying78 rfl HI0.out ?_
              refine hK.out _ _ S0.out (fun hHeld8 => ?_)
              clear hHeld8
              clear hK K
              try simp only [Act.put, List.setIfInBounds_toArray, List.set_cons_zero, List.set_cons_succ]
              refine wpAnyH_ready (rs := [9]) (by kernel_rfl) (by simp) ?_
              refine AllReadyH.cons (o := ?oiA59x) ?hiA59x (fun K hK => ?hsA59x) AllReadyH.nil
              case hiA59x => (simp only [List.getElem?_toArray, List.getElem?_cons_succ, List.getElem?_cons_zero] <;> rfl)
              go_simp
              refine (copyAbility (Ft F w.heap.size W5.heap.size (some g5)) L vs0 dv0 wr.drew (PT0.out.rd.old (Below.refl _ _).drew) hL).mono ?_
              rintro e w50 ⟨cw50, rfl, rd5, b5⟩
              have Bw50 := Lib.hid (show Below wr.heap.size wr w50 from (Below.refl _ _).drew.trans b5)
              have RDw50 := Lib.hid (show RdL (Ft F w.heap.size W5.heap.size (some g5)) L w50 ((kWaiting.drop 2).take 72) cw50 dv0 from rd5.imp (fun b hb _ => by
                rcases hb with hb | hb
                · exact hb.1
                · exact .inr ⟨Nat.le_trans LI.out.kp.1 hb, fun e => by cases e; exact absurd hb (Nat.not_le.2 PT0.out.glt)⟩))
              have LNw50 := Lib.hid (show cw50.length = 72 by rw [rd5.len.1]; exact kAbility_len)
              have Sw50 := Lib.hid (show StB w.heap.size 5 (.slice (some ⟨g5, 0, none⟩) es5.length k5) w50 from (Bw50.out.cell (p := ⟨w.heap.size, 5, none⟩) SG.out.box.lt).trans S0.out)
              have THw50 := Lib.hid (show w50.there g5 (k * 89 + 2) cw50.length by rw [LNw50.out]; exact ((LI.out.old Bw50.out).part k hlt 2 72 (by decide)).2.1)
              have HIw50 := Lib.hid (show (Try.prog.info? 78).map (·.size) = some cw50.length by rw [infoAbility, LNw50.out])
              clear rd5 b5
              refine hK.out _ _ Sw50.out (fun hHeld9 => ?_)
              clear hK K
              try simp only [Act.put, List.setIfInBounds_toArray, List.set_cons_zero, List.set_cons_succ]
              refine wpAnyH_take (i := 10) (oi := ?oiA510x) (v := ?vA510x) ?hiA510x (by kernel_rfl) (by kernel_rfl) (by kernel_rfl) ?hqA510x ?hyA510x (by assumption) ?restA510x
              case hiA510x => (simp only [List.getElem?_toArray, List.getElem?_cons_succ, List.getElem?_cons_zero] <;> rfl)
              case hqA510x => exact fun _ _ _ h => h
              case hyA510x => exact Or.inl ⟨by rfl, by (intro wS hSw; have s49 : wS.cell? ⟨w.heap.size, 5, none⟩ = some (.slice (some ⟨g5, 0, none⟩) es5.length k5) := hSw; go_simp; try with_reducible rfl)⟩
              try simp only [Act.put, List.setIfInBounds_toArray, List.set_cons_zero, List.set_cons_succ]
              refine wpAnyH_take (i := 11) (oi := ?oiA511x) (v := ?vA511x) ?hiA511x (by kernel_rfl) (by kernel_rfl) (by kernel_rfl) ?hqA511x ?hyA511x (by assumption) ?restA511x
              case hiA511x => (simp only [List.getElem?_toArray, List.getElem?_cons_succ, List.getElem?_cons_zero] <;> rfl)
              case hqA511x => exact fun _ _ _ h => h
              case hyA511x => exact Or.inl ⟨by rfl, by (intro wS hSw; have s49 : wS.cell? ⟨w.heap.size, 5, none⟩ = some (.slice (some ⟨g5, 0, none⟩) es5.length k5) := hSw; go_simp; try with_reducible rfl)⟩
              try simp only [Act.put, List.setIfInBounds_toArray, List.set_cons_zero, List.set_cons_succ]
              refine wpAnyH_ready (rs := [12]) (by kernel_rfl) (by simp) ?_
              refine AllReadyH.cons (o := ?oiA512x) ?hiA512x (fun K hK => ?hsA512x) AllReadyH.nil
              case hiA512x => (simp only [List.getElem?_toArray, List.getElem?_cons_succ, List.getElem?_cons_zero] <;> rfl)
              refine step_store_mid rfl 78 (.tmp 96) (.tmp 94) rfl g5 (k * 89 + 2) cw50 (by simp [Act.eval]) (by simp [Act.eval]) THw50.out HIw50.out RDw50.out.one ?_
              have LI6 := Lib.hid (LI.out.put hlt PT0.out Bw50.out cw50 RDw50.out LNw50.out (by decide))
              have SG6 := Lib.hid ((SG.out.old Bw50.out).far (sets_size _ _ _ _) (below_sets _ _ _ (SG.out.bel.trans (Bw50.out.mono SG.out.bel.size)) _ (by have := GLO.out; have := SG5.out.siz; omega)) (heap_sets g5 cw50 (k * 89 + 2) _ _ (by have := GLO.out; have := SG5.out.siz; omega)) (heap_sets g5 cw50 (k * 89 + 2) _ _ (by have := GLO.out; have := SG5.out.siz; omega)))
              have S6 := Lib.hid (show StB w.heap.size 5 (.slice (some ⟨g5, 0, none⟩) es5.length k5) (w50.setCells g5 (k * 89 + 2) cw50) from SG6.out.box.cell 5 _ V6.out)
              refine hK.out _ _ S6.out (fun hHeld12 => ?_)
              clear hK K
              try simp only [Act.put]
              refine wpAnyH_done (by kernel_rfl) ?_ _
              refine NoPanic.normal ?_
              obtain ⟨wm0, hwm0⟩ : ∃ W, W = w50.setCells g5 (k * 89 + 2) cw50 := ⟨_, rfl⟩
              have LIN := LI6
              have SGN := SG6
              change Hid (LpI _ _ _ _ _ _ _ (w50.setCells g5 (k * 89 + 2) cw50) _ _ _ _) at LIN
              change Hid (Stg _ (w50.setCells g5 (k * 89 + 2) cw50) _ _) at SGN
              rw [← hwm0] at LIN SGN
              have HWM0 := Lib.hid hwm0
              clear hwm0 LI SG LI6 SG6 S6 c0k0
              have LI := LIN
              have SG := SGN
              clear LIN SGN
              go_wp2_with fail
              rw [← HWM0.out]
              go_round
              case rel => exact ⟨k + 1, by omega, by go_num, SG.out, LI.out, fun h => by omega⟩
              case measure => simp [intOf]; omega
            · obtain rfl : k = es5.length := by omega
              obtain ⟨W6, rfl⟩ : ∃ W, W = wr := ⟨_, rfl⟩
              have P5 := Lib.hid (ownX_of LI.out HG5.out OWN5.out ES5.out.len.symm (fun h0 => by rw [HNW.out h0]; exact Nat.le_refl _) (fun h0 b _ _ => by rw [HNW.out h0]))
              have KL5 := Lib.hid LI.out.kp
              have SG6 := SG
              have cn := SG6.out.box.cell 6 _ U6x6.out
              clear LI HLI5 SGs5 HNW
              go_wp2_with fail

              obtain ⟨es6, row6, hes6, hby6⟩ := R6.out.row (k := 6) rfl
              have ES6 := Lib.hid hes6
              have HBY6 := Lib.hid hby6
              refine (cloneCont sv6 es6 W6 (row6.below SG6.out.bel) (by rw [hes6.len]; omega)).mono ?_
              rintro e wa6 ⟨v6, rfl, own6, ba6⟩
              obtain ⟨p6, n6, k6, rfl⟩ := own_sl own6
              obtain ⟨rfl, hcap6, hnil6, hat6⟩ := own_cap own6
              have ca6 := (SG6.out.old ba6).box.cell 6 _ U6x6.out
              have fa6 := (SG6.out.old ba6).box.frozen 6
              obtain ⟨cs7, hcs7⟩ : ∃ l, l = cs6.set 6 (.slice p6 es6.length k6) := ⟨_, rfl⟩
              have hl7 : cs7.length = 19 := by rw [hcs7, List.length_set]; exact hl6
              obtain ⟨Ws6, hWs6, sg6, kp6, sz6, sm6⟩ := SG6.out.store ba6 6 (.slice p6 es6.length k6)
              rw [← hcs7] at sg6
              have U7x16 := Lib.hid (show cs7[16]? = some sv16 by rw [hcs7, List.getElem?_set_ne (by decide)]; exact U6x16.out)
              have V7 := Lib.hid (show cs7[6]? = some (.slice p6 es6.length k6) by rw [hcs7, List.getElem?_set_self (by rw [hl6]; decide)])
              have HCS7 := Lib.hid hcs7
              have KP6 := Lib.hid kp6
              have OWN6 := Lib.hid (ownsRow_same own6 (fun g hg => sm6 g (by have := (own6.lt g hg).1; have := SG6.out.siz; omega)))
              have WS6 := Lib.hid hWs6
              obtain ⟨g6, hg6, hli6⟩ : ∃ g6, (es6.length = 0 ∨ p6 = some ⟨g6, 0, none⟩) ∧ LpI F L w.heap.size 6 94 kCont W6 Ws6 g6 es6.length k6 (dxs ds 6) := by
                rcases own_form OWN6.out with ⟨cap, hv, h0⟩ | ⟨g, cap, hv⟩
                · exact ⟨0, .inl h0, KP6.out, .inl h0⟩
                · simp only [Value.slice.injEq] at hv
                  obtain ⟨rfl, _, rfl⟩ := hv
                  have hgw := (OWN6.out.lt g rfl).1
                  have hsz := SG6.out.siz
                  refine ⟨g, .inr rfl, KP6.out, .inr ⟨hcap6, hdC_of OWN6.out, es6, rfl, own_blkC OWN6.out rfl, ES6.out.frame (Nat.le_refl _) sg6.bel.size (fun b _ hlt => sg6.bel.block b hlt) (fun b hF hlt => .inl ⟨hF, hlt⟩), fun b hb => ?_⟩⟩
                  rcases hb with hb | hb
                  · omega
                  · exact fun e => hb.2 (by rw [e])
              have HG6 := Lib.hid hg6
              have HLI6 := Lib.hid hli6
              have SGs6 := Lib.hid sg6
              have HCAP6 := Lib.hid hcap6
              have hnb6 : es6.length * 80 ≤ 140737488355328 := by rw [ES6.out.len]; exact Nat.le_trans HBY6.out hL
              have cls6 := sg6.box.cell 6 _ V7.out
              rw [WS6.out] at cls6
              clear own6 hWs6 kp6 hcs7 row6 hes6 hby6 sg6 sz6 sm6 ba6 hg6 hli6 hat6 hnil6 hcap6
              go_wp2_with fail
              rw [← WS6.out]
              go_loopw [105] (fun i wr => ∃ k : Nat, k ≤ es6.length ∧ i = .int .i64 k ∧ Stg w wr cs7 zs ∧ LpI F L w.heap.size 6 94 kCont W6 wr g6 es6.length k6 (dxs ds 6) ∧ (es6.length = 0 → wr = Ws6)) (fun i _ => es6.length - (intOf i).toNat)
              case atStart => exact ⟨0, by omega, rfl, SGs6.out, HLI6.out, fun _ => rfl⟩
              case round =>
                obtain ⟨k, hk, rfl, sg, li, hnw⟩ := hrel
                have SG := Lib.hid sg
                have LI := Lib.hid li
                have HNW := Lib.hid hnw
                clear sg li hnw
                by_cases hlt : k < es6.length
                · have hp6 : p6 = some ⟨g6, 0, none⟩ := by
                    rcases HG6.out with h | h
                    · omega
                    · exact h
                  subst hp6
                  have GLO := Lib.hid ((LI.out.part k hlt 0 0 (by decide)).2.2)
                  obtain ⟨⟨vs0, dv0, pt0⟩, th0, _⟩ := LI.out.part k hlt 4 1 (by decide)
                  have S0 := Lib.hid (show StB w.heap.size 6 (.slice (some ⟨g6, 0, none⟩) es6.length k6) wr from SG.out.box.cell 6 _ V7.out)
                  have c0k0 := SG.out.box.cell 6 _ V7.out
                  have PT0 := Lib.hid pt0
                  obtain ⟨m0, ms0, rfl, rfl, rm0, cm0⟩ := pt0.one (e' := (kI 1)) (by_ := 8) rfl
                  have RM0 := Lib.hid rm0
                  clear rm0 th0 pt0
                  go_wp2_with fail
                  refine wp_region_noPanic ?_
                  refine wp_region_held_drew (S := StB w.heap.size 6 (.slice (some ⟨g6, 0, none⟩) es6.length k6)) (by kernel_rfl) (S0.out) (fun hHeld => ?_)
                  refine wpAnyH_take (i := 0) (oi := ?oiA60x) (v := ?vA60x) ?hiA60x (by kernel_rfl) (by kernel_rfl) (by kernel_rfl) ?hqA60x ?hyA60x (by assumption) ?restA60x
                  case hiA60x => (simp only [List.getElem?_toArray, List.getElem?_cons_zero] <;> rfl)
                  case hqA60x => exact fun _ _ _ h => h
                  case hyA60x => exact Or.inl ⟨by rfl, by (intro wS hSw; have s49 : wS.cell? ⟨w.heap.size, 6, none⟩ = some (.slice (some ⟨g6, 0, none⟩) es6.length k6) := hSw; go_simp; try with_reducible rfl)⟩
                  try simp only [Act.put, List.setIfInBounds_toArray, List.set_cons_zero, List.set_cons_succ]
                  refine wpAnyH_take (i := 1) (oi := ?oiA61x) (v := ?vA61x) ?hiA61x (by kernel_rfl) (by kernel_rfl) (by kernel_rfl) ?hqA61x ?hyA61x (by assumption) ?restA61x
                  case hiA61x => (simp only [List.getElem?_toArray, List.getElem?_cons_succ, List.getElem?_cons_zero] <;> rfl)
                  case hqA61x => exact fun _ _ _ h => h
                  case hyA61x => exact Or.inl ⟨by rfl, by (intro wS hSw; have s49 : wS.cell? ⟨w.heap.size, 6, none⟩ = some (.slice (some ⟨g6, 0, none⟩) es6.length k6) := hSw; go_simp; try with_reducible rfl)⟩
                  try simp only [Act.put, List.setIfInBounds_toArray, List.set_cons_zero, List.set_cons_succ]
                  refine wpAnyH_take (i := 2) (oi := ?oiA62x) (v := ?vA62x) ?hiA62x (by kernel_rfl) (by kernel_rfl) (by kernel_rfl) ?hqA62x ?hyA62x (by assumption) ?restA62x
                  case hiA62x => (simp only [List.getElem?_toArray, List.getElem?_cons_succ, List.getElem?_cons_zero] <;> rfl)
                  case hqA62x => exact fun _ _ _ h => h
                  case hyA62x => exact Or.inl ⟨by rfl, by (intro wS hSw; have s49 : wS.cell? ⟨w.heap.size, 6, none⟩ = some (.slice (some ⟨g6, 0, none⟩) es6.length k6) := hSw; go_simp; try with_reducible rfl)⟩
                  try simp only [Act.put, List.setIfInBounds_toArray, List.set_cons_zero, List.set_cons_succ]
                  refine wpAnyH_take (i := 3) (oi := ?oiA63x) (v := ?vA63x) ?hiA63x (by kernel_rfl) (by kernel_rfl) (by kernel_rfl) ?hqA63x ?hyA63x (by assumption) ?restA63x
                  case hiA63x => (simp only [List.getElem?_toArray, List.getElem?_cons_succ, List.getElem?_cons_zero] <;> rfl)
                  case hqA63x => exact fun _ _ _ h => h
                  case hyA63x => exact Or.inl ⟨by rfl, by (intro wS hSw; have s49 : wS.cell? ⟨w.heap.size, 6, none⟩ = some (.slice (some ⟨g6, 0, none⟩) es6.length k6) := hSw; go_simp; try with_reducible rfl)⟩
                  try simp only [Act.put, List.setIfInBounds_toArray, List.set_cons_zero, List.set_cons_succ]
                  refine wpAnyH_take (i := 4) (oi := ?oiA64x) (v := ?vA64x) ?hiA64x (by kernel_rfl) (by kernel_rfl) (by kernel_rfl) ?hqA64x ?hyA64x (by assumption) ?restA64x
                  case hiA64x => (simp only [List.getElem?_toArray, List.getElem?_cons_succ, List.getElem?_cons_zero] <;> rfl)
                  case hqA64x => exact fun _ _ _ h => h
                  case hyA64x => exact Or.inl ⟨by rfl, by (intro wS hSw; have s49 : wS.cell? ⟨w.heap.size, 6, none⟩ = some (.slice (some ⟨g6, 0, none⟩) es6.length k6) := hSw; go_simp; try with_reducible rfl)⟩
                  try simp only [Act.put, List.setIfInBounds_toArray, List.set_cons_zero, List.set_cons_succ]
                  refine wpAnyH_take (i := 5) (oi := ?oiA65x) (v := ?vA65x) ?hiA65x (by kernel_rfl) (by kernel_rfl) (by kernel_rfl) ?hqA65x ?hyA65x (by assumption) ?restA65x
                  case hiA65x => (simp only [List.getElem?_toArray, List.getElem?_cons_succ, List.getElem?_cons_zero] <;> rfl)
                  case hqA65x => exact fun _ _ _ h => h
                  case hyA65x => exact Or.inl ⟨by rfl, by (intro wS hSw; have s49 : wS.cell? ⟨w.heap.size, 6, none⟩ = some (.slice (some ⟨g6, 0, none⟩) es6.length k6) := hSw; go_simp; try with_reducible rfl)⟩
                  try simp only [Act.put, List.setIfInBounds_toArray, List.set_cons_zero, List.set_cons_succ]
                  refine wpAnyH_take (i := 6) (oi := ?oiA66x) (v := ?vA66x) ?hiA66x (by kernel_rfl) (by kernel_rfl) (by kernel_rfl) ?hqA66x ?hyA66x (by assumption) ?restA66x
                  case hiA66x => (simp only [List.getElem?_toArray, List.getElem?_cons_succ, List.getElem?_cons_zero] <;> rfl)
                  case hqA66x => exact fun _ _ _ h => h
                  case hyA66x => exact Or.inl ⟨by rfl, by (intro wS hSw; have s49 : wS.cell? ⟨w.heap.size, 6, none⟩ = some (.slice (some ⟨g6, 0, none⟩) es6.length k6) := hSw; go_simp; try with_reducible rfl)⟩
                  try simp only [Act.put, List.setIfInBounds_toArray, List.set_cons_zero, List.set_cons_succ]
                  refine wpAnyH_take (i := 7) (oi := ?oiA67x) (v := ?vA67x) ?hiA67x (by kernel_rfl) (by kernel_rfl) (by kernel_rfl) ?hqA67x ?hyA67x (by assumption) ?restA67x
                  case hiA67x => (simp only [List.getElem?_toArray, List.getElem?_cons_succ, List.getElem?_cons_zero] <;> rfl)
                  case hqA67x => exact fun _ _ _ h => h
                  case hyA67x => exact Or.inl ⟨by rfl, by (intro wS hSw; have s49 : wS.cell? ⟨w.heap.size, 6, none⟩ = some (.slice (some ⟨g6, 0, none⟩) es6.length k6) := hSw; go_simp; try with_reducible rfl)⟩
                  try simp only [Act.put, List.setIfInBounds_toArray, List.set_cons_zero, List.set_cons_succ]
                  refine wpAnyH_ready (rs := [8]) (by kernel_rfl) (by simp) ?_
                  refine AllReadyH.cons (o := ?oiA68x) ?hiA68x (fun K hK => ?hsA68x) AllReadyH.nil
                  case hiA68x => (simp only [List.getElem?_toArray, List.getElem?_cons_succ, List.getElem?_cons_zero] <;> rfl)
                  go_simp
                  refine hK.out _ _ S0.out (fun hHeld8 => ?_)
                  clear hHeld8
                  clear hK K
                  try simp only [Act.put, List.setIfInBounds_toArray, List.set_cons_zero, List.set_cons_succ]
                  refine wpAnyH_ready (rs := [9]) (by kernel_rfl) (by simp) ?_
                  refine AllReadyH.cons (o := ?oiA69x) ?hiA69x (fun K hK => ?hsA69x) AllReadyH.nil
                  case hiA69x => (simp only [List.getElem?_toArray, List.getElem?_cons_succ, List.getElem?_cons_zero] <;> rfl)
                  go_simp
                  refine (cloneFint _ L m0 ms0 wr.drew (RM0.out.old (Below.refl _ _).drew) hL).mono ?_
                  rintro e w50 ⟨pw50, nw50, kw50, rfl, q5, b5⟩
                  have Bw50 := Lib.hid (show Below wr.heap.size wr w50 from (Below.refl _ _).drew.trans b5)
                  have Qw50 := Lib.hid (q5 (Ft F w.heap.size W6.heap.size (some g6)) (fun b h1 _ => .inr ⟨Nat.le_trans LI.out.kp.1 h1, fun e => by cases e; exact absurd h1 (Nat.not_le.2 PT0.out.glt)⟩))
                  have Sw50 := Lib.hid (show StB w.heap.size 6 (.slice (some ⟨g6, 0, none⟩) es6.length k6) w50 from (Bw50.out.cell (p := ⟨w.heap.size, 6, none⟩) SG.out.box.lt).trans S0.out)
                  have c120 := (Bw50.out.cell (p := ⟨g6, k * 6 + 4, none⟩) PT0.out.glt).trans cm0
                  have f120 := (((LI.out.old Bw50.out).part k hlt 4 1 (by decide)).2.1 0 Nat.one_pos).2
                  clear q5 b5
                  refine hK.out _ _ Sw50.out (fun hHeld9 => ?_)
                  clear hK K
                  try simp only [Act.put, List.setIfInBounds_toArray, List.set_cons_zero, List.set_cons_succ]
                  refine wpAnyH_take (i := 10) (oi := ?oiA610x) (v := ?vA610x) ?hiA610x (by kernel_rfl) (by kernel_rfl) (by kernel_rfl) ?hqA610x ?hyA610x (by assumption) ?restA610x
                  case hiA610x => (simp only [List.getElem?_toArray, List.getElem?_cons_succ, List.getElem?_cons_zero] <;> rfl)
                  case hqA610x => exact fun _ _ _ h => h
                  case hyA610x => exact Or.inl ⟨by rfl, by (intro wS hSw; have s49 : wS.cell? ⟨w.heap.size, 6, none⟩ = some (.slice (some ⟨g6, 0, none⟩) es6.length k6) := hSw; go_simp; try with_reducible rfl)⟩
                  try simp only [Act.put, List.setIfInBounds_toArray, List.set_cons_zero, List.set_cons_succ]
                  refine wpAnyH_take (i := 11) (oi := ?oiA611x) (v := ?vA611x) ?hiA611x (by kernel_rfl) (by kernel_rfl) (by kernel_rfl) ?hqA611x ?hyA611x (by assumption) ?restA611x
                  case hiA611x => (simp only [List.getElem?_toArray, List.getElem?_cons_succ, List.getElem?_cons_zero] <;> rfl)
                  case hqA611x => exact fun _ _ _ h => h
                  case hyA611x => exact Or.inl ⟨by rfl, by (intro wS hSw; have s49 : wS.cell? ⟨w.heap.size, 6, none⟩ = some (.slice (some ⟨g6, 0, none⟩) es6.length k6) := hSw; go_simp; try with_reducible rfl)⟩
                  try simp only [Act.put, List.setIfInBounds_toArray, List.set_cons_zero, List.set_cons_succ]
                  refine wpAnyH_ready (rs := [12]) (by kernel_rfl) (by simp) ?_
                  refine AllReadyH.cons (o := ?oiA612x) ?hiA612x (fun K hK => ?hsA612x) AllReadyH.nil
                  case hiA612x => (simp only [List.getElem?_toArray, List.getElem?_cons_succ, List.getElem?_cons_zero] <;> rfl)
                  go_simp
                  have LI6 := Lib.hid (LI.out.put hlt PT0.out Bw50.out [.slice pw50 nw50 kw50] (.cons Qw50.out .nil) rfl (by decide))
                  have SG6 := Lib.hid ((SG.out.old Bw50.out).far (sets_size _ [.slice pw50 nw50 kw50] _ _) (below_sets _ _ _ (SG.out.bel.trans (Bw50.out.mono SG.out.bel.size)) _ (by have := GLO.out; have := SG6.out.siz; omega)) (heap_sets g6 [.slice pw50 nw50 kw50] (k * 6 + 4) _ _ (by have := GLO.out; have := SG6.out.siz; omega)) (heap_sets g6 [.slice pw50 nw50 kw50] (k * 6 + 4) _ _ (by have := GLO.out; have := SG6.out.siz; omega)))
                  have S6 := Lib.hid (show StB w.heap.size 6 (.slice (some ⟨g6, 0, none⟩) es6.length k6) (w50.setCell ⟨g6, k * 6 + 4, none⟩ (.slice pw50 nw50 kw50)) from SG6.out.box.cell 6 _ V7.out)
                  refine hK.out _ _ S6.out (fun hHeld12 => ?_)
                  clear hK K
                  try simp only [Act.put, List.setIfInBounds_toArray, List.set_cons_zero, List.set_cons_succ]
                  refine wpAnyH_done (by kernel_rfl) ?_ _
                  refine NoPanic.normal ?_
                  obtain ⟨wm0, hwm0⟩ : ∃ W, W = w50.setCell ⟨g6, k * 6 + 4, none⟩ (.slice pw50 nw50 kw50) := ⟨_, rfl⟩
                  have LIN := LI6
                  have SGN := SG6
                  change Hid (LpI _ _ _ _ _ _ _ (w50.setCell ⟨g6, k * 6 + 4, none⟩ (.slice pw50 nw50 kw50)) _ _ _ _) at LIN
                  change Hid (Stg _ (w50.setCell ⟨g6, k * 6 + 4, none⟩ (.slice pw50 nw50 kw50)) _ _) at SGN
                  rw [← hwm0] at LIN SGN
                  have HWM0 := Lib.hid hwm0
                  clear hwm0 LI SG LI6 SG6 S6 c0k0
                  have LI := LIN
                  have SG := SGN
                  clear LIN SGN
                  rw [← HWM0.out]
                  obtain ⟨⟨vs1, dv1, pt1⟩, th1, _⟩ := LI.out.part k hlt 5 1 (by decide)
                  have S1 := Lib.hid (show StB w.heap.size 6 (.slice (some ⟨g6, 0, none⟩) es6.length k6) wm0 from SG.out.box.cell 6 _ V7.out)
                  have c0k1 := SG.out.box.cell 6 _ V7.out
                  have PT1 := Lib.hid pt1
                  obtain ⟨m1, ms1, rfl, rfl, rm1, cm1⟩ := pt1.one (e' := kMod) (by_ := 176) rfl
                  have RM1 := Lib.hid rm1
                  clear rm1 th1 pt1
                  go_wp2_with fail
                  refine wp_region_noPanic ?_
                  refine wp_region_held_drew (S := StB w.heap.size 6 (.slice (some ⟨g6, 0, none⟩) es6.length k6)) (by kernel_rfl) (S1.out) (fun hHeld => ?_)
                  refine wpAnyH_take (i := 0) (oi := ?oiB60x) (v := ?vB60x) ?hiB60x (by kernel_rfl) (by kernel_rfl) (by kernel_rfl) ?hqB60x ?hyB60x (by assumption) ?restB60x
                  case hiB60x => (simp only [List.getElem?_toArray, List.getElem?_cons_zero] <;> rfl)
                  case hqB60x => exact fun _ _ _ h => h
                  case hyB60x => exact Or.inl ⟨by rfl, by (intro wS hSw; have s49 : wS.cell? ⟨w.heap.size, 6, none⟩ = some (.slice (some ⟨g6, 0, none⟩) es6.length k6) := hSw; go_simp; try with_reducible rfl)⟩
                  try simp only [Act.put, List.setIfInBounds_toArray, List.set_cons_zero, List.set_cons_succ]
                  refine wpAnyH_take (i := 1) (oi := ?oiB61x) (v := ?vB61x) ?hiB61x (by kernel_rfl) (by kernel_rfl) (by kernel_rfl) ?hqB61x ?hyB61x (by assumption) ?restB61x
                  case hiB61x => (simp only [List.getElem?_toArray, List.getElem?_cons_succ, List.getElem?_cons_zero] <;> rfl)
                  case hqB61x => exact fun _ _ _ h => h
                  case hyB61x => exact Or.inl ⟨by rfl, by (intro wS hSw; have s49 : wS.cell? ⟨w.heap.size, 6, none⟩ = some (.slice (some ⟨g6, 0, none⟩) es6.length k6) := hSw; go_simp; try with_reducible rfl)⟩
                  try simp only [Act.put, List.setIfInBounds_toArray, List.set_cons_zero, List.set_cons_succ]
                  refine wpAnyH_take (i := 2) (oi := ?oiB62x) (v := ?vB62x) ?hiB62x (by kernel_rfl) (by kernel_rfl) (by kernel_rfl) ?hqB62x ?hyB62x (by assumption) ?restB62x
                  case hiB62x => (simp only [List.getElem?_toArray, List.getElem?_cons_succ, List.getElem?_cons_zero] <;> rfl)
                  case hqB62x => exact fun _ _ _ h => h
                  case hyB62x => exact Or.inl ⟨by rfl, by (intro wS hSw; have s49 : wS.cell? ⟨w.heap.size, 6, none⟩ = some (.slice (some ⟨g6, 0, none⟩) es6.length k6) := hSw; go_simp; try with_reducible rfl)⟩
                  try simp only [Act.put, List.setIfInBounds_toArray, List.set_cons_zero, List.set_cons_succ]
                  refine wpAnyH_take (i := 3) (oi := ?oiB63x) (v := ?vB63x) ?hiB63x (by kernel_rfl) (by kernel_rfl) (by kernel_rfl) ?hqB63x ?hyB63x (by assumption) ?restB63x
                  case hiB63x => (simp only [List.getElem?_toArray, List.getElem?_cons_succ, List.getElem?_cons_zero] <;> rfl)
                  case hqB63x => exact fun _ _ _ h => h
                  case hyB63x => exact Or.inl ⟨by rfl, by (intro wS hSw; have s49 : wS.cell? ⟨w.heap.size, 6, none⟩ = some (.slice (some ⟨g6, 0, none⟩) es6.length k6) := hSw; go_simp; try with_reducible rfl)⟩
                  try simp only [Act.put, List.setIfInBounds_toArray, List.set_cons_zero, List.set_cons_succ]
                  refine wpAnyH_take (i := 4) (oi := ?oiB64x) (v := ?vB64x) ?hiB64x (by kernel_rfl) (by kernel_rfl) (by kernel_rfl) ?hqB64x ?hyB64x (by assumption) ?restB64x
                  case hiB64x => (simp only [List.getElem?_toArray, List.getElem?_cons_succ, List.getElem?_cons_zero] <;> rfl)
                  case hqB64x => exact fun _ _ _ h => h
                  case hyB64x => exact Or.inl ⟨by rfl, by (intro wS hSw; have s49 : wS.cell? ⟨w.heap.size, 6, none⟩ = some (.slice (some ⟨g6, 0, none⟩) es6.length k6) := hSw; go_simp; try with_reducible rfl)⟩
                  try simp only [Act.put, List.setIfInBounds_toArray, List.set_cons_zero, List.set_cons_succ]
                  refine wpAnyH_take (i := 5) (oi := ?oiB65x) (v := ?vB65x) ?hiB65x (by kernel_rfl) (by kernel_rfl) (by kernel_rfl) ?hqB65x ?hyB65x (by assumption) ?restB65x
                  case hiB65x => (simp only [List.getElem?_toArray, List.getElem?_cons_succ, List.getElem?_cons_zero] <;> rfl)
                  case hqB65x => exact fun _ _ _ h => h
                  case hyB65x => exact Or.inl ⟨by rfl, by (intro wS hSw; have s49 : wS.cell? ⟨w.heap.size, 6, none⟩ = some (.slice (some ⟨g6, 0, none⟩) es6.length k6) := hSw; go_simp; try with_reducible rfl)⟩
                  try simp only [Act.put, List.setIfInBounds_toArray, List.set_cons_zero, List.set_cons_succ]
                  refine wpAnyH_take (i := 6) (oi := ?oiB66x) (v := ?vB66x) ?hiB66x (by kernel_rfl) (by kernel_rfl) (by kernel_rfl) ?hqB66x ?hyB66x (by assumption) ?restB66x
                  case hiB66x => (simp only [List.getElem?_toArray, List.getElem?_cons_succ, List.getElem?_cons_zero] <;> rfl)
                  case hqB66x => exact fun _ _ _ h => h
                  case hyB66x => exact Or.inl ⟨by rfl, by (intro wS hSw; have s49 : wS.cell? ⟨w.heap.size, 6, none⟩ = some (.slice (some ⟨g6, 0, none⟩) es6.length k6) := hSw; go_simp; try with_reducible rfl)⟩
                  try simp only [Act.put, List.setIfInBounds_toArray, List.set_cons_zero, List.set_cons_succ]
                  refine wpAnyH_take (i := 7) (oi := ?oiB67x) (v := ?vB67x) ?hiB67x (by kernel_rfl) (by kernel_rfl) (by kernel_rfl) ?hqB67x ?hyB67x (by assumption) ?restB67x
                  case hiB67x => (simp only [List.getElem?_toArray, List.getElem?_cons_succ, List.getElem?_cons_zero] <;> rfl)
                  case hqB67x => exact fun _ _ _ h => h
                  case hyB67x => exact Or.inl ⟨by rfl, by (intro wS hSw; have s49 : wS.cell? ⟨w.heap.size, 6, none⟩ = some (.slice (some ⟨g6, 0, none⟩) es6.length k6) := hSw; go_simp; try with_reducible rfl)⟩
                  try simp only [Act.put, List.setIfInBounds_toArray, List.set_cons_zero, List.set_cons_succ]
                  refine wpAnyH_ready (rs := [8]) (by kernel_rfl) (by simp) ?_
                  refine AllReadyH.cons (o := ?oiB68x) ?hiB68x (fun K hK => ?hsB68x) AllReadyH.nil
                  case hiB68x => (simp only [List.getElem?_toArray, List.getElem?_cons_succ, List.getElem?_cons_zero] <;> rfl)
                  go_simp
                  refine hK.out _ _ S1.out (fun hHeld8 => ?_)
                  clear hHeld8
                  clear hK K
                  try simp only [Act.put, List.setIfInBounds_toArray, List.set_cons_zero, List.set_cons_succ]
                  refine wpAnyH_ready (rs := [9]) (by kernel_rfl) (by simp) ?_
                  refine AllReadyH.cons (o := ?oiB69x) ?hiB69x (fun K hK => ?hsB69x) AllReadyH.nil
                  case hiB69x => (simp only [List.getElem?_toArray, List.getElem?_cons_succ, List.getElem?_cons_zero] <;> rfl)
                  go_simp
                  refine (cloneFMod _ L m1 ms1 wm0.drew (RM1.out.old (Below.refl _ _).drew) hL).mono ?_
                  rintro e w51 ⟨pw51, nw51, kw51, rfl, q5, b5⟩
                  have Bw51 := Lib.hid (show Below wm0.heap.size wm0 w51 from (Below.refl _ _).drew.trans b5)
                  have Qw51 := Lib.hid (q5 (Ft F w.heap.size W6.heap.size (some g6)) (fun b h1 _ => .inr ⟨Nat.le_trans LI.out.kp.1 h1, fun e => by cases e; exact absurd h1 (Nat.not_le.2 PT1.out.glt)⟩))
                  have Sw51 := Lib.hid (show StB w.heap.size 6 (.slice (some ⟨g6, 0, none⟩) es6.length k6) w51 from (Bw51.out.cell (p := ⟨w.heap.size, 6, none⟩) SG.out.box.lt).trans S1.out)
                  have c121 := (Bw51.out.cell (p := ⟨g6, k * 6 + 5, none⟩) PT1.out.glt).trans cm1
                  have f121 := (((LI.out.old Bw51.out).part k hlt 5 1 (by decide)).2.1 0 Nat.one_pos).2
                  clear q5 b5
                  refine hK.out _ _ Sw51.out (fun hHeld9 => ?_)
                  clear hK K
                  try simp only [Act.put, List.setIfInBounds_toArray, List.set_cons_zero, List.set_cons_succ]
                  refine wpAnyH_take (i := 10) (oi := ?oiB610x) (v := ?vB610x) ?hiB610x (by kernel_rfl) (by kernel_rfl) (by kernel_rfl) ?hqB610x ?hyB610x (by assumption) ?restB610x
                  case hiB610x => (simp only [List.getElem?_toArray, List.getElem?_cons_succ, List.getElem?_cons_zero] <;> rfl)
                  case hqB610x => exact fun _ _ _ h => h
                  case hyB610x => exact Or.inl ⟨by rfl, by (intro wS hSw; have s49 : wS.cell? ⟨w.heap.size, 6, none⟩ = some (.slice (some ⟨g6, 0, none⟩) es6.length k6) := hSw; go_simp; try with_reducible rfl)⟩
                  try simp only [Act.put, List.setIfInBounds_toArray, List.set_cons_zero, List.set_cons_succ]
                  refine wpAnyH_take (i := 11) (oi := ?oiB611x) (v := ?vB611x) ?hiB611x (by kernel_rfl) (by kernel_rfl) (by kernel_rfl) ?hqB611x ?hyB611x (by assumption) ?restB611x
                  case hiB611x => (simp only [List.getElem?_toArray, List.getElem?_cons_succ, List.getElem?_cons_zero] <;> rfl)
                  case hqB611x => exact fun _ _ _ h => h
                  case hyB611x => exact Or.inl ⟨by rfl, by (intro wS hSw; have s49 : wS.cell? ⟨w.heap.size, 6, none⟩ = some (.slice (some ⟨g6, 0, none⟩) es6.length k6) := hSw; go_simp; try with_reducible rfl)⟩
                  try simp only [Act.put, List.setIfInBounds_toArray, List.set_cons_zero, List.set_cons_succ]
                  refine wpAnyH_ready (rs := [12]) (by kernel_rfl) (by simp) ?_
                  refine AllReadyH.cons (o := ?oiB612x) ?hiB612x (fun K hK => ?hsB612x) AllReadyH.nil
                  case hiB612x => (simp only [List.getElem?_toArray, List.getElem?_cons_succ, List.getElem?_cons_zero] <;> rfl)
                  go_simp
                  have LI6 := Lib.hid (LI.out.put hlt PT1.out Bw51.out [.slice pw51 nw51 kw51] (.cons Qw51.out .nil) rfl (by decide))
                  have SG6 := Lib.hid ((SG.out.old Bw51.out).far (sets_size _ [.slice pw51 nw51 kw51] _ _) (below_sets _ _ _ (SG.out.bel.trans (Bw51.out.mono SG.out.bel.size)) _ (by have := GLO.out; have := SG6.out.siz; omega)) (heap_sets g6 [.slice pw51 nw51 kw51] (k * 6 + 5) _ _ (by have := GLO.out; have := SG6.out.siz; omega)) (heap_sets g6 [.slice pw51 nw51 kw51] (k * 6 + 5) _ _ (by have := GLO.out; have := SG6.out.siz; omega)))
                  have S6 := Lib.hid (show StB w.heap.size 6 (.slice (some ⟨g6, 0, none⟩) es6.length k6) (w51.setCell ⟨g6, k * 6 + 5, none⟩ (.slice pw51 nw51 kw51)) from SG6.out.box.cell 6 _ V7.out)
                  refine hK.out _ _ S6.out (fun hHeld12 => ?_)
                  clear hK K
                  try simp only [Act.put, List.setIfInBounds_toArray, List.set_cons_zero, List.set_cons_succ]
                  refine wpAnyH_done (by kernel_rfl) ?_ _
                  refine NoPanic.normal ?_
                  obtain ⟨wm1, hwm1⟩ : ∃ W, W = w51.setCell ⟨g6, k * 6 + 5, none⟩ (.slice pw51 nw51 kw51) := ⟨_, rfl⟩
                  have LIN := LI6
                  have SGN := SG6
                  change Hid (LpI _ _ _ _ _ _ _ (w51.setCell ⟨g6, k * 6 + 5, none⟩ (.slice pw51 nw51 kw51)) _ _ _ _) at LIN
                  change Hid (Stg _ (w51.setCell ⟨g6, k * 6 + 5, none⟩ (.slice pw51 nw51 kw51)) _ _) at SGN
                  rw [← hwm1] at LIN SGN
                  have HWM1 := Lib.hid hwm1
                  clear hwm1 LI SG LI6 SG6 S6 c0k1
                  have LI := LIN
                  have SG := SGN
                  clear LIN SGN
                  go_wp2_with fail
                  rw [← HWM1.out]
                  go_round
                  case rel => exact ⟨k + 1, by omega, by go_num, SG.out, LI.out, fun h => by omega⟩
                  case measure => simp [intOf]; omega
                · obtain rfl : k = es6.length := by omega
                  obtain ⟨W7, rfl⟩ : ∃ W, W = wr := ⟨_, rfl⟩
                  have P6 := Lib.hid (ownX_of LI.out HG6.out OWN6.out ES6.out.len.symm (fun h0 => by rw [HNW.out h0]; exact Nat.le_refl _) (fun h0 b _ _ => by rw [HNW.out h0]))
                  have KL6 := Lib.hid LI.out.kp
                  have SG7 := SG
                  have cn := SG7.out.box.cell 16 _ U7x16.out
                  clear LI HLI6 SGs6 HNW
                  go_wp2_with fail

                  obtain ⟨es7, row7, hes7, hby7⟩ := R16.out.row (k := 1) rfl
                  have ES7 := Lib.hid hes7
                  have HBY7 := Lib.hid hby7
                  refine (cloneint sv16 es7 W7 (row7.below SG7.out.bel) (by rw [hes7.len]; omega)).mono ?_
                  rintro e wa7 ⟨v7, rfl, own7, ba7⟩
                  obtain ⟨p7, n7, k7, rfl⟩ := own_sl own7
                  obtain ⟨rfl, hcap7, hnil7, hat7⟩ := own_cap own7
                  have ca7 := (SG7.out.old ba7).box.cell 16 _ U7x16.out
                  have fa7 := (SG7.out.old ba7).box.frozen 16
                  obtain ⟨cs8, hcs8⟩ : ∃ l, l = cs7.set 16 (.slice p7 es7.length k7) := ⟨_, rfl⟩
                  have hl8 : cs8.length = 19 := by rw [hcs8, List.length_set]; exact hl7
                  obtain ⟨Ws7, hWs7, sg7, kp7, sz7, sm7⟩ := SG7.out.store ba7 16 (.slice p7 es7.length k7)
                  rw [← hcs8] at sg7
                  have V8 := Lib.hid (show cs8[16]? = some (.slice p7 es7.length k7) by rw [hcs8, List.getElem?_set_self (by rw [hl7]; decide)])
                  have HCS8 := Lib.hid hcs8
                  have KP7 := Lib.hid kp7
                  have OWN7 := Lib.hid (ownsRow_same own7 (fun g hg => sm7 g (by have := (own7.lt g hg).1; have := SG7.out.siz; omega)))
                  have WS7 := Lib.hid hWs7
                  have P7 := Lib.hid (show OwnIn W7.heap.size Ws7.heap.size Ws7 (.slice p7 es7.length k7) (dxs ds 16) from ⟨⟨es7, OWN7.out, es_any (flat_ints 1) ES7.out⟩, fun g hg => (OWN7.out.lt g hg).2⟩)
                  have E7 := Lib.hid KP7.out
                  have E6 := Lib.hid (KL6.out.chain E7.out)
                  have E5 := Lib.hid (KL5.out.chain E6.out)
                  have E4 := Lib.hid (KL4.out.chain E5.out)
                  have E3 := Lib.hid (KP3.out.chain E4.out)
                  have E2 := Lib.hid (KP2.out.chain E3.out)
                  have E1 := Lib.hid (KP1.out.chain E2.out)
                  have key : ∀ Wx, Kp (w.heap.size + 1) Ws7.heap.size Ws7 Wx → Below w.heap.size w Wx → ∃ ρ, OwnS ρ L w.heap.size Wx cs8 ds ∧ ∀ b, b < w.heap.size → ¬ F b → ρ b = .none := fun Wx hk hbx => by
                    have s1 := SG1.out.siz
                    have t1 := E1.out.1
                    have t2 := E2.out.1
                    have t3 := E3.out.1
                    have t4 := E4.out.1
                    have t5 := E5.out.1
                    have t6 := E6.out.1
                    have t7 := E7.out.1
                    have k1 := KP1.out.1
                    have k2 := KP2.out.1
                    have k3 := KP3.out.1
                    have k4 := KL4.out.1
                    have k5 := KL5.out.1
                    have k6 := KL6.out.1
                    have hne : w.heap.size < w.heap.size + 2 := by omega
                    exact ownS_of rfl ((P0.out.kp E1.out (by omega)).kp (hk.mono t1) (by omega)) ((P1.out.kp flatObject E2.out (by omega)).kp flatObject (hk.mono t2) (by omega)) ((P2.out.kp E3.out (by omega)).kp (hk.mono t3) (by omega)) ((P3.out.kp E4.out (by omega)).kp (hk.mono t4) (by omega))
                      ((P4.out.kp E5.out (Nat.le_refl _) (by omega)).kp hk (by omega) (by omega)) ((P5.out.kp E6.out (Nat.le_refl _) (by omega)).kp hk (by omega) (by omega)) ((P6.out.kp E7.out (Nat.le_refl _) (by omega)).kp hk (by omega) (by omega)) (P7.out.kp hk (by omega))
                      (by omega) k1 k2 k3 k4 k5 k6 flatObject HH.out hbx (by rw [HCS8.out, HCS7.out, HCS6.out, HCS5.out, HCS4.out, HCS3.out, HCS2.out, HCS1.out])
                  obtain ⟨ρ0, hρ0, _⟩ := key Ws7 (Kp.refl _ _ _) sg7.bel
                  have RG := sg7.box.range
                  have HI := Lib.hid (show (Try.prog.info? 30).map (·.size) = some cs8.length by rw [infoState, hl8])
                  have hst := store_cs Ws7 (w.heap.size + 1) cs8 (by
                    have e : cs8.length = zs.length := by rw [hl8, HZ.out]
                    rw [e]
                    exact sg7.res.there) hρ0.rd.one
                  have Z4 := Lib.hid (sg7.res.setAll cs8 (by rw [hl8, HZ.out]))
                  have SGE := Lib.hid sg7
                  have KEY := Lib.hid key
                  clear own7 hWs7 kp7 hcs8 row7 hes7 hby7 sg7 sz7 sm7 ba7 hat7 hnil7 hcap7 hρ0 key
                  rw [WS7.out] at RG hst
                  have RG := Lib.hid RG
                  go_wp2_with (with_reducible refine wpList_load_mid rfl 30 (.tmp 1) rfl w.heap.size 0 ?_ cs8 _ RG.out Try.underlying30 rfl HI.out ?_; simp [Act.eval])
                  rw [← WS7.out]
                  have bl4 : Below w.heap.size w (Ws7.setCells (w.heap.size + 1) 0 cs8) := below_sets _ _ _ SGE.out.bel _ (by omega)
                  refine bodyPost_ret (results_cs Try.results24 (w.heap.size + 1) ?_ cs8 _ (Bx.range Z4.out) Try.underlying30 rfl HI.out) rfl ?_
                  · rfl
                  · exact ⟨cs8, rfl, KEY.out _ ⟨by rw [sets_size]; exact Nat.le_refl _, fun b _ hn => heap_sets _ _ _ _ b hn⟩ bl4, bl4⟩
end Go.Proofs.Ytiebjkbofoppaaa
