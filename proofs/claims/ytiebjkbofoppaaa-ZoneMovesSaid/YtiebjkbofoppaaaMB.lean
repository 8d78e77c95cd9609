/- Parts of the proof, joined: Chapter 25: Copy of the program; Chapter 25: rows of structs: elements written, copied, appended; Chapter 25: slices.Insert of one element; Chapter 25: closures; slices.IndexFunc at them; slices.Index at ints; Chapter 25: slices.Delete at one object; Chapter 25: what the loop of slices.DeleteFunc keeps (plain); Chapter 25: slices.DeleteFunc at items and at ints; idset.Without; Chapter 25: idset.Without; list; Chapter 25: place, Find, List of the program; Chapter 25: changes of a state of the call's own; Chapter 25: the list of a zone, read and written through its pointer. -/
import Derived.Test.YtiebjkbofoppaaaMA
import Derived.Laws.IdiomCopy
import Derived.Lib.AppendZerosOnto
import Derived.Lib.Overlaps
import Derived.Shelf.Spec.SlicesInsertGrow
import Derived.Deep.RegionLaw
import Derived.Lib.SliceRun
section
namespace Go.Proofs.Ytiebjkbofoppaaa
open Go Go.RowKit Go.Sort Cg
theorem infoState : (Try.prog.info? 30).map (·.size) = some 19 := by kernel_rfl
theorem infoItem : (Try.prog.info? 83).map (·.size) = some 94 := by kernel_rfl
def StB (b c : Nat) (v : Value) (w : World) : Prop := w.cell? ⟨b, c, none⟩ = some v
theorem own_cap {w : World} {B e k n m c : Nat} {ao : Option Addr} {xs : List Value} (h : w.ownsRow B e k (.slice ao m c) n xs) : m = n ∧ n ≤ c ∧ (ao = none → c = 0) ∧ ∀ g, ao = some g → g.off = 0 ∧ g.spot = none := by
 rcases h.2 with ⟨hv, hn⟩ | ⟨g, cap, cur, hv, _, _, hc, _⟩
 ·simp only [Value.slice.injEq] at hv
  obtain ⟨rfl, rfl, rfl⟩ := hv
  exact ⟨hn.symm, by omega, fun _ => rfl, fun g hg => by cases hg⟩
 ·simp only [Value.slice.injEq] at hv
  obtain ⟨rfl, rfl, rfl⟩ := hv
  exact ⟨rfl, hc, (fun h => by cases h), (fun g hg => by cases hg; exact ⟨rfl, rfl⟩)⟩
theorem flatObject : flatK kObject := fun k hk => by
 have h : ∀ k ∈ kObject, (match k with
  | .lit _ => true
  | .sl _ _ => false) = true := by
  rw [← List.all_eq_true]
  rfl
 have := h k hk
 cases k with
 | lit l => exact ⟨l, rfl⟩
 | sl e b => cases this
theorem blk_there {k : Nat} {t : TypeId} {w : World} {g : Nat} {es : List (Cl k)} (h : BlkC k t w g es) (j : Nat) (hj : j < es.length) (y : Cl k) : w.there g (j * k) y.1.length := fun i hi => by
 rw [Cl.len] at hi
 have := h.cell j _ (List.getElem?_eq_getElem hj) i _ (List.getElem?_eq_getElem (show i < es[j].1.length by rw [Cl.len]; exact hi))
 exact ⟨by rw [this]; rfl, h.frozen _⟩
set_option maxRecDepth 100000 in
set_option maxHeartbeats 8000000 in
theorem copy_prog (F : Nat → Prop) (L : Nat) (cs : List Value) (ds : List D) (w : World) (h : RdL F L w kState cs ds) (hL : L ≤ 140737488355328) :
  Calls Try.prog 24 #[.agg cs.toArray] w fun e w' => ∃ cs', e = .returned (.agg cs'.toArray) ∧ (∃ ρ, OwnS ρ L w.heap.size w' cs' ds ∧ ∀ b, b < w.heap.size → ¬ F b → ρ b = .none) ∧ Below w.heap.size w w' := by
 have hl := h.len.1
 rw [kState_len] at hl
 have HH := Lib.hid h
 obtain ⟨sv0, x0, d0, r0⟩ := h.sl 0 _ _ rfl
 have R0 := Lib.hid r0
 have U0 := Lib.hid x0
 obtain ⟨sv1, x1, d1, r1⟩ := h.sl 1 _ _ rfl
 have R1 := Lib.hid r1
 have U1 := Lib.hid x1
 obtain ⟨sv2, x2, d2, r2⟩ := h.sl 2 _ _ rfl
 have R2 := Lib.hid r2
 have U2 := Lib.hid x2
 obtain ⟨sv3, x3, d3, r3⟩ := h.sl 3 _ _ rfl
 have R3 := Lib.hid r3
 have U3 := Lib.hid x3
 obtain ⟨sv4, x4, d4, r4⟩ := h.sl 4 _ _ rfl
 have R4 := Lib.hid r4
 have U4 := Lib.hid x4
 obtain ⟨sv5, x5, d5, r5⟩ := h.sl 5 _ _ rfl
 have R5 := Lib.hid r5
 have U5 := Lib.hid x5
 obtain ⟨sv6, x6, d6, r6⟩ := h.sl 6 _ _ rfl
 have R6 := Lib.hid r6
 have U6 := Lib.hid x6
 obtain ⟨sv16, x16, d16, r16⟩ := h.sl 16 _ _ rfl
 have R16 := Lib.hid r16
 have U16 := Lib.hid x16
 have e1 : cs[0] = sv0 := (List.getElem?_eq_some_iff.1 x0).2
 obtain ⟨zs, hzs⟩ : ∃ zs : List Value, zs = [.slice none 0 0, .slice none 0 0, .slice none 0 0, .slice none 0 0, .slice none 0 0, .slice none 0 0, .slice none 0 0, .int .i64 0, .int .i64 0, .int .i64 0, .bool false, .int .i64 0, .int .i64 0, .int .i64 0, .int .i64 0, .int .u64 0, .slice none 0 0, .int .i64 0, .int .i64 0] := ⟨_, rfl⟩
 obtain ⟨W0, hW0⟩ : ∃ W, W = (w.alloc (.cells cs.toArray 30)).alloc (.cells zs.toArray 30) := ⟨_, rfl⟩
 have hsz : (w.alloc (.cells cs.toArray 30)).heap.size = w.heap.size + 1 := by simp
 have SG0 := Lib.hid (show Stg w W0 cs zs from ⟨by rw [hW0]; exact (Bx.new _ _ _).old ((Below.refl _ _).alloc (Nat.le_refl _) _), by rw [hW0, ← hsz]; exact Bx.new _ _ _, by rw [hW0]; exact ((Below.refl w.heap.size w).alloc (Nat.le_refl _) _).alloc (by rw [hsz]; omega) _, by rw [hW0]; simp⟩)
 have HW0 := Lib.hid (show W0 = _ by rw [hW0, hzs])
 have HZ := Lib.hid (show zs.length = 19 by rw [hzs]; rfl)
 clear x0 d0 r0 x1 d1 r1 x2 d2 r2 x3 d3 r3 x4 d4 r4 x5 d5 r5 x6 d6 r6 x16 d16 r16 hzs hW0 hsz h
 go_enter Try.func24, Try.ntmps24
 go_wp2_with fail
 rw [← HW0.out]
 obtain ⟨es0, row0, hes0, hby0⟩ := R0.out.row (k := 14) rfl
 have ES0 := Lib.hid hes0
 have HBY0 := Lib.hid hby0
 refine (clonePlayer sv0 es0 W0 (row0.below SG0.out.bel) (by rw [hes0.len]; omega)).mono ?_
 rintro e wa0 ⟨v0, rfl, own0, ba0⟩
 obtain ⟨p0, n0, k0, rfl⟩ := own_sl own0
 obtain ⟨rfl, hcap0, hnil0, hat0⟩ := own_cap own0
 have ca0 := (SG0.out.old ba0).box.cell 0 _ U0.out
 have fa0 := (SG0.out.old ba0).box.frozen 0
 obtain ⟨cs1, hcs1⟩ : ∃ l, l = cs.set 0 (.slice p0 es0.length k0) := ⟨_, rfl⟩
 have hl1 : cs1.length = 19 := by rw [hcs1, List.length_set]; exact hl
 obtain ⟨Ws0, hWs0, sg0, kp0, sz0, sm0⟩ := SG0.out.store ba0 0 (.slice p0 es0.length k0)
 rw [← hcs1] at sg0
 have U1x1 := Lib.hid (show cs1[1]? = some sv1 by rw [hcs1, List.getElem?_set_ne (by decide)]; exact U1.out)
 have U1x2 := Lib.hid (show cs1[2]? = some sv2 by rw [hcs1, List.getElem?_set_ne (by decide)]; exact U2.out)
 have U1x3 := Lib.hid (show cs1[3]? = some sv3 by rw [hcs1, List.getElem?_set_ne (by decide)]; exact U3.out)
 have U1x4 := Lib.hid (show cs1[4]? = some sv4 by rw [hcs1, List.getElem?_set_ne (by decide)]; exact U4.out)
 have U1x5 := Lib.hid (show cs1[5]? = some sv5 by rw [hcs1, List.getElem?_set_ne (by decide)]; exact U5.out)
 have U1x6 := Lib.hid (show cs1[6]? = some sv6 by rw [hcs1, List.getElem?_set_ne (by decide)]; exact U6.out)
 have U1x16 := Lib.hid (show cs1[16]? = some sv16 by rw [hcs1, List.getElem?_set_ne (by decide)]; exact U16.out)
 have V1 := Lib.hid (show cs1[0]? = some (.slice p0 es0.length k0) by rw [hcs1, List.getElem?_set_self (by rw [hl]; decide)])
 have HCS1 := Lib.hid hcs1
 have KP0 := Lib.hid kp0
 have OWN0 := Lib.hid (ownsRow_same own0 (fun g hg => sm0 g (by have := (own0.lt g hg).1; have := SG0.out.siz; omega)))
 have WS0 := Lib.hid hWs0
 obtain ⟨g0, hg0, hpi0⟩ : ∃ g0, (es0.length = 0 ∨ p0 = some ⟨g0, 0, none⟩) ∧ (es0.length = 0 ∨ ∃ es a, 0 < es0.length ∧ PlInv F L w.heap.size Ws0 g0 (dxs ds 0) 0 es a ∧ HdC (w.heap.size + 2) 59 14 Ws0 g0 k0) := by
  rcases own_form OWN0.out with ⟨cap, hv, h0⟩ | ⟨g, cap, hv⟩
  ·exact ⟨0, .inl h0, .inl h0⟩
  ·simp only [Value.slice.injEq] at hv
   obtain ⟨rfl, _, rfl⟩ := hv
   by_cases hpos : es0.length = 0
   ·exact ⟨0, .inl hpos, .inl hpos⟩
   refine ⟨g, .inr rfl, .inr ⟨es0, fun _ => Ws0.heap.size, Nat.pos_of_ne_zero hpos, ⟨own_blkC OWN0.out rfl, ES0.out.len, Nat.le_trans SG0.out.siz (OWN0.out.lt g rfl).1, (OWN0.out.lt g rfl).2, fun _ => Nat.le_refl _, Nat.le_refl _, fun j _ _ hj => absurd hj (Nat.not_lt_zero j), fun j vs ds' _ h1 h2 => ?_⟩, ?_⟩⟩
   exact (ES0.out.at_ j vs ds' h1 h2).frame (Nat.le_refl _) sg0.bel.size (fun b _ hlt => sg0.bel.block b hlt) (fun b hF hlt => ⟨hF, hlt⟩)
   exact hdC_of (own_low OWN0.out SG0.out.siz)
 have HG := Lib.hid hg0
 have HPI := Lib.hid hpi0
 have SGs := Lib.hid sg0
 have hnb : es0.length * 152 ≤ 140737488355328 := by rw [ES0.out.len]; exact Nat.le_trans HBY0.out hL
 have c0s := sg0.box.cell 0 _ V1.out
 rw [WS0.out] at c0s
 clear own0 hWs0 kp0 hcs1 row0 hes0 hby0 sg0 sz0 sm0 ba0 e1 hg0 hpi0 hat0
 go_wp2_with fail
 rw [← WS0.out]
 go_loopw [14] (fun i wr => ∃ k : Nat, k ≤ es0.length ∧ i = .int .i64 k ∧ Stg w wr cs1 zs ∧ ((es0.length = 0 ∧ wr = Ws0) ∨ ∃ es a, 0 < es0.length ∧ PlInv F L w.heap.size wr g0 (dxs ds 0) k es a ∧ HdC (w.heap.size + 2) 59 14 wr g0 k0)) (fun i _ => es0.length - (intOf i).toNat)
 case atStart => exact ⟨0, by omega, rfl, SGs.out, HPI.out.imp (fun h => ⟨h, rfl⟩) id⟩
 case round =>
  obtain ⟨k, hk, rfl, sg, hpi⟩ := hrel
  have SG := Lib.hid sg
  have HP := Lib.hid hpi
  clear sg hpi
  by_cases hlt : k < es0.length
  ·have hp0 : p0 = some ⟨g0, 0, none⟩ := by
    rcases HG.out with h | h
    ·omega
    ·exact h
   subst hp0
   obtain ⟨esk, ak, _, pi, hdc⟩ : ∃ es a, 0 < es0.length ∧ PlInv F L w.heap.size wr g0 (dxs ds 0) k es a ∧ HdC (w.heap.size + 2) 59 14 wr g0 k0 := by
    rcases HP.out with h | h
    ·omega
    ·exact h
   have HKX := Lib.hid (show k < (dxs ds 0).length by rw [← ES0.out.len]; exact hlt)
   obtain ⟨vs, hvs⟩ : ∃ vs, vs = esk[k]'(by rw [pi.len]; exact HKX.out) := ⟨_, rfl⟩
   have hvs2 : esk[k]? = some vs := by rw [hvs]; exact List.getElem?_eq_getElem _
   have RD := Lib.hid (pi.todo k vs _ (Nat.le_refl _) hvs2 (List.getElem?_eq_getElem HKX.out))
   have RG := Lib.hid (show wr.drew.rangeAt g0 (k * 14) vs.1 from fun i u hu => pi.blk.cell k vs hvs2 i u hu)
   have HI := Lib.hid (show (Try.prog.info? 59).map (·.size) = some vs.1.length by rw [infoPlayer, Cl.len])
   have HG0 := Lib.hid pi.blk.lt
   have PI := Lib.hid pi
   have HDC := Lib.hid hdc
   have S0 := Lib.hid (show StB w.heap.size 0 (.slice (some ⟨g0, 0, none⟩) es0.length k0) wr from SG.out.box.cell 0 _ V1.out)
   have c0k := SG.out.box.cell 0 _ V1.out
   clear hvs hvs2 pi hdc
   go_wp2_with fail
   refine wp_region_noPanic ?_
   refine wp_region_held_drew (S := StB w.heap.size 0 (.slice (some ⟨g0, 0, none⟩) es0.length k0)) (by kernel_rfl) (S0.out) (fun hHeld => ?_)
   refine wpAnyH_take (i := 0) (oi := ?oiP0x) (v := ?vP0x) ?hiP0x (by kernel_rfl) (by kernel_rfl) (by kernel_rfl) ?hqP0x ?hyP0x (by assumption) ?restP0x
   case hiP0x => (simp only [List.getElem?_toArray, List.getElem?_cons_zero] <;> rfl)
   case hqP0x => exact fun _ _ _ h => h
   case hyP0x => exact Or.inl ⟨by rfl, by (intro wS hSw; have s49 : wS.cell? ⟨w.heap.size, 0, none⟩ = some (.slice (some ⟨g0, 0, none⟩) es0.length k0) := hSw; go_simp; try with_reducible rfl)⟩
   try simp only [Act.put, List.setIfInBounds_toArray, List.set_cons_zero, List.set_cons_succ]
   refine wpAnyH_take (i := 1) (oi := ?oiP1x) (v := ?vP1x) ?hiP1x (by kernel_rfl) (by kernel_rfl) (by kernel_rfl) ?hqP1x ?hyP1x (by assumption) ?restP1x
   case hiP1x => (simp only [List.getElem?_toArray, List.getElem?_cons_succ, List.getElem?_cons_zero] <;> rfl)
   case hqP1x => exact fun _ _ _ h => h
   case hyP1x => exact Or.inl ⟨by rfl, by (intro wS hSw; have s49 : wS.cell? ⟨w.heap.size, 0, none⟩ = some (.slice (some ⟨g0, 0, none⟩) es0.length k0) := hSw; go_simp; try with_reducible rfl)⟩
   try simp only [Act.put, List.setIfInBounds_toArray, List.set_cons_zero, List.set_cons_succ]
   refine wpAnyH_take (i := 2) (oi := ?oiP2x) (v := ?vP2x) ?hiP2x (by kernel_rfl) (by kernel_rfl) (by kernel_rfl) ?hqP2x ?hyP2x (by assumption) ?restP2x
   case hiP2x => (simp only [List.getElem?_toArray, List.getElem?_cons_succ, List.getElem?_cons_zero] <;> rfl)
   case hqP2x => exact fun _ _ _ h => h
   case hyP2x => exact Or.inl ⟨by rfl, by (intro wS hSw; have s49 : wS.cell? ⟨w.heap.size, 0, none⟩ = some (.slice (some ⟨g0, 0, none⟩) es0.length k0) := hSw; go_simp; try with_reducible rfl)⟩
   try simp only [Act.put, List.setIfInBounds_toArray, List.set_cons_zero, List.set_cons_succ]
   refine wpAnyH_take (i := 3) (oi := ?oiP3x) (v := ?vP3x) ?hiP3x (by kernel_rfl) (by kernel_rfl) (by kernel_rfl) ?hqP3x ?hyP3x (by assumption) ?restP3x
   case hiP3x => (simp only [List.getElem?_toArray, List.getElem?_cons_succ, List.getElem?_cons_zero] <;> rfl)
   case hqP3x => exact fun _ _ _ h => h
   case hyP3x => exact Or.inl ⟨by rfl, by (intro wS hSw; have s49 : wS.cell? ⟨w.heap.size, 0, none⟩ = some (.slice (some ⟨g0, 0, none⟩) es0.length k0) := hSw; go_simp; try with_reducible rfl)⟩
   try simp only [Act.put, List.setIfInBounds_toArray, List.set_cons_zero, List.set_cons_succ]
   refine wpAnyH_take (i := 4) (oi := ?oiP4x) (v := ?vP4x) ?hiP4x (by kernel_rfl) (by kernel_rfl) (by kernel_rfl) ?hqP4x ?hyP4x (by assumption) ?restP4x
   case hiP4x => (simp only [List.getElem?_toArray, List.getElem?_cons_succ, List.getElem?_cons_zero] <;> rfl)
   case hqP4x => exact fun _ _ _ h => h
   case hyP4x => exact Or.inl ⟨by rfl, by (intro wS hSw; have s49 : wS.cell? ⟨w.heap.size, 0, none⟩ = some (.slice (some ⟨g0, 0, none⟩) es0.length k0) := hSw; go_simp; try with_reducible rfl)⟩
   try simp only [Act.put, List.setIfInBounds_toArray, List.set_cons_zero, List.set_cons_succ]
   refine wpAnyH_take (i := 5) (oi := ?oiP5x) (v := ?vP5x) ?hiP5x (by kernel_rfl) (by kernel_rfl) (by kernel_rfl) ?hqP5x ?hyP5x (by assumption) ?restP5x
   case hiP5x => (simp only [List.getElem?_toArray, List.getElem?_cons_succ, List.getElem?_cons_zero] <;> rfl)
   case hqP5x => exact fun _ _ _ h => h
   case hyP5x => exact Or.inl ⟨by rfl, by (intro wS hSw; have s49 : wS.cell? ⟨w.heap.size, 0, none⟩ = some (.slice (some ⟨g0, 0, none⟩) es0.length k0) := hSw; go_simp; try with_reducible rfl)⟩
   try simp only [Act.put, List.setIfInBounds_toArray, List.set_cons_zero, List.set_cons_succ]
   refine wpAnyH_take (i := 6) (oi := ?oiP6x) (v := ?vP6x) ?hiP6x (by kernel_rfl) (by kernel_rfl) (by kernel_rfl) ?hqP6x ?hyP6x (by assumption) ?restP6x
   case hiP6x => (simp only [List.getElem?_toArray, List.getElem?_cons_succ, List.getElem?_cons_zero] <;> rfl)
   case hqP6x => exact fun _ _ _ h => h
   case hyP6x => exact Or.inl ⟨by rfl, by (intro wS hSw; have s49 : wS.cell? ⟨w.heap.size, 0, none⟩ = some (.slice (some ⟨g0, 0, none⟩) es0.length k0) := hSw; go_simp; try with_reducible rfl)⟩
   try simp only [Act.put, List.setIfInBounds_toArray, List.set_cons_zero, List.set_cons_succ]
   refine wpAnyH_ready (rs := [7]) (by kernel_rfl) (by simp) ?_
   refine AllReadyH.cons (o := ?oiP7x) ?hiP7x (fun K hK => ?hsP7x) AllReadyH.nil
   case hiP7x => (simp only [List.getElem?_toArray, List.getElem?_cons_succ, List.getElem?_cons_zero] <;> rfl)
   refine step_load_mid rfl 59 (.tmp 23) rfl g0 (k * 14) (by simp [Act.eval]) vs.1 _ RG.out Try.underlying59 rfl HI.out ?_
   refine hK.out _ _ S0.out (fun hHeld7 => ?_)
   clear hHeld7
   clear hK K
   try simp only [Act.put, List.setIfInBounds_toArray, List.set_cons_zero, List.set_cons_succ]
   refine wpAnyH_ready (rs := [8]) (by kernel_rfl) (by simp) ?_
   refine AllReadyH.cons (o := ?oiP8x) ?hiP8x (fun K hK => ?hsP8x) AllReadyH.nil
   case hiP8x => (simp only [List.getElem?_toArray, List.getElem?_cons_succ, List.getElem?_cons_zero] <;> rfl)
   go_simp
   refine (copyPlayer _ L vs.1 ((dxs ds 0)[k]'(HKX.out)) wr.drew (RD.out.old (Below.refl _ _).drew) hL).mono ?_
   rintro e w5 ⟨c5, rfl, y1, y2, y3, hc5, op5, b5⟩
   have HY5 := Lib.hid (plEl_of (RD.out.old (Below.refl _ _).drew) hc5 op5)
   have B5 := Lib.hid (show Below wr.heap.size wr w5 from (Below.refl _ _).drew.trans b5)
   have S5 := Lib.hid (show StB w.heap.size 0 (.slice (some ⟨g0, 0, none⟩) es0.length k0) w5 from (B5.out.cell (p := ⟨w.heap.size, 0, none⟩) SG.out.box.lt).trans S0.out)
   obtain ⟨y, hy⟩ : ∃ y : Cl 14, y.1 = c5 := ⟨⟨c5, by rw [HY5.out.rd.len.1]; rfl, HY5.out.rd.one⟩, rfl⟩
   subst hy
   have TH5 := Lib.hid (show w5.there g0 (k * 14) y.1.length from blk_there (PI.out.blk.same (B5.out.block g0 HG0.out)) k (by rw [PI.out.len]; exact HKX.out) y)
   have HI5 := Lib.hid (show (Try.prog.info? 59).map (·.size) = some y.1.length by rw [infoPlayer, Cl.len])
   clear hc5 op5 b5
   refine hK.out _ _ S5.out (fun hHeld8 => ?_)
   clear hK K
   try simp only [Act.put, List.setIfInBounds_toArray, List.set_cons_zero, List.set_cons_succ]
   refine wpAnyH_take (i := 9) (oi := ?oiP9x) (v := ?vP9x) ?hiP9x (by kernel_rfl) (by kernel_rfl) (by kernel_rfl) ?hqP9x ?hyP9x (by assumption) ?restP9x
   case hiP9x => (simp only [List.getElem?_toArray, List.getElem?_cons_succ, List.getElem?_cons_zero] <;> rfl)
   case hqP9x => exact fun _ _ _ h => h
   case hyP9x => exact Or.inl ⟨by rfl, by (intro wS hSw; have s49 : wS.cell? ⟨w.heap.size, 0, none⟩ = some (.slice (some ⟨g0, 0, none⟩) es0.length k0) := hSw; go_simp; try with_reducible rfl)⟩
   try simp only [Act.put, List.setIfInBounds_toArray, List.set_cons_zero, List.set_cons_succ]
   refine wpAnyH_ready (rs := [10]) (by kernel_rfl) (by simp) ?_
   refine AllReadyH.cons (o := ?oiP10x) ?hiP10x (fun K hK => ?hsP10x) AllReadyH.nil
   case hiP10x => (simp only [List.getElem?_toArray, List.getElem?_cons_succ, List.getElem?_cons_zero] <;> rfl)
   refine step_store_mid rfl 59 (.tmp 26) (.tmp 25) rfl g0 (k * 14) y.1 (by simp [Act.eval]) (by simp [Act.eval]) TH5.out HI5.out (Cl.one y) ?_
   obtain ⟨a6, pi6⟩ := PI.out.step HKX.out B5.out y HY5.out
   have PI6 := Lib.hid pi6
   have S6 := Lib.hid (show StB w.heap.size 0 (.slice (some ⟨g0, 0, none⟩) es0.length k0) (w5.setCells g0 (k * 14) y.1) from (World.cell?_of_block (a := ⟨w.heap.size, 0, none⟩) (heap_sets _ _ _ _ _ (by have := PI.out.glo; show w.heap.size ≠ g0; omega))).trans S5.out)
   refine hK.out _ _ S6.out (fun hHeld10 => ?_)
   clear hK K
   try simp only [Act.put]
   refine wpAnyH_done (by kernel_rfl) ?_ _
   refine NoPanic.normal ?_
   go_wp2_with fail
   go_round
   case rel => exact ⟨k + 1, by omega, by go_num, (SG.out.old B5.out).far (sets_size _ _ _ _) (below_sets _ _ _ (SG.out.bel.trans (B5.out.mono SG.out.bel.size)) _ (by have := PI.out.glo; omega)) (heap_sets _ _ _ _ _ (by have := PI.out.glo; omega)) (heap_sets _ _ _ _ _ (by have := PI.out.glo; omega)), .inr ⟨_, a6, by omega, PI6.out, HdC.sets _ _ _ (HDC.out.same (B5.out.block g0 HG0.out))⟩⟩
   case measure => simp [intOf]; omega
  ·obtain rfl : k = es0.length := by omega
   obtain ⟨W1, rfl⟩ : ∃ W, W = wr := ⟨_, rfl⟩
   have P0 := Lib.hid (show PlyOwn L (w.heap.size + 2) W1.heap.size W1 (.slice p0 es0.length k0) (dxs ds 0) by
    rcases HP.out with ⟨h0, hw⟩ | ⟨es, a, hpos, pi, hdc⟩
    ·have hxs : dxs ds 0 = [] := List.eq_nil_of_length_eq_zero (by rw [← ES0.out.len]; exact h0)
     have he : es0 = [] := List.eq_nil_of_length_eq_zero h0
     rw [hxs, hw]
     have ho := OWN0.out
     rw [he] at ho
     rw [he]
     exact ⟨[], fun _ => Ws0.heap.size, own_low ho SG0.out.siz, rfl, fun g hg => (ho.lt g hg).2, fun _ => Nat.le_refl _, Nat.le_refl _, fun j vs ds' h => by simp at h⟩
    ·have hel : es0.length = es.length := by rw [pi.len, ES0.out.len]
     have hp0 : p0 = some ⟨g0, 0, none⟩ := by
      rcases HG.out with h | h
      ·omega
      ·exact h
     rw [hp0, hel]
     exact ⟨es, a, own_of pi.blk hdc (by rw [← hel]; exact hcap0), pi.len, fun g hg => (by cases hg; exact pi.ga), pi.mon, (by rw [← pi.len, ← hel]; exact pi.top), fun j vs ds' h1 h2 => pi.done j vs ds' (by rw [hel, pi.len]; exact (List.getElem?_eq_some_iff.1 h2).1) h1 h2⟩)
   have SG1 := SG
   have cn := SG1.out.box.cell 1 _ U1x1.out
   clear HP HPI SGs
   go_wp2_with fail

   obtain ⟨es1, row1, hes1, hby1⟩ := R1.out.row (k := 19) rfl
   have ES1 := Lib.hid hes1
   have HBY1 := Lib.hid hby1
   refine (cloneObject sv1 es1 W1 (row1.below SG1.out.bel) (by rw [hes1.len]; omega)).mono ?_
   rintro e wa1 ⟨v1, rfl, own1, ba1⟩
   obtain ⟨p1, n1, k1, rfl⟩ := own_sl own1
   obtain ⟨rfl, hcap1, hnil1, hat1⟩ := own_cap own1
   have ca1 := (SG1.out.old ba1).box.cell 1 _ U1x1.out
   have fa1 := (SG1.out.old ba1).box.frozen 1
   have cb1 := (SG1.out.old ba1).box.cell 2 _ U1x2.out
   obtain ⟨cs2, hcs2⟩ : ∃ l, l = cs1.set 1 (.slice p1 es1.length k1) := ⟨_, rfl⟩
   have hl2 : cs2.length = 19 := by rw [hcs2, List.length_set]; exact hl1
   obtain ⟨Ws1, hWs1, sg1, kp1, sz1, sm1⟩ := SG1.out.store ba1 1 (.slice p1 es1.length k1)
   rw [← hcs2] at sg1
   have U2x2 := Lib.hid (show cs2[2]? = some sv2 by rw [hcs2, List.getElem?_set_ne (by decide)]; exact U1x2.out)
   have U2x3 := Lib.hid (show cs2[3]? = some sv3 by rw [hcs2, List.getElem?_set_ne (by decide)]; exact U1x3.out)
   have U2x4 := Lib.hid (show cs2[4]? = some sv4 by rw [hcs2, List.getElem?_set_ne (by decide)]; exact U1x4.out)
   have U2x5 := Lib.hid (show cs2[5]? = some sv5 by rw [hcs2, List.getElem?_set_ne (by decide)]; exact U1x5.out)
   have U2x6 := Lib.hid (show cs2[6]? = some sv6 by rw [hcs2, List.getElem?_set_ne (by decide)]; exact U1x6.out)
   have U2x16 := Lib.hid (show cs2[16]? = some sv16 by rw [hcs2, List.getElem?_set_ne (by decide)]; exact U1x16.out)
   have V2 := Lib.hid (show cs2[1]? = some (.slice p1 es1.length k1) by rw [hcs2, List.getElem?_set_self (by rw [hl1]; decide)])
   have HCS2 := Lib.hid hcs2
   have KP1 := Lib.hid kp1
   have OWN1 := Lib.hid (ownsRow_same own1 (fun g hg => sm1 g (by have := (own1.lt g hg).1; have := SG1.out.siz; omega)))
   have WS1 := Lib.hid hWs1
   obtain ⟨W2, rfl⟩ : ∃ W, W = Ws1 := ⟨_, rfl⟩
   have P1 := Lib.hid (show OwnE 19 47 kObject W1.heap.size W2.heap.size W2 (.slice p1 es1.length k1) (dxs ds 1) from ⟨es1, OWN1.out, es_any flatObject ES1.out, fun g hg => by have := (OWN1.out.lt g hg).2; exact this⟩)
   have SG2 := Lib.hid sg1
   have HW2 := WS1
   clear own1 hWs1 kp1 hcs2 row1 hes1 hby1 sg1 sz1 sm1 ba1 hat1 hnil1 hcap1
   go_wp2_with fail
   rw [← HW2.out]
   obtain ⟨es2, row2, hes2, hby2⟩ := R2.out.row (k := 1) rfl
   have ES2 := Lib.hid hes2
   have HBY2 := Lib.hid hby2
   refine (cloneint sv2 es2 W2 (row2.below SG2.out.bel) (by rw [hes2.len]; omega)).mono ?_
   rintro e wa2 ⟨v2, rfl, own2, ba2⟩
   obtain ⟨p2, n2, k2, rfl⟩ := own_sl own2
   obtain ⟨rfl, hcap2, hnil2, hat2⟩ := own_cap own2
   have ca2 := (SG2.out.old ba2).box.cell 2 _ U2x2.out
   have fa2 := (SG2.out.old ba2).box.frozen 2
   have cb2 := (SG2.out.old ba2).box.cell 3 _ U2x3.out
   obtain ⟨cs3, hcs3⟩ : ∃ l, l = cs2.set 2 (.slice p2 es2.length k2) := ⟨_, rfl⟩
   have hl3 : cs3.length = 19 := by rw [hcs3, List.length_set]; exact hl2
   obtain ⟨Ws2, hWs2, sg2, kp2, sz2, sm2⟩ := SG2.out.store ba2 2 (.slice p2 es2.length k2)
   rw [← hcs3] at sg2
   have U3x3 := Lib.hid (show cs3[3]? = some sv3 by rw [hcs3, List.getElem?_set_ne (by decide)]; exact U2x3.out)
   have U3x4 := Lib.hid (show cs3[4]? = some sv4 by rw [hcs3, List.getElem?_set_ne (by decide)]; exact U2x4.out)
   have U3x5 := Lib.hid (show cs3[5]? = some sv5 by rw [hcs3, List.getElem?_set_ne (by decide)]; exact U2x5.out)
   have U3x6 := Lib.hid (show cs3[6]? = some sv6 by rw [hcs3, List.getElem?_set_ne (by decide)]; exact U2x6.out)
   have U3x16 := Lib.hid (show cs3[16]? = some sv16 by rw [hcs3, List.getElem?_set_ne (by decide)]; exact U2x16.out)
   have V3 := Lib.hid (show cs3[2]? = some (.slice p2 es2.length k2) by rw [hcs3, List.getElem?_set_self (by rw [hl2]; decide)])
   have HCS3 := Lib.hid hcs3
   have KP2 := Lib.hid kp2
   have OWN2 := Lib.hid (ownsRow_same own2 (fun g hg => sm2 g (by have := (own2.lt g hg).1; have := SG2.out.siz; omega)))
   have WS2 := Lib.hid hWs2
   obtain ⟨W3, rfl⟩ : ∃ W, W = Ws2 := ⟨_, rfl⟩
   have P2 := Lib.hid (show OwnIn W2.heap.size W3.heap.size W3 (.slice p2 es2.length k2) (dxs ds 2) from ⟨⟨es2, OWN2.out, es_any (flat_ints 1) ES2.out⟩, fun g hg => (OWN2.out.lt g hg).2⟩)
   have SG3 := Lib.hid sg2
   have HW3 := WS2
   clear own2 hWs2 kp2 hcs3 row2 hes2 hby2 sg2 sz2 sm2 ba2 hat2 hnil2 hcap2
   go_wp2_with fail
   rw [← HW3.out]
   obtain ⟨es3, row3, hes3, hby3⟩ := R3.out.row (k := 1) rfl
   have ES3 := Lib.hid hes3
   have HBY3 := Lib.hid hby3
   refine (cloneint sv3 es3 W3 (row3.below SG3.out.bel) (by rw [hes3.len]; omega)).mono ?_
   rintro e wa3 ⟨v3, rfl, own3, ba3⟩
   obtain ⟨p3, n3, k3, rfl⟩ := own_sl own3
   obtain ⟨rfl, hcap3, hnil3, hat3⟩ := own_cap own3
   have ca3 := (SG3.out.old ba3).box.cell 3 _ U3x3.out
   have fa3 := (SG3.out.old ba3).box.frozen 3
   have cb3 := (SG3.out.old ba3).box.cell 4 _ U3x4.out
   obtain ⟨cs4, hcs4⟩ : ∃ l, l = cs3.set 3 (.slice p3 es3.length k3) := ⟨_, rfl⟩
   have hl4 : cs4.length = 19 := by rw [hcs4, List.length_set]; exact hl3
   obtain ⟨Ws3, hWs3, sg3, kp3, sz3, sm3⟩ := SG3.out.store ba3 3 (.slice p3 es3.length k3)
   rw [← hcs4] at sg3
   have U4x4 := Lib.hid (show cs4[4]? = some sv4 by rw [hcs4, List.getElem?_set_ne (by decide)]; exact U3x4.out)
   have U4x5 := Lib.hid (show cs4[5]? = some sv5 by rw [hcs4, List.getElem?_set_ne (by decide)]; exact U3x5.out)
   have U4x6 := Lib.hid (show cs4[6]? = some sv6 by rw [hcs4, List.getElem?_set_ne (by decide)]; exact U3x6.out)
   have U4x16 := Lib.hid (show cs4[16]? = some sv16 by rw [hcs4, List.getElem?_set_ne (by decide)]; exact U3x16.out)
   have V4 := Lib.hid (show cs4[3]? = some (.slice p3 es3.length k3) by rw [hcs4, List.getElem?_set_self (by rw [hl3]; decide)])
   have HCS4 := Lib.hid hcs4
   have KP3 := Lib.hid kp3
   have OWN3 := Lib.hid (ownsRow_same own3 (fun g hg => sm3 g (by have := (own3.lt g hg).1; have := SG3.out.siz; omega)))
   have WS3 := Lib.hid hWs3
   obtain ⟨W4, rfl⟩ : ∃ W, W = Ws3 := ⟨_, rfl⟩
   have P3 := Lib.hid (show OwnIn W3.heap.size W4.heap.size W4 (.slice p3 es3.length k3) (dxs ds 3) from ⟨⟨es3, OWN3.out, es_any (flat_ints 1) ES3.out⟩, fun g hg => (OWN3.out.lt g hg).2⟩)
   have SG4 := Lib.hid sg3
   have HW4 := WS3
   clear own3 hWs3 kp3 hcs4 row3 hes3 hby3 sg3 sz3 sm3 ba3 hat3 hnil3 hcap3
   go_wp2_with fail
   rw [← HW4.out]
   obtain ⟨es4, row4, hes4, hby4⟩ := R4.out.row (k := 94) rfl
   have ES4 := Lib.hid hes4
   have HBY4 := Lib.hid hby4
   refine (cloneItem sv4 es4 W4 (row4.below SG4.out.bel) (by rw [hes4.len]; omega)).mono ?_
   rintro e wa4 ⟨v4, rfl, own4, ba4⟩
   obtain ⟨p4, n4, k4, rfl⟩ := own_sl own4
   obtain ⟨rfl, hcap4, hnil4, hat4⟩ := own_cap own4
   have ca4 := (SG4.out.old ba4).box.cell 4 _ U4x4.out
   have fa4 := (SG4.out.old ba4).box.frozen 4
   obtain ⟨cs5, hcs5⟩ : ∃ l, l = cs4.set 4 (.slice p4 es4.length k4) := ⟨_, rfl⟩
   have hl5 : cs5.length = 19 := by rw [hcs5, List.length_set]; exact hl4
   obtain ⟨Ws4, hWs4, sg4, kp4, sz4, sm4⟩ := SG4.out.store ba4 4 (.slice p4 es4.length k4)
   rw [← hcs5] at sg4
   have U5x5 := Lib.hid (show cs5[5]? = some sv5 by rw [hcs5, List.getElem?_set_ne (by decide)]; exact U4x5.out)
   have U5x6 := Lib.hid (show cs5[6]? = some sv6 by rw [hcs5, List.getElem?_set_ne (by decide)]; exact U4x6.out)
   have U5x16 := Lib.hid (show cs5[16]? = some sv16 by rw [hcs5, List.getElem?_set_ne (by decide)]; exact U4x16.out)
   have V5 := Lib.hid (show cs5[4]? = some (.slice p4 es4.length k4) by rw [hcs5, List.getElem?_set_self (by rw [hl4]; decide)])
   have HCS5 := Lib.hid hcs5
   have KP4 := Lib.hid kp4
   have OWN4 := Lib.hid (ownsRow_same own4 (fun g hg => sm4 g (by have := (own4.lt g hg).1; have := SG4.out.siz; omega)))
   have WS4 := Lib.hid hWs4
   obtain ⟨g4, hg4, hli4⟩ : ∃ g4, (es4.length = 0 ∨ p4 = some ⟨g4, 0, none⟩) ∧ LpI F L w.heap.size 94 83 kItem W4 Ws4 g4 es4.length k4 (dxs ds 4) := by
    rcases own_form OWN4.out with ⟨cap, hv, h0⟩ | ⟨g, cap, hv⟩
    ·exact ⟨0, .inl h0, KP4.out, .inl h0⟩
    ·simp only [Value.slice.injEq] at hv
     obtain ⟨rfl, _, rfl⟩ := hv
     have hgw := (OWN4.out.lt g rfl).1
     have hsz := SG4.out.siz
     refine ⟨g, .inr rfl, KP4.out, .inr ⟨hcap4, hdC_of OWN4.out, es4, rfl, own_blkC OWN4.out rfl, ES4.out.frame (Nat.le_refl _) sg4.bel.size (fun b _ hlt => sg4.bel.block b hlt) (fun b hF hlt => .inl ⟨hF, hlt⟩), fun b hb => ?_⟩⟩
     rcases hb with hb | hb
     ·omega
     ·exact fun e => hb.2 (by rw [e])
   have HG4 := Lib.hid hg4
   have HLI4 := Lib.hid hli4
   have SGs4 := Lib.hid sg4
   have HCAP4 := Lib.hid hcap4
   have hnb4 : es4.length * 824 ≤ 140737488355328 := by rw [ES4.out.len]; exact Nat.le_trans HBY4.out hL
   have cls4 := sg4.box.cell 4 _ V5.out
   rw [WS4.out] at cls4
   clear own4 hWs4 kp4 hcs5 row4 hes4 hby4 sg4 sz4 sm4 ba4 hg4 hli4 hat4 hnil4 hcap4
   go_wp2_with fail
   rw [← WS4.out]
   go_loopw [47] (fun i wr => ∃ k : Nat, k ≤ es4.length ∧ i = .int .i64 k ∧ Stg w wr cs5 zs ∧ LpI F L w.heap.size 94 83 kItem W4 wr g4 es4.length k4 (dxs ds 4) ∧ (es4.length = 0 → wr = Ws4)) (fun i _ => es4.length - (intOf i).toNat)
   case atStart => exact ⟨0, by omega, rfl, SGs4.out, HLI4.out, fun _ => rfl⟩
   case round =>
    obtain ⟨k, hk, rfl, sg, li, hnw⟩ := hrel
    have SG := Lib.hid sg
    have LI := Lib.hid li
    have HNW := Lib.hid hnw
    clear sg li hnw
    by_cases hlt : k < es4.length
    ·have hp4 : p4 = some ⟨g4, 0, none⟩ := by
      rcases HG4.out with h | h
      ·omega
      ·exact h
     subst hp4
     have GLO := Lib.hid ((LI.out.part k hlt 0 0 (by decide)).2.2)
     obtain ⟨⟨vs0, dv0, pt0⟩, th0, _⟩ := LI.out.part k hlt 6 72 (by decide)
     have S0 := Lib.hid (show StB w.heap.size 4 (.slice (some ⟨g4, 0, none⟩) es4.length k4) wr from SG.out.box.cell 4 _ V5.out)
     have c0k0 := SG.out.box.cell 4 _ V5.out
     have PT0 := Lib.hid pt0
     have RG0 := Lib.hid (show wr.drew.rangeAt g4 (k * 94 + 6) vs0 from pt0.rng)
     have HI0 := Lib.hid (show (Try.prog.info? 78).map (·.size) = some vs0.length by rw [infoAbility, pt0.len])
     clear pt0 th0
     go_wp2_with fail
     refine wp_region_noPanic ?_
     refine wp_region_held_drew (S := StB w.heap.size 4 (.slice (some ⟨g4, 0, none⟩) es4.length k4)) (by kernel_rfl) (S0.out) (fun hHeld => ?_)
     refine wpAnyH_take (i := 0) (oi := ?oiA40x) (v := ?vA40x) ?hiA40x (by kernel_rfl) (by kernel_rfl) (by kernel_rfl) ?hqA40x ?hyA40x (by assumption) ?restA40x
     case hiA40x => (simp only [List.getElem?_toArray, List.getElem?_cons_zero] <;> rfl)
     case hqA40x => exact fun _ _ _ h => h
     case hyA40x => exact Or.inl ⟨by rfl, by (intro wS hSw; have s49 : wS.cell? ⟨w.heap.size, 4, none⟩ = some (.slice (some ⟨g4, 0, none⟩) es4.length k4) := hSw; go_simp; try with_reducible rfl)⟩
     try simp only [Act.put, List.setIfInBounds_toArray, List.set_cons_zero, List.set_cons_succ]
     refine wpAnyH_take (i := 1) (oi := ?oiA41x) (v := ?vA41x) ?hiA41x (by kernel_rfl) (by kernel_rfl) (by kernel_rfl) ?hqA41x ?hyA41x (by assumption) ?restA41x
     case hiA41x => (simp only [List.getElem?_toArray, List.getElem?_cons_succ, List.getElem?_cons_zero] <;> rfl)
     case hqA41x => exact fun _ _ _ h => h
     case hyA41x => exact Or.inl ⟨by rfl, by (intro wS hSw; have s49 : wS.cell? ⟨w.heap.size, 4, none⟩ = some (.slice (some ⟨g4, 0, none⟩) es4.length k4) := hSw; go_simp; try with_reducible rfl)⟩
     try simp only [Act.put, List.setIfInBounds_toArray, List.set_cons_zero, List.set_cons_succ]
     refine wpAnyH_take (i := 2) (oi := ?oiA42x) (v := ?vA42x) ?hiA42x (by kernel_rfl) (by kernel_rfl) (by kernel_rfl) ?hqA42x ?hyA42x (by assumption) ?restA42x
     case hiA42x => (simp only [List.getElem?_toArray, List.getElem?_cons_succ, List.getElem?_cons_zero] <;> rfl)
     case hqA42x => exact fun _ _ _ h => h
     case hyA42x => exact Or.inl ⟨by rfl, by (intro wS hSw; have s49 : wS.cell? ⟨w.heap.size, 4, none⟩ = some (.slice (some ⟨g4, 0, none⟩) es4.length k4) := hSw; go_simp; try with_reducible rfl)⟩
     try simp only [Act.put, List.setIfInBounds_toArray, List.set_cons_zero, List.set_cons_succ]
     refine wpAnyH_take (i := 3) (oi := ?oiA43x) (v := ?vA43x) ?hiA43x (by kernel_rfl) (by kernel_rfl) (by kernel_rfl) ?hqA43x ?hyA43x (by assumption) ?restA43x
     case hiA43x => (simp only [List.getElem?_toArray, List.getElem?_cons_succ, List.getElem?_cons_zero] <;> rfl)
     case hqA43x => exact fun _ _ _ h => h
     case hyA43x => exact Or.inl ⟨by rfl, by (intro wS hSw; have s49 : wS.cell? ⟨w.heap.size, 4, none⟩ = some (.slice (some ⟨g4, 0, none⟩) es4.length k4) := hSw; go_simp; try with_reducible rfl)⟩
     try simp only [Act.put, List.setIfInBounds_toArray, List.set_cons_zero, List.set_cons_succ]
     refine wpAnyH_take (i := 4) (oi := ?oiA44x) (v := ?vA44x) ?hiA44x (by kernel_rfl) (by kernel_rfl) (by kernel_rfl) ?hqA44x ?hyA44x (by assumption) ?restA44x
     case hiA44x => (simp only [List.getElem?_toArray, List.getElem?_cons_succ, List.getElem?_cons_zero] <;> rfl)
     case hqA44x => exact fun _ _ _ h => h
     case hyA44x => exact Or.inl ⟨by rfl, by (intro wS hSw; have s49 : wS.cell? ⟨w.heap.size, 4, none⟩ = some (.slice (some ⟨g4, 0, none⟩) es4.length k4) := hSw; go_simp; try with_reducible rfl)⟩
     try simp only [Act.put, List.setIfInBounds_toArray, List.set_cons_zero, List.set_cons_succ]
     refine wpAnyH_take (i := 5) (oi := ?oiA45x) (v := ?vA45x) ?hiA45x (by kernel_rfl) (by kernel_rfl) (by kernel_rfl) ?hqA45x ?hyA45x (by assumption) ?restA45x
     case hiA45x => (simp only [List.getElem?_toArray, List.getElem?_cons_succ, List.getElem?_cons_zero] <;> rfl)
     case hqA45x => exact fun _ _ _ h => h
     case hyA45x => exact Or.inl ⟨by rfl, by (intro wS hSw; have s49 : wS.cell? ⟨w.heap.size, 4, none⟩ = some (.slice (some ⟨g4, 0, none⟩) es4.length k4) := hSw; go_simp; try with_reducible rfl)⟩
     try simp only [Act.put, List.setIfInBounds_toArray, List.set_cons_zero, List.set_cons_succ]
     refine wpAnyH_take (i := 6) (oi := ?oiA46x) (v := ?vA46x) ?hiA46x (by kernel_rfl) (by kernel_rfl) (by kernel_rfl) ?hqA46x ?hyA46x (by assumption) ?restA46x
     case hiA46x => (simp only [List.getElem?_toArray, List.getElem?_cons_succ, List.getElem?_cons_zero] <;> rfl)
     case hqA46x => exact fun _ _ _ h => h
     case hyA46x => exact Or.inl ⟨by rfl, by (intro wS hSw; have s49 : wS.cell? ⟨w.heap.size, 4, none⟩ = some (.slice (some ⟨g4, 0, none⟩) es4.length k4) := hSw; go_simp; try with_reducible rfl)⟩
     try simp only [Act.put, List.setIfInBounds_toArray, List.set_cons_zero, List.set_cons_succ]
     refine wpAnyH_take (i := 7) (oi := ?oiA47x) (v := ?vA47x) ?hiA47x (by kernel_rfl) (by kernel_rfl) (by kernel_rfl) ?hqA47x ?hyA47x (by assumption) ?restA47x
     case hiA47x => (simp only [List.getElem?_toArray, List.getElem?_cons_succ, List.getElem?_cons_zero] <;> rfl)
     case hqA47x => exact fun _ _ _ h => h
     case hyA47x => exact Or.inl ⟨by rfl, by (intro wS hSw; have s49 : wS.cell? ⟨w.heap.size, 4, none⟩ = some (.slice (some ⟨g4, 0, none⟩) es4.length k4) := hSw; go_simp; try with_reducible rfl)⟩
     try simp only [Act.put, List.setIfInBounds_toArray, List.set_cons_zero, List.set_cons_succ]
     refine wpAnyH_ready (rs := [8]) (by kernel_rfl) (by simp) ?_
     refine AllReadyH.cons (o := ?oiA48x) ?hiA48x (fun K hK => ?hsA48x) AllReadyH.nil
     case hiA48x => (simp only [List.getElem?_toArray, List.getElem?_cons_succ, List.getElem?_cons_zero] <;> rfl)
     refine step_load_mid rfl 78 (.tmp 57) rfl g4 (k * 94 + 6) (by simp [Act.eval]) vs0 _ RG0.out Try.underlying78 rfl HI0.out ?_
     refine hK.out _ _ S0.out (fun hHeld8 => ?_)
     clear hHeld8
     clear hK K
     try simp only [Act.put, List.setIfInBounds_toArray, List.set_cons_zero, List.set_cons_succ]
     refine wpAnyH_ready (rs := [9]) (by kernel_rfl) (by simp) ?_
     refine AllReadyH.cons (o := ?oiA49x) ?hiA49x (fun K hK => ?hsA49x) AllReadyH.nil
     case hiA49x => (simp only [List.getElem?_toArray, List.getElem?_cons_succ, List.getElem?_cons_zero] <;> rfl)
     go_simp
     refine (copyAbility (Ft F w.heap.size W4.heap.size (some g4)) L vs0 dv0 wr.drew (PT0.out.rd.old (Below.refl _ _).drew) hL).mono ?_
     rintro e w50 ⟨cw50, rfl, rd5, b5⟩
     have Bw50 := Lib.hid (show Below wr.heap.size wr w50 from (Below.refl _ _).drew.trans b5)
     have RDw50 := Lib.hid (show RdL (Ft F w.heap.size W4.heap.size (some g4)) L w50 ((kItem.drop 6).take 72) cw50 dv0 from rd5.imp (fun b hb _ => by
      rcases hb with hb | hb
      ·exact hb.1
      ·exact .inr ⟨Nat.le_trans LI.out.kp.1 hb, fun e => by cases e; exact absurd hb (Nat.not_le.2 PT0.out.glt)⟩))
     have LNw50 := Lib.hid (show cw50.length = 72 by rw [rd5.len.1]; exact kAbility_len)
     have Sw50 := Lib.hid (show StB w.heap.size 4 (.slice (some ⟨g4, 0, none⟩) es4.length k4) w50 from (Bw50.out.cell (p := ⟨w.heap.size, 4, none⟩) SG.out.box.lt).trans S0.out)
     have THw50 := Lib.hid (show w50.there g4 (k * 94 + 6) cw50.length by rw [LNw50.out]; exact ((LI.out.old Bw50.out).part k hlt 6 72 (by decide)).2.1)
     have HIw50 := Lib.hid (show (Try.prog.info? 78).map (·.size) = some cw50.length by rw [infoAbility, LNw50.out])
     clear rd5 b5
     refine hK.out _ _ Sw50.out (fun hHeld9 => ?_)
     clear hK K
     try simp only [Act.put, List.setIfInBounds_toArray, List.set_cons_zero, List.set_cons_succ]
     refine wpAnyH_take (i := 10) (oi := ?oiA410x) (v := ?vA410x) ?hiA410x (by kernel_rfl) (by kernel_rfl) (by kernel_rfl) ?hqA410x ?hyA410x (by assumption) ?restA410x
     case hiA410x => (simp only [List.getElem?_toArray, List.getElem?_cons_succ, List.getElem?_cons_zero] <;> rfl)
     case hqA410x => exact fun _ _ _ h => h
     case hyA410x => exact Or.inl ⟨by rfl, by (intro wS hSw; have s49 : wS.cell? ⟨w.heap.size, 4, none⟩ = some (.slice (some ⟨g4, 0, none⟩) es4.length k4) := hSw; go_simp; try with_reducible rfl)⟩
     try simp only [Act.put, List.setIfInBounds_toArray, List.set_cons_zero, List.set_cons_succ]
     refine wpAnyH_take (i := 11) (oi := ?oiA411x) (v := ?vA411x) ?hiA411x (by kernel_rfl) (by kernel_rfl) (by kernel_rfl) ?hqA411x ?hyA411x (by assumption) ?restA411x
     case hiA411x => (simp only [List.getElem?_toArray, List.getElem?_cons_succ, List.getElem?_cons_zero] <;> rfl)
     case hqA411x => exact fun _ _ _ h => h
     case hyA411x => exact Or.inl ⟨by rfl, by (intro wS hSw; have s49 : wS.cell? ⟨w.heap.size, 4, none⟩ = some (.slice (some ⟨g4, 0, none⟩) es4.length k4) := hSw; go_simp; try with_reducible rfl)⟩
     try simp only [Act.put, List.setIfInBounds_toArray, List.set_cons_zero, List.set_cons_succ]
     refine wpAnyH_ready (rs := [12]) (by kernel_rfl) (by simp) ?_
     refine AllReadyH.cons (o := ?oiA412x) ?hiA412x (fun K hK => ?hsA412x) AllReadyH.nil
     case hiA412x => (simp only [List.getElem?_toArray, List.getElem?_cons_succ, List.getElem?_cons_zero] <;> rfl)
     refine step_store_mid rfl 78 (.tmp 61) (.tmp 59) rfl g4 (k * 94 + 6) cw50 (by simp [Act.eval]) (by simp [Act.eval]) THw50.out HIw50.out RDw50.out.one ?_
     have LI6 := Lib.hid (LI.out.put hlt PT0.out Bw50.out cw50 RDw50.out LNw50.out (by decide))
     have SG6 := Lib.hid ((SG.out.old Bw50.out).far (sets_size _ _ _ _) (below_sets _ _ _ (SG.out.bel.trans (Bw50.out.mono SG.out.bel.size)) _ (by have := GLO.out; have := SG4.out.siz; omega)) (heap_sets g4 cw50 (k * 94 + 6) _ _ (by have := GLO.out; have := SG4.out.siz; omega)) (heap_sets g4 cw50 (k * 94 + 6) _ _ (by have := GLO.out; have := SG4.out.siz; omega)))
     have S6 := Lib.hid (show StB w.heap.size 4 (.slice (some ⟨g4, 0, none⟩) es4.length k4) (w50.setCells g4 (k * 94 + 6) cw50) from SG6.out.box.cell 4 _ V5.out)
     refine hK.out _ _ S6.out (fun hHeld12 => ?_)
     clear hK K
     try simp only [Act.put]
     refine wpAnyH_done (by kernel_rfl) ?_ _
     refine NoPanic.normal ?_
     obtain ⟨wm0, hwm0⟩ : ∃ W, W = w50.setCells g4 (k * 94 + 6) cw50 := ⟨_, rfl⟩
     have LIN := LI6
     have SGN := SG6
     change Hid (LpI _ _ _ _ _ _ _ (w50.setCells g4 (k * 94 + 6) cw50) _ _ _ _) at LIN
     change Hid (Stg _ (w50.setCells g4 (k * 94 + 6) cw50) _ _) at SGN
     rw [← hwm0] at LIN SGN
     have HWM0 := Lib.hid hwm0
     clear hwm0 LI SG LI6 SG6 S6 c0k0
     have LI := LIN
     have SG := SGN
     clear LIN SGN
     rw [← HWM0.out]
     obtain ⟨⟨vs1, dv1, pt1⟩, th1, _⟩ := LI.out.part k hlt 78 1 (by decide)
     have S1 := Lib.hid (show StB w.heap.size 4 (.slice (some ⟨g4, 0, none⟩) es4.length k4) wm0 from SG.out.box.cell 4 _ V5.out)
     have c0k1 := SG.out.box.cell 4 _ V5.out
     have PT1 := Lib.hid pt1
     obtain ⟨m1, ms1, rfl, rfl, rm1, cm1⟩ := pt1.one (e' := kTarget) (by_ := 16) rfl
     have RM1 := Lib.hid rm1
     clear rm1 th1 pt1
     go_wp2_with fail
     refine wp_region_noPanic ?_
     refine wp_region_held_drew (S := StB w.heap.size 4 (.slice (some ⟨g4, 0, none⟩) es4.length k4)) (by kernel_rfl) (S1.out) (fun hHeld => ?_)
     refine wpAnyH_take (i := 0) (oi := ?oiB40x) (v := ?vB40x) ?hiB40x (by kernel_rfl) (by kernel_rfl) (by kernel_rfl) ?hqB40x ?hyB40x (by assumption) ?restB40x
     case hiB40x => (simp only [List.getElem?_toArray, List.getElem?_cons_zero] <;> rfl)
     case hqB40x => exact fun _ _ _ h => h
     case hyB40x => exact Or.inl ⟨by rfl, by (intro wS hSw; have s49 : wS.cell? ⟨w.heap.size, 4, none⟩ = some (.slice (some ⟨g4, 0, none⟩) es4.length k4) := hSw; go_simp; try with_reducible rfl)⟩
     try simp only [Act.put, List.setIfInBounds_toArray, List.set_cons_zero, List.set_cons_succ]
     refine wpAnyH_take (i := 1) (oi := ?oiB41x) (v := ?vB41x) ?hiB41x (by kernel_rfl) (by kernel_rfl) (by kernel_rfl) ?hqB41x ?hyB41x (by assumption) ?restB41x
     case hiB41x => (simp only [List.getElem?_toArray, List.getElem?_cons_succ, List.getElem?_cons_zero] <;> rfl)
     case hqB41x => exact fun _ _ _ h => h
     case hyB41x => exact Or.inl ⟨by rfl, by (intro wS hSw; have s49 : wS.cell? ⟨w.heap.size, 4, none⟩ = some (.slice (some ⟨g4, 0, none⟩) es4.length k4) := hSw; go_simp; try with_reducible rfl)⟩
     try simp only [Act.put, List.setIfInBounds_toArray, List.set_cons_zero, List.set_cons_succ]
     refine wpAnyH_take (i := 2) (oi := ?oiB42x) (v := ?vB42x) ?hiB42x (by kernel_rfl) (by kernel_rfl) (by kernel_rfl) ?hqB42x ?hyB42x (by assumption) ?restB42x
     case hiB42x => (simp only [List.getElem?_toArray, List.getElem?_cons_succ, List.getElem?_cons_zero] <;> rfl)
     case hqB42x => exact fun _ _ _ h => h
     case hyB42x => exact Or.inl ⟨by rfl, by (intro wS hSw; have s49 : wS.cell? ⟨w.heap.size, 4, none⟩ = some (.slice (some ⟨g4, 0, none⟩) es4.length k4) := hSw; go_simp; try with_reducible rfl)⟩
     try simp only [Act.put, List.setIfInBounds_toArray, List.set_cons_zero, List.set_cons_succ]
     refine wpAnyH_take (i := 3) (oi := ?oiB43x) (v := ?vB43x) ?hiB43x (by kernel_rfl) (by kernel_rfl) (by kernel_rfl) ?hqB43x ?hyB43x (by assumption) ?restB43x
     case hiB43x => (simp only [List.getElem?_toArray, List.getElem?_cons_succ, List.getElem?_cons_zero] <;> rfl)
     case hqB43x => exact fun _ _ _ h => h
     case hyB43x => exact Or.inl ⟨by rfl, by (intro wS hSw; have s49 : wS.cell? ⟨w.heap.size, 4, none⟩ = some (.slice (some ⟨g4, 0, none⟩) es4.length k4) := hSw; go_simp; try with_reducible rfl)⟩
     try simp only [Act.put, List.setIfInBounds_toArray, List.set_cons_zero, List.set_cons_succ]
     refine wpAnyH_take (i := 4) (oi := ?oiB44x) (v := ?vB44x) ?hiB44x (by kernel_rfl) (by kernel_rfl) (by kernel_rfl) ?hqB44x ?hyB44x (by assumption) ?restB44x
     case hiB44x => (simp only [List.getElem?_toArray, List.getElem?_cons_succ, List.getElem?_cons_zero] <;> rfl)
     case hqB44x => exact fun _ _ _ h => h
     case hyB44x => exact Or.inl ⟨by rfl, by (intro wS hSw; have s49 : wS.cell? ⟨w.heap.size, 4, none⟩ = some (.slice (some ⟨g4, 0, none⟩) es4.length k4) := hSw; go_simp; try with_reducible rfl)⟩
     try simp only [Act.put, List.setIfInBounds_toArray, List.set_cons_zero, List.set_cons_succ]
     refine wpAnyH_take (i := 5) (oi := ?oiB45x) (v := ?vB45x) ?hiB45x (by kernel_rfl) (by kernel_rfl) (by kernel_rfl) ?hqB45x ?hyB45x (by assumption) ?restB45x
     case hiB45x => (simp only [List.getElem?_toArray, List.getElem?_cons_succ, List.getElem?_cons_zero] <;> rfl)
     case hqB45x => exact fun _ _ _ h => h
     case hyB45x => exact Or.inl ⟨by rfl, by (intro wS hSw; have s49 : wS.cell? ⟨w.heap.size, 4, none⟩ = some (.slice (some ⟨g4, 0, none⟩) es4.length k4) := hSw; go_simp; try with_reducible rfl)⟩
     try simp only [Act.put, List.setIfInBounds_toArray, List.set_cons_zero, List.set_cons_succ]
     refine wpAnyH_take (i := 6) (oi := ?oiB46x) (v := ?vB46x) ?hiB46x (by kernel_rfl) (by kernel_rfl) (by kernel_rfl) ?hqB46x ?hyB46x (by assumption) ?restB46x
     case hiB46x => (simp only [List.getElem?_toArray, List.getElem?_cons_succ, List.getElem?_cons_zero] <;> rfl)
     case hqB46x => exact fun _ _ _ h => h
     case hyB46x => exact Or.inl ⟨by rfl, by (intro wS hSw; have s49 : wS.cell? ⟨w.heap.size, 4, none⟩ = some (.slice (some ⟨g4, 0, none⟩) es4.length k4) := hSw; go_simp; try with_reducible rfl)⟩
     try simp only [Act.put, List.setIfInBounds_toArray, List.set_cons_zero, List.set_cons_succ]
     refine wpAnyH_take (i := 7) (oi := ?oiB47x) (v := ?vB47x) ?hiB47x (by kernel_rfl) (by kernel_rfl) (by kernel_rfl) ?hqB47x ?hyB47x (by assumption) ?restB47x
     case hiB47x => (simp only [List.getElem?_toArray, List.getElem?_cons_succ, List.getElem?_cons_zero] <;> rfl)
     case hqB47x => exact fun _ _ _ h => h
     case hyB47x => exact Or.inl ⟨by rfl, by (intro wS hSw; have s49 : wS.cell? ⟨w.heap.size, 4, none⟩ = some (.slice (some ⟨g4, 0, none⟩) es4.length k4) := hSw; go_simp; try with_reducible rfl)⟩
     try simp only [Act.put, List.setIfInBounds_toArray, List.set_cons_zero, List.set_cons_succ]
     refine wpAnyH_ready (rs := [8]) (by kernel_rfl) (by simp) ?_
     refine AllReadyH.cons (o := ?oiB48x) ?hiB48x (fun K hK => ?hsB48x) AllReadyH.nil
     case hiB48x => (simp only [List.getElem?_toArray, List.getElem?_cons_succ, List.getElem?_cons_zero] <;> rfl)
     go_simp
     refine hK.out _ _ S1.out (fun hHeld8 => ?_)
     clear hHeld8
     clear hK K
     try simp only [Act.put, List.setIfInBounds_toArray, List.set_cons_zero, List.set_cons_succ]
     refine wpAnyH_ready (rs := [9]) (by kernel_rfl) (by simp) ?_
     refine AllReadyH.cons (o := ?oiB49x) ?hiB49x (fun K hK => ?hsB49x) AllReadyH.nil
     case hiB49x => (simp only [List.getElem?_toArray, List.getElem?_cons_succ, List.getElem?_cons_zero] <;> rfl)
     go_simp
     refine (cloneFTarget _ L m1 ms1 wm0.drew (RM1.out.old (Below.refl _ _).drew) hL).mono ?_
     rintro e w51 ⟨pw51, nw51, kw51, rfl, q5, b5⟩
     have Bw51 := Lib.hid (show Below wm0.heap.size wm0 w51 from (Below.refl _ _).drew.trans b5)
     have Qw51 := Lib.hid (q5 (Ft F w.heap.size W4.heap.size (some g4)) (fun b h1 _ => .inr ⟨Nat.le_trans LI.out.kp.1 h1, fun e => by cases e; exact absurd h1 (Nat.not_le.2 PT1.out.glt)⟩))
     have Sw51 := Lib.hid (show StB w.heap.size 4 (.slice (some ⟨g4, 0, none⟩) es4.length k4) w51 from (Bw51.out.cell (p := ⟨w.heap.size, 4, none⟩) SG.out.box.lt).trans S1.out)
     have c121 := (Bw51.out.cell (p := ⟨g4, k * 94 + 78, none⟩) PT1.out.glt).trans cm1
     have f121 := (((LI.out.old Bw51.out).part k hlt 78 1 (by decide)).2.1 0 Nat.one_pos).2
     clear q5 b5
     refine hK.out _ _ Sw51.out (fun hHeld9 => ?_)
     clear hK K
     try simp only [Act.put, List.setIfInBounds_toArray, List.set_cons_zero, List.set_cons_succ]
     refine wpAnyH_take (i := 10) (oi := ?oiB410x) (v := ?vB410x) ?hiB410x (by kernel_rfl) (by kernel_rfl) (by kernel_rfl) ?hqB410x ?hyB410x (by assumption) ?restB410x
     case hiB410x => (simp only [List.getElem?_toArray, List.getElem?_cons_succ, List.getElem?_cons_zero] <;> rfl)
     case hqB410x => exact fun _ _ _ h => h
     case hyB410x => exact Or.inl ⟨by rfl, by (intro wS hSw; have s49 : wS.cell? ⟨w.heap.size, 4, none⟩ = some (.slice (some ⟨g4, 0, none⟩) es4.length k4) := hSw; go_simp; try with_reducible rfl)⟩
     try simp only [Act.put, List.setIfInBounds_toArray, List.set_cons_zero, List.set_cons_succ]
     refine wpAnyH_take (i := 11) (oi := ?oiB411x) (v := ?vB411x) ?hiB411x (by kernel_rfl) (by kernel_rfl) (by kernel_rfl) ?hqB411x ?hyB411x (by assumption) ?restB411x
     case hiB411x => (simp only [List.getElem?_toArray, List.getElem?_cons_succ, List.getElem?_cons_zero] <;> rfl)
     case hqB411x => exact fun _ _ _ h => h
     case hyB411x => exact Or.inl ⟨by rfl, by (intro wS hSw; have s49 : wS.cell? ⟨w.heap.size, 4, none⟩ = some (.slice (some ⟨g4, 0, none⟩) es4.length k4) := hSw; go_simp; try with_reducible rfl)⟩
     try simp only [Act.put, List.setIfInBounds_toArray, List.set_cons_zero, List.set_cons_succ]
     refine wpAnyH_ready (rs := [12]) (by kernel_rfl) (by simp) ?_
     refine AllReadyH.cons (o := ?oiB412x) ?hiB412x (fun K hK => ?hsB412x) AllReadyH.nil
     case hiB412x => (simp only [List.getElem?_toArray, List.getElem?_cons_succ, List.getElem?_cons_zero] <;> rfl)
     go_simp
     have LI6 := Lib.hid (LI.out.put hlt PT1.out Bw51.out [.slice pw51 nw51 kw51] (.cons Qw51.out .nil) rfl (by decide))
     have SG6 := Lib.hid ((SG.out.old Bw51.out).far (sets_size _ [.slice pw51 nw51 kw51] _ _) (below_sets _ _ _ (SG.out.bel.trans (Bw51.out.mono SG.out.bel.size)) _ (by have := GLO.out; have := SG4.out.siz; omega)) (heap_sets g4 [.slice pw51 nw51 kw51] (k * 94 + 78) _ _ (by have := GLO.out; have := SG4.out.siz; omega)) (heap_sets g4 [.slice pw51 nw51 kw51] (k * 94 + 78) _ _ (by have := GLO.out; have := SG4.out.siz; omega)))
     have S6 := Lib.hid (show StB w.heap.size 4 (.slice (some ⟨g4, 0, none⟩) es4.length k4) (w51.setCell ⟨g4, k * 94 + 78, none⟩ (.slice pw51 nw51 kw51)) from SG6.out.box.cell 4 _ V5.out)
     refine hK.out _ _ S6.out (fun hHeld12 => ?_)
     clear hK K
     try simp only [Act.put, List.setIfInBounds_toArray, List.set_cons_zero, List.set_cons_succ]
     refine wpAnyH_done (by kernel_rfl) ?_ _
     refine NoPanic.normal ?_
     obtain ⟨wm1, hwm1⟩ : ∃ W, W = w51.setCell ⟨g4, k * 94 + 78, none⟩ (.slice pw51 nw51 kw51) := ⟨_, rfl⟩
     have LIN := LI6
     have SGN := SG6
     change Hid (LpI _ _ _ _ _ _ _ (w51.setCell ⟨g4, k * 94 + 78, none⟩ (.slice pw51 nw51 kw51)) _ _ _ _) at LIN
     change Hid (Stg _ (w51.setCell ⟨g4, k * 94 + 78, none⟩ (.slice pw51 nw51 kw51)) _ _) at SGN
     rw [← hwm1] at LIN SGN
     have HWM1 := Lib.hid hwm1
     clear hwm1 LI SG LI6 SG6 S6 c0k1
     have LI := LIN
     have SG := SGN
     clear LIN SGN
     go_wp2_with fail
     rw [← HWM1.out]
     go_round
     case rel => exact ⟨k + 1, by omega, by go_num, SG.out, LI.out, fun h => by omega⟩
     case measure => simp [intOf]; omega
    ·obtain rfl : k = es4.length := by omega
     obtain ⟨W5, rfl⟩ : ∃ W, W = wr := ⟨_, rfl⟩
     have P4 := Lib.hid (ownX_of LI.out HG4.out OWN4.out ES4.out.len.symm (fun h0 => by rw [HNW.out h0]; exact Nat.le_refl _) (fun h0 b _ _ => by rw [HNW.out h0]))
     have KL4 := Lib.hid LI.out.kp
     have SG5 := SG
     have cn := SG5.out.box.cell 5 _ U5x5.out
     clear LI HLI4 SGs4 HNW
     go_wp2_with fail

     obtain ⟨es5, row5, hes5, hby5⟩ := R5.out.row (k := 89) rfl
     have ES5 := Lib.hid hes5
     have HBY5 := Lib.hid hby5
     refine (cloneWaiting sv5 es5 W5 (row5.below SG5.out.bel) (by rw [hes5.len]; omega)).mono ?_
     rintro e wa5 ⟨v5, rfl, own5, ba5⟩
     obtain ⟨p5, n5, k5, rfl⟩ := own_sl own5
     obtain ⟨rfl, hcap5, hnil5, hat5⟩ := own_cap own5
     have ca5 := (SG5.out.old ba5).box.cell 5 _ U5x5.out
     have fa5 := (SG5.out.old ba5).box.frozen 5
     obtain ⟨cs6, hcs6⟩ : ∃ l, l = cs5.set 5 (.slice p5 es5.length k5) := ⟨_, rfl⟩
     have hl6 : cs6.length = 19 := by rw [hcs6, List.length_set]; exact hl5
     obtain ⟨Ws5, hWs5, sg5, kp5, sz5, sm5⟩ := SG5.out.store ba5 5 (.slice p5 es5.length k5)
     rw [← hcs6] at sg5
     have U6x6 := Lib.hid (show cs6[6]? = some sv6 by rw [hcs6, List.getElem?_set_ne (by decide)]; exact U5x6.out)
     have U6x16 := Lib.hid (show cs6[16]? = some sv16 by rw [hcs6, List.getElem?_set_ne (by decide)]; exact U5x16.out)
     have V6 := Lib.hid (show cs6[5]? = some (.slice p5 es5.length k5) by rw [hcs6, List.getElem?_set_self (by rw [hl5]; decide)])
     have HCS6 := Lib.hid hcs6
     have KP5 := Lib.hid kp5
     have OWN5 := Lib.hid (ownsRow_same own5 (fun g hg => sm5 g (by have := (own5.lt g hg).1; have := SG5.out.siz; omega)))
     have WS5 := Lib.hid hWs5
     obtain ⟨g5, hg5, hli5⟩ : ∃ g5, (es5.length = 0 ∨ p5 = some ⟨g5, 0, none⟩) ∧ LpI F L w.heap.size 89 92 kWaiting W5 Ws5 g5 es5.length k5 (dxs ds 5) := by
      rcases own_form OWN5.out with ⟨cap, hv, h0⟩ | ⟨g, cap, hv⟩
      ·exact ⟨0, .inl h0, KP5.out, .inl h0⟩
      ·simp only [Value.slice.injEq] at hv
       obtain ⟨rfl, _, rfl⟩ := hv
       have hgw := (OWN5.out.lt g rfl).1
       have hsz := SG5.out.siz
       refine ⟨g, .inr rfl, KP5.out, .inr ⟨hcap5, hdC_of OWN5.out, es5, rfl, own_blkC OWN5.out rfl, ES5.out.frame (Nat.le_refl _) sg5.bel.size (fun b _ hlt => sg5.bel.block b hlt) (fun b hF hlt => .inl ⟨hF, hlt⟩), fun b hb => ?_⟩⟩
       rcases hb with hb | hb
       ·omega
       ·exact fun e => hb.2 (by rw [e])
     have HG5 := Lib.hid hg5
     have HLI5 := Lib.hid hli5
     have SGs5 := Lib.hid sg5
     have HCAP5 := Lib.hid hcap5
     have hnb5 : es5.length * 768 ≤ 140737488355328 := by rw [ES5.out.len]; exact Nat.le_trans HBY5.out hL
     have cls5 := sg5.box.cell 5 _ V6.out
     rw [WS5.out] at cls5
     clear own5 hWs5 kp5 hcs6 row5 hes5 hby5 sg5 sz5 sm5 ba5 hg5 hli5 hat5 hnil5 hcap5
     go_wp2_with fail
     rw [← WS5.out]
     go_loopw [82] (fun i wr => ∃ k : Nat, k ≤ es5.length ∧ i = .int .i64 k ∧ Stg w wr cs6 zs ∧ LpI F L w.heap.size 89 92 kWaiting W5 wr g5 es5.length k5 (dxs ds 5) ∧ (es5.length = 0 → wr = Ws5)) (fun i _ => es5.length - (intOf i).toNat)
     case atStart => exact ⟨0, by omega, rfl, SGs5.out, HLI5.out, fun _ => rfl⟩
     case round =>
      obtain ⟨k, hk, rfl, sg, li, hnw⟩ := hrel
      have SG := Lib.hid sg
      have LI := Lib.hid li
      have HNW := Lib.hid hnw
      clear sg li hnw
      by_cases hlt : k < es5.length
      ·have hp5 : p5 = some ⟨g5, 0, none⟩ := by
        rcases HG5.out with h | h
        ·omega
        ·exact h
       subst hp5
       have GLO := Lib.hid ((LI.out.part k hlt 0 0 (by decide)).2.2)
       obtain ⟨⟨vs0, dv0, pt0⟩, th0, _⟩ := LI.out.part k hlt 2 72 (by decide)
       have S0 := Lib.hid (show StB w.heap.size 5 (.slice (some ⟨g5, 0, none⟩) es5.length k5) wr from SG.out.box.cell 5 _ V6.out)
       have c0k0 := SG.out.box.cell 5 _ V6.out
       have PT0 := Lib.hid pt0
       have RG0 := Lib.hid (show wr.drew.rangeAt g5 (k * 89 + 2) vs0 from pt0.rng)
       have HI0 := Lib.hid (show (Try.prog.info? 78).map (·.size) = some vs0.length by rw [infoAbility, pt0.len])
       clear pt0 th0
       go_wp2_with fail
       refine wp_region_noPanic ?_
       refine wp_region_held_drew (S := StB w.heap.size 5 (.slice (some ⟨g5, 0, none⟩) es5.length k5)) (by kernel_rfl) (S0.out) (fun hHeld => ?_)
       refine wpAnyH_take (i := 0) (oi := ?oiA50x) (v := ?vA50x) ?hiA50x (by kernel_rfl) (by kernel_rfl) (by kernel_rfl) ?hqA50x ?hyA50x (by assumption) ?restA50x
       case hiA50x => (simp only [List.getElem?_toArray, List.getElem?_cons_zero] <;> rfl)
       case hqA50x => exact fun _ _ _ h => h
       case hyA50x => exact Or.inl ⟨by rfl, by (intro wS hSw; have s49 : wS.cell? ⟨w.heap.size, 5, none⟩ = some (.slice (some ⟨g5, 0, none⟩) es5.length k5) := hSw; go_simp; try with_reducible rfl)⟩
       try simp only [Act.put, List.setIfInBounds_toArray, List.set_cons_zero, List.set_cons_succ]
       refine wpAnyH_take (i := 1) (oi := ?oiA51x) (v := ?vA51x) ?hiA51x (by kernel_rfl) (by kernel_rfl) (by kernel_rfl) ?hqA51x ?hyA51x (by assumption) ?restA51x
       case hiA51x => (simp only [List.getElem?_toArray, List.getElem?_cons_succ, List.getElem?_cons_zero] <;> rfl)
       case hqA51x => exact fun _ _ _ h => h
       case hyA51x => exact Or.inl ⟨by rfl, by (intro wS hSw; have s49 : wS.cell? ⟨w.heap.size, 5, none⟩ = some (.slice (some ⟨g5, 0, none⟩) es5.length k5) := hSw; go_simp; try with_reducible rfl)⟩
       try simp only [Act.put, List.setIfInBounds_toArray, List.set_cons_zero, List.set_cons_succ]
       refine wpAnyH_take (i := 2) (oi := ?oiA52x) (v := ?vA52x) ?hiA52x (by kernel_rfl) (by kernel_rfl) (by kernel_rfl) ?hqA52x ?hyA52x (by assumption) ?restA52x
       case hiA52x => (simp only [List.getElem?_toArray, List.getElem?_cons_succ, List.getElem?_cons_zero] <;> rfl)
       case hqA52x => exact fun _ _ _ h => h
       case hyA52x => exact Or.inl ⟨by rfl, by (intro wS hSw; have s49 : wS.cell? ⟨w.heap.size, 5, none⟩ = some (.slice (some ⟨g5, 0, none⟩) es5.length k5) := hSw; go_simp; try with_reducible rfl)⟩
       try simp only [Act.put, List.setIfInBounds_toArray, List.set_cons_zero, List.set_cons_succ]
       refine wpAnyH_take (i := 3) (oi := ?oiA53x) (v := ?vA53x) ?hiA53x (by kernel_rfl) (by kernel_rfl) (by kernel_rfl) ?hqA53x ?hyA53x (by assumption) ?restA53x
       case hiA53x => (simp only [List.getElem?_toArray, List.getElem?_cons_succ, List.getElem?_cons_zero] <;> rfl)
       case hqA53x => exact fun _ _ _ h => h
       case hyA53x => exact Or.inl ⟨by rfl, by (intro wS hSw; have s49 : wS.cell? ⟨w.heap.size, 5, none⟩ = some (.slice (some ⟨g5, 0, none⟩) es5.length k5) := hSw; go_simp; try with_reducible rfl)⟩
       try simp only [Act.put, List.setIfInBounds_toArray, List.set_cons_zero, List.set_cons_succ]
       refine wpAnyH_take (i := 4) (oi := ?oiA54x) (v := ?vA54x) ?hiA54x (by kernel_rfl) (by kernel_rfl) (by kernel_rfl) ?hqA54x ?hyA54x (by assumption) ?restA54x
       case hiA54x => (simp only [List.getElem?_toArray, List.getElem?_cons_succ, List.getElem?_cons_zero] <;> rfl)
       case hqA54x => exact fun _ _ _ h => h
       case hyA54x => exact Or.inl ⟨by rfl, by (intro wS hSw; have s49 : wS.cell? ⟨w.heap.size, 5, none⟩ = some (.slice (some ⟨g5, 0, none⟩) es5.length k5) := hSw; go_simp; try with_reducible rfl)⟩
       try simp only [Act.put, List.setIfInBounds_toArray, List.set_cons_zero, List.set_cons_succ]
       refine wpAnyH_take (i := 5) (oi := ?oiA55x) (v := ?vA55x) ?hiA55x (by kernel_rfl) (by kernel_rfl) (by kernel_rfl) ?hqA55x ?hyA55x (by assumption) ?restA55x
       case hiA55x => (simp only [List.getElem?_toArray, List.getElem?_cons_succ, List.getElem?_cons_zero] <;> rfl)
       case hqA55x => exact fun _ _ _ h => h
       case hyA55x => exact Or.inl ⟨by rfl, by (intro wS hSw; have s49 : wS.cell? ⟨w.heap.size, 5, none⟩ = some (.slice (some ⟨g5, 0, none⟩) es5.length k5) := hSw; go_simp; try with_reducible rfl)⟩
       try simp only [Act.put, List.setIfInBounds_toArray, List.set_cons_zero, List.set_cons_succ]
       refine wpAnyH_take (i := 6) (oi := ?oiA56x) (v := ?vA56x) ?hiA56x (by kernel_rfl) (by kernel_rfl) (by kernel_rfl) ?hqA56x ?hyA56x (by assumption) ?restA56x
       case hiA56x => (simp only [List.getElem?_toArray, List.getElem?_cons_succ, List.getElem?_cons_zero] <;> rfl)
       case hqA56x => exact fun _ _ _ h => h
       case hyA56x => exact Or.inl ⟨by rfl, by (intro wS hSw; have s49 : wS.cell? ⟨w.heap.size, 5, none⟩ = some (.slice (some ⟨g5, 0, none⟩) es5.length k5) := hSw; go_simp; try with_reducible rfl)⟩
       try simp only [Act.put, List.setIfInBounds_toArray, List.set_cons_zero, List.set_cons_succ]
       refine wpAnyH_take (i := 7) (oi := ?oiA57x) (v := ?vA57x) ?hiA57x (by kernel_rfl) (by kernel_rfl) (by kernel_rfl) ?hqA57x ?hyA57x (by assumption) ?restA57x
       case hiA57x => (simp only [List.getElem?_toArray, List.getElem?_cons_succ, List.getElem?_cons_zero] <;> rfl)
       case hqA57x => exact fun _ _ _ h => h
       case hyA57x => exact Or.inl ⟨by rfl, by (intro wS hSw; have s49 : wS.cell? ⟨w.heap.size, 5, none⟩ = some (.slice (some ⟨g5, 0, none⟩) es5.length k5) := hSw; go_simp; try with_reducible rfl)⟩
       try simp only [Act.put, List.setIfInBounds_toArray, List.set_cons_zero, List.set_cons_succ]
       refine wpAnyH_ready (rs := [8]) (by kernel_rfl) (by simp) ?_
       refine AllReadyH.cons (o := ?oiA58x) ?hiA58x (fun K hK => ?hsA58x) AllReadyH.nil
       case hiA58x => (simp only [List.getElem?_toArray, List.getElem?_cons_succ, List.getElem?_cons_zero] <;> rfl)
       refine step_load_mid rfl 78 (.tmp 92) rfl g5 (k * 89 + 2) (by simp [Act.eval]) vs0 _ RG0.out Try.underlying78 rfl HI0.out ?_
       refine hK.out _ _ S0.out (fun hHeld8 => ?_)
       clear hHeld8
       clear hK K
       try simp only [Act.put, List.setIfInBounds_toArray, List.set_cons_zero, List.set_cons_succ]
       refine wpAnyH_ready (rs := [9]) (by kernel_rfl) (by simp) ?_
       refine AllReadyH.cons (o := ?oiA59x) ?hiA59x (fun K hK => ?hsA59x) AllReadyH.nil
       case hiA59x => (simp only [List.getElem?_toArray, List.getElem?_cons_succ, List.getElem?_cons_zero] <;> rfl)
       go_simp
       refine (copyAbility (Ft F w.heap.size W5.heap.size (some g5)) L vs0 dv0 wr.drew (PT0.out.rd.old (Below.refl _ _).drew) hL).mono ?_
       rintro e w50 ⟨cw50, rfl, rd5, b5⟩
       have Bw50 := Lib.hid (show Below wr.heap.size wr w50 from (Below.refl _ _).drew.trans b5)
       have RDw50 := Lib.hid (show RdL (Ft F w.heap.size W5.heap.size (some g5)) L w50 ((kWaiting.drop 2).take 72) cw50 dv0 from rd5.imp (fun b hb _ => by
        rcases hb with hb | hb
        ·exact hb.1
        ·exact .inr ⟨Nat.le_trans LI.out.kp.1 hb, fun e => by cases e; exact absurd hb (Nat.not_le.2 PT0.out.glt)⟩))
       have LNw50 := Lib.hid (show cw50.length = 72 by rw [rd5.len.1]; exact kAbility_len)
       have Sw50 := Lib.hid (show StB w.heap.size 5 (.slice (some ⟨g5, 0, none⟩) es5.length k5) w50 from (Bw50.out.cell (p := ⟨w.heap.size, 5, none⟩) SG.out.box.lt).trans S0.out)
       have THw50 := Lib.hid (show w50.there g5 (k * 89 + 2) cw50.length by rw [LNw50.out]; exact ((LI.out.old Bw50.out).part k hlt 2 72 (by decide)).2.1)
       have HIw50 := Lib.hid (show (Try.prog.info? 78).map (·.size) = some cw50.length by rw [infoAbility, LNw50.out])
       clear rd5 b5
       refine hK.out _ _ Sw50.out (fun hHeld9 => ?_)
       clear hK K
       try simp only [Act.put, List.setIfInBounds_toArray, List.set_cons_zero, List.set_cons_succ]
       refine wpAnyH_take (i := 10) (oi := ?oiA510x) (v := ?vA510x) ?hiA510x (by kernel_rfl) (by kernel_rfl) (by kernel_rfl) ?hqA510x ?hyA510x (by assumption) ?restA510x
       case hiA510x => (simp only [List.getElem?_toArray, List.getElem?_cons_succ, List.getElem?_cons_zero] <;> rfl)
       case hqA510x => exact fun _ _ _ h => h
       case hyA510x => exact Or.inl ⟨by rfl, by (intro wS hSw; have s49 : wS.cell? ⟨w.heap.size, 5, none⟩ = some (.slice (some ⟨g5, 0, none⟩) es5.length k5) := hSw; go_simp; try with_reducible rfl)⟩
       try simp only [Act.put, List.setIfInBounds_toArray, List.set_cons_zero, List.set_cons_succ]
       refine wpAnyH_take (i := 11) (oi := ?oiA511x) (v := ?vA511x) ?hiA511x (by kernel_rfl) (by kernel_rfl) (by kernel_rfl) ?hqA511x ?hyA511x (by assumption) ?restA511x
       case hiA511x => (simp only [List.getElem?_toArray, List.getElem?_cons_succ, List.getElem?_cons_zero] <;> rfl)
       case hqA511x => exact fun _ _ _ h => h
       case hyA511x => exact Or.inl ⟨by rfl, by (intro wS hSw; have s49 : wS.cell? ⟨w.heap.size, 5, none⟩ = some (.slice (some ⟨g5, 0, none⟩) es5.length k5) := hSw; go_simp; try with_reducible rfl)⟩
       try simp only [Act.put, List.setIfInBounds_toArray, List.set_cons_zero, List.set_cons_succ]
       refine wpAnyH_ready (rs := [12]) (by kernel_rfl) (by simp) ?_
       refine AllReadyH.cons (o := ?oiA512x) ?hiA512x (fun K hK => ?hsA512x) AllReadyH.nil
       case hiA512x => (simp only [List.getElem?_toArray, List.getElem?_cons_succ, List.getElem?_cons_zero] <;> rfl)
       refine step_store_mid rfl 78 (.tmp 96) (.tmp 94) rfl g5 (k * 89 + 2) cw50 (by simp [Act.eval]) (by simp [Act.eval]) THw50.out HIw50.out RDw50.out.one ?_
       have LI6 := Lib.hid (LI.out.put hlt PT0.out Bw50.out cw50 RDw50.out LNw50.out (by decide))
       have SG6 := Lib.hid ((SG.out.old Bw50.out).far (sets_size _ _ _ _) (below_sets _ _ _ (SG.out.bel.trans (Bw50.out.mono SG.out.bel.size)) _ (by have := GLO.out; have := SG5.out.siz; omega)) (heap_sets g5 cw50 (k * 89 + 2) _ _ (by have := GLO.out; have := SG5.out.siz; omega)) (heap_sets g5 cw50 (k * 89 + 2) _ _ (by have := GLO.out; have := SG5.out.siz; omega)))
       have S6 := Lib.hid (show StB w.heap.size 5 (.slice (some ⟨g5, 0, none⟩) es5.length k5) (w50.setCells g5 (k * 89 + 2) cw50) from SG6.out.box.cell 5 _ V6.out)
       refine hK.out _ _ S6.out (fun hHeld12 => ?_)
       clear hK K
       try simp only [Act.put]
       refine wpAnyH_done (by kernel_rfl) ?_ _
       refine NoPanic.normal ?_
       obtain ⟨wm0, hwm0⟩ : ∃ W, W = w50.setCells g5 (k * 89 + 2) cw50 := ⟨_, rfl⟩
       have LIN := LI6
       have SGN := SG6
       change Hid (LpI _ _ _ _ _ _ _ (w50.setCells g5 (k * 89 + 2) cw50) _ _ _ _) at LIN
       change Hid (Stg _ (w50.setCells g5 (k * 89 + 2) cw50) _ _) at SGN
       rw [← hwm0] at LIN SGN
       have HWM0 := Lib.hid hwm0
       clear hwm0 LI SG LI6 SG6 S6 c0k0
       have LI := LIN
       have SG := SGN
       clear LIN SGN
       go_wp2_with fail
       rw [← HWM0.out]
       go_round
       case rel => exact ⟨k + 1, by omega, by go_num, SG.out, LI.out, fun h => by omega⟩
       case measure => simp [intOf]; omega
      ·obtain rfl : k = es5.length := by omega
       obtain ⟨W6, rfl⟩ : ∃ W, W = wr := ⟨_, rfl⟩
       have P5 := Lib.hid (ownX_of LI.out HG5.out OWN5.out ES5.out.len.symm (fun h0 => by rw [HNW.out h0]; exact Nat.le_refl _) (fun h0 b _ _ => by rw [HNW.out h0]))
       have KL5 := Lib.hid LI.out.kp
       have SG6 := SG
       have cn := SG6.out.box.cell 6 _ U6x6.out
       clear LI HLI5 SGs5 HNW
       go_wp2_with fail

       obtain ⟨es6, row6, hes6, hby6⟩ := R6.out.row (k := 6) rfl
       have ES6 := Lib.hid hes6
       have HBY6 := Lib.hid hby6
       refine (cloneCont sv6 es6 W6 (row6.below SG6.out.bel) (by rw [hes6.len]; omega)).mono ?_
       rintro e wa6 ⟨v6, rfl, own6, ba6⟩
       obtain ⟨p6, n6, k6, rfl⟩ := own_sl own6
       obtain ⟨rfl, hcap6, hnil6, hat6⟩ := own_cap own6
       have ca6 := (SG6.out.old ba6).box.cell 6 _ U6x6.out
       have fa6 := (SG6.out.old ba6).box.frozen 6
       obtain ⟨cs7, hcs7⟩ : ∃ l, l = cs6.set 6 (.slice p6 es6.length k6) := ⟨_, rfl⟩
       have hl7 : cs7.length = 19 := by rw [hcs7, List.length_set]; exact hl6
       obtain ⟨Ws6, hWs6, sg6, kp6, sz6, sm6⟩ := SG6.out.store ba6 6 (.slice p6 es6.length k6)
       rw [← hcs7] at sg6
       have U7x16 := Lib.hid (show cs7[16]? = some sv16 by rw [hcs7, List.getElem?_set_ne (by decide)]; exact U6x16.out)
       have V7 := Lib.hid (show cs7[6]? = some (.slice p6 es6.length k6) by rw [hcs7, List.getElem?_set_self (by rw [hl6]; decide)])
       have HCS7 := Lib.hid hcs7
       have KP6 := Lib.hid kp6
       have OWN6 := Lib.hid (ownsRow_same own6 (fun g hg => sm6 g (by have := (own6.lt g hg).1; have := SG6.out.siz; omega)))
       have WS6 := Lib.hid hWs6
       obtain ⟨g6, hg6, hli6⟩ : ∃ g6, (es6.length = 0 ∨ p6 = some ⟨g6, 0, none⟩) ∧ LpI F L w.heap.size 6 94 kCont W6 Ws6 g6 es6.length k6 (dxs ds 6) := by
        rcases own_form OWN6.out with ⟨cap, hv, h0⟩ | ⟨g, cap, hv⟩
        ·exact ⟨0, .inl h0, KP6.out, .inl h0⟩
        ·simp only [Value.slice.injEq] at hv
         obtain ⟨rfl, _, rfl⟩ := hv
         have hgw := (OWN6.out.lt g rfl).1
         have hsz := SG6.out.siz
         refine ⟨g, .inr rfl, KP6.out, .inr ⟨hcap6, hdC_of OWN6.out, es6, rfl, own_blkC OWN6.out rfl, ES6.out.frame (Nat.le_refl _) sg6.bel.size (fun b _ hlt => sg6.bel.block b hlt) (fun b hF hlt => .inl ⟨hF, hlt⟩), fun b hb => ?_⟩⟩
         rcases hb with hb | hb
         ·omega
         ·exact fun e => hb.2 (by rw [e])
       have HG6 := Lib.hid hg6
       have HLI6 := Lib.hid hli6
       have SGs6 := Lib.hid sg6
       have HCAP6 := Lib.hid hcap6
       have hnb6 : es6.length * 80 ≤ 140737488355328 := by rw [ES6.out.len]; exact Nat.le_trans HBY6.out hL
       have cls6 := sg6.box.cell 6 _ V7.out
       rw [WS6.out] at cls6
       clear own6 hWs6 kp6 hcs7 row6 hes6 hby6 sg6 sz6 sm6 ba6 hg6 hli6 hat6 hnil6 hcap6
       go_wp2_with fail
       rw [← WS6.out]
       go_loopw [105] (fun i wr => ∃ k : Nat, k ≤ es6.length ∧ i = .int .i64 k ∧ Stg w wr cs7 zs ∧ LpI F L w.heap.size 6 94 kCont W6 wr g6 es6.length k6 (dxs ds 6) ∧ (es6.length = 0 → wr = Ws6)) (fun i _ => es6.length - (intOf i).toNat)
       case atStart => exact ⟨0, by omega, rfl, SGs6.out, HLI6.out, fun _ => rfl⟩
       case round =>
        obtain ⟨k, hk, rfl, sg, li, hnw⟩ := hrel
        have SG := Lib.hid sg
        have LI := Lib.hid li
        have HNW := Lib.hid hnw
        clear sg li hnw
        by_cases hlt : k < es6.length
        ·have hp6 : p6 = some ⟨g6, 0, none⟩ := by
          rcases HG6.out with h | h
          ·omega
          ·exact h
         subst hp6
         have GLO := Lib.hid ((LI.out.part k hlt 0 0 (by decide)).2.2)
         obtain ⟨⟨vs0, dv0, pt0⟩, th0, _⟩ := LI.out.part k hlt 4 1 (by decide)
         have S0 := Lib.hid (show StB w.heap.size 6 (.slice (some ⟨g6, 0, none⟩) es6.length k6) wr from SG.out.box.cell 6 _ V7.out)
         have c0k0 := SG.out.box.cell 6 _ V7.out
         have PT0 := Lib.hid pt0
         obtain ⟨m0, ms0, rfl, rfl, rm0, cm0⟩ := pt0.one (e' := (kI 1)) (by_ := 8) rfl
         have RM0 := Lib.hid rm0
         clear rm0 th0 pt0
         go_wp2_with fail
         refine wp_region_noPanic ?_
         refine wp_region_held_drew (S := StB w.heap.size 6 (.slice (some ⟨g6, 0, none⟩) es6.length k6)) (by kernel_rfl) (S0.out) (fun hHeld => ?_)
         refine wpAnyH_take (i := 0) (oi := ?oiA60x) (v := ?vA60x) ?hiA60x (by kernel_rfl) (by kernel_rfl) (by kernel_rfl) ?hqA60x ?hyA60x (by assumption) ?restA60x
         case hiA60x => (simp only [List.getElem?_toArray, List.getElem?_cons_zero] <;> rfl)
         case hqA60x => exact fun _ _ _ h => h
         case hyA60x => exact Or.inl ⟨by rfl, by (intro wS hSw; have s49 : wS.cell? ⟨w.heap.size, 6, none⟩ = some (.slice (some ⟨g6, 0, none⟩) es6.length k6) := hSw; go_simp; try with_reducible rfl)⟩
         try simp only [Act.put, List.setIfInBounds_toArray, List.set_cons_zero, List.set_cons_succ]
         refine wpAnyH_take (i := 1) (oi := ?oiA61x) (v := ?vA61x) ?hiA61x (by kernel_rfl) (by kernel_rfl) (by kernel_rfl) ?hqA61x ?hyA61x (by assumption) ?restA61x
         case hiA61x => (simp only [List.getElem?_toArray, List.getElem?_cons_succ, List.getElem?_cons_zero] <;> rfl)
         case hqA61x => exact fun _ _ _ h => h
         case hyA61x => exact Or.inl ⟨by rfl, by (intro wS hSw; have s49 : wS.cell? ⟨w.heap.size, 6, none⟩ = some (.slice (some ⟨g6, 0, none⟩) es6.length k6) := hSw; go_simp; try with_reducible rfl)⟩
         try simp only [Act.put, List.setIfInBounds_toArray, List.set_cons_zero, List.set_cons_succ]
         refine wpAnyH_take (i := 2) (oi := ?oiA62x) (v := ?vA62x) ?hiA62x (by kernel_rfl) (by kernel_rfl) (by kernel_rfl) ?hqA62x ?hyA62x (by assumption) ?restA62x
         case hiA62x => (simp only [List.getElem?_toArray, List.getElem?_cons_succ, List.getElem?_cons_zero] <;> rfl)
         case hqA62x => exact fun _ _ _ h => h
         case hyA62x => exact Or.inl ⟨by rfl, by (intro wS hSw; have s49 : wS.cell? ⟨w.heap.size, 6, none⟩ = some (.slice (some ⟨g6, 0, none⟩) es6.length k6) := hSw; go_simp; try with_reducible rfl)⟩
         try simp only [Act.put, List.setIfInBounds_toArray, List.set_cons_zero, List.set_cons_succ]
         refine wpAnyH_take (i := 3) (oi := ?oiA63x) (v := ?vA63x) ?hiA63x (by kernel_rfl) (by kernel_rfl) (by kernel_rfl) ?hqA63x ?hyA63x (by assumption) ?restA63x
         case hiA63x => (simp only [List.getElem?_toArray, List.getElem?_cons_succ, List.getElem?_cons_zero] <;> rfl)
         case hqA63x => exact fun _ _ _ h => h
         case hyA63x => exact Or.inl ⟨by rfl, by (intro wS hSw; have s49 : wS.cell? ⟨w.heap.size, 6, none⟩ = some (.slice (some ⟨g6, 0, none⟩) es6.length k6) := hSw; go_simp; try with_reducible rfl)⟩
         try simp only [Act.put, List.setIfInBounds_toArray, List.set_cons_zero, List.set_cons_succ]
         refine wpAnyH_take (i := 4) (oi := ?oiA64x) (v := ?vA64x) ?hiA64x (by kernel_rfl) (by kernel_rfl) (by kernel_rfl) ?hqA64x ?hyA64x (by assumption) ?restA64x
         case hiA64x => (simp only [List.getElem?_toArray, List.getElem?_cons_succ, List.getElem?_cons_zero] <;> rfl)
         case hqA64x => exact fun _ _ _ h => h
         case hyA64x => exact Or.inl ⟨by rfl, by (intro wS hSw; have s49 : wS.cell? ⟨w.heap.size, 6, none⟩ = some (.slice (some ⟨g6, 0, none⟩) es6.length k6) := hSw; go_simp; try with_reducible rfl)⟩
         try simp only [Act.put, List.setIfInBounds_toArray, List.set_cons_zero, List.set_cons_succ]
         refine wpAnyH_take (i := 5) (oi := ?oiA65x) (v := ?vA65x) ?hiA65x (by kernel_rfl) (by kernel_rfl) (by kernel_rfl) ?hqA65x ?hyA65x (by assumption) ?restA65x
         case hiA65x => (simp only [List.getElem?_toArray, List.getElem?_cons_succ, List.getElem?_cons_zero] <;> rfl)
         case hqA65x => exact fun _ _ _ h => h
         case hyA65x => exact Or.inl ⟨by rfl, by (intro wS hSw; have s49 : wS.cell? ⟨w.heap.size, 6, none⟩ = some (.slice (some ⟨g6, 0, none⟩) es6.length k6) := hSw; go_simp; try with_reducible rfl)⟩
         try simp only [Act.put, List.setIfInBounds_toArray, List.set_cons_zero, List.set_cons_succ]
         refine wpAnyH_take (i := 6) (oi := ?oiA66x) (v := ?vA66x) ?hiA66x (by kernel_rfl) (by kernel_rfl) (by kernel_rfl) ?hqA66x ?hyA66x (by assumption) ?restA66x
         case hiA66x => (simp only [List.getElem?_toArray, List.getElem?_cons_succ, List.getElem?_cons_zero] <;> rfl)
         case hqA66x => exact fun _ _ _ h => h
         case hyA66x => exact Or.inl ⟨by rfl, by (intro wS hSw; have s49 : wS.cell? ⟨w.heap.size, 6, none⟩ = some (.slice (some ⟨g6, 0, none⟩) es6.length k6) := hSw; go_simp; try with_reducible rfl)⟩
         try simp only [Act.put, List.setIfInBounds_toArray, List.set_cons_zero, List.set_cons_succ]
         refine wpAnyH_take (i := 7) (oi := ?oiA67x) (v := ?vA67x) ?hiA67x (by kernel_rfl) (by kernel_rfl) (by kernel_rfl) ?hqA67x ?hyA67x (by assumption) ?restA67x
         case hiA67x => (simp only [List.getElem?_toArray, List.getElem?_cons_succ, List.getElem?_cons_zero] <;> rfl)
         case hqA67x => exact fun _ _ _ h => h
         case hyA67x => exact Or.inl ⟨by rfl, by (intro wS hSw; have s49 : wS.cell? ⟨w.heap.size, 6, none⟩ = some (.slice (some ⟨g6, 0, none⟩) es6.length k6) := hSw; go_simp; try with_reducible rfl)⟩
         try simp only [Act.put, List.setIfInBounds_toArray, List.set_cons_zero, List.set_cons_succ]
         refine wpAnyH_ready (rs := [8]) (by kernel_rfl) (by simp) ?_
         refine AllReadyH.cons (o := ?oiA68x) ?hiA68x (fun K hK => ?hsA68x) AllReadyH.nil
         case hiA68x => (simp only [List.getElem?_toArray, List.getElem?_cons_succ, List.getElem?_cons_zero] <;> rfl)
         go_simp
         refine hK.out _ _ S0.out (fun hHeld8 => ?_)
         clear hHeld8
         clear hK K
         try simp only [Act.put, List.setIfInBounds_toArray, List.set_cons_zero, List.set_cons_succ]
         refine wpAnyH_ready (rs := [9]) (by kernel_rfl) (by simp) ?_
         refine AllReadyH.cons (o := ?oiA69x) ?hiA69x (fun K hK => ?hsA69x) AllReadyH.nil
         case hiA69x => (simp only [List.getElem?_toArray, List.getElem?_cons_succ, List.getElem?_cons_zero] <;> rfl)
         go_simp
         refine (cloneFint _ L m0 ms0 wr.drew (RM0.out.old (Below.refl _ _).drew) hL).mono ?_
         rintro e w50 ⟨pw50, nw50, kw50, rfl, q5, b5⟩
         have Bw50 := Lib.hid (show Below wr.heap.size wr w50 from (Below.refl _ _).drew.trans b5)
         have Qw50 := Lib.hid (q5 (Ft F w.heap.size W6.heap.size (some g6)) (fun b h1 _ => .inr ⟨Nat.le_trans LI.out.kp.1 h1, fun e => by cases e; exact absurd h1 (Nat.not_le.2 PT0.out.glt)⟩))
         have Sw50 := Lib.hid (show StB w.heap.size 6 (.slice (some ⟨g6, 0, none⟩) es6.length k6) w50 from (Bw50.out.cell (p := ⟨w.heap.size, 6, none⟩) SG.out.box.lt).trans S0.out)
         have c120 := (Bw50.out.cell (p := ⟨g6, k * 6 + 4, none⟩) PT0.out.glt).trans cm0
         have f120 := (((LI.out.old Bw50.out).part k hlt 4 1 (by decide)).2.1 0 Nat.one_pos).2
         clear q5 b5
         refine hK.out _ _ Sw50.out (fun hHeld9 => ?_)
         clear hK K
         try simp only [Act.put, List.setIfInBounds_toArray, List.set_cons_zero, List.set_cons_succ]
         refine wpAnyH_take (i := 10) (oi := ?oiA610x) (v := ?vA610x) ?hiA610x (by kernel_rfl) (by kernel_rfl) (by kernel_rfl) ?hqA610x ?hyA610x (by assumption) ?restA610x
         case hiA610x => (simp only [List.getElem?_toArray, List.getElem?_cons_succ, List.getElem?_cons_zero] <;> rfl)
         case hqA610x => exact fun _ _ _ h => h
         case hyA610x => exact Or.inl ⟨by rfl, by (intro wS hSw; have s49 : wS.cell? ⟨w.heap.size, 6, none⟩ = some (.slice (some ⟨g6, 0, none⟩) es6.length k6) := hSw; go_simp; try with_reducible rfl)⟩
         try simp only [Act.put, List.setIfInBounds_toArray, List.set_cons_zero, List.set_cons_succ]
         refine wpAnyH_take (i := 11) (oi := ?oiA611x) (v := ?vA611x) ?hiA611x (by kernel_rfl) (by kernel_rfl) (by kernel_rfl) ?hqA611x ?hyA611x (by assumption) ?restA611x
         case hiA611x => (simp only [List.getElem?_toArray, List.getElem?_cons_succ, List.getElem?_cons_zero] <;> rfl)
         case hqA611x => exact fun _ _ _ h => h
         case hyA611x => exact Or.inl ⟨by rfl, by (intro wS hSw; have s49 : wS.cell? ⟨w.heap.size, 6, none⟩ = some (.slice (some ⟨g6, 0, none⟩) es6.length k6) := hSw; go_simp; try with_reducible rfl)⟩
         try simp only [Act.put, List.setIfInBounds_toArray, List.set_cons_zero, List.set_cons_succ]
         refine wpAnyH_ready (rs := [12]) (by kernel_rfl) (by simp) ?_
         refine AllReadyH.cons (o := ?oiA612x) ?hiA612x (fun K hK => ?hsA612x) AllReadyH.nil
         case hiA612x => (simp only [List.getElem?_toArray, List.getElem?_cons_succ, List.getElem?_cons_zero] <;> rfl)
         go_simp
         have LI6 := Lib.hid (LI.out.put hlt PT0.out Bw50.out [.slice pw50 nw50 kw50] (.cons Qw50.out .nil) rfl (by decide))
         have SG6 := Lib.hid ((SG.out.old Bw50.out).far (sets_size _ [.slice pw50 nw50 kw50] _ _) (below_sets _ _ _ (SG.out.bel.trans (Bw50.out.mono SG.out.bel.size)) _ (by have := GLO.out; have := SG6.out.siz; omega)) (heap_sets g6 [.slice pw50 nw50 kw50] (k * 6 + 4) _ _ (by have := GLO.out; have := SG6.out.siz; omega)) (heap_sets g6 [.slice pw50 nw50 kw50] (k * 6 + 4) _ _ (by have := GLO.out; have := SG6.out.siz; omega)))
         have S6 := Lib.hid (show StB w.heap.size 6 (.slice (some ⟨g6, 0, none⟩) es6.length k6) (w50.setCell ⟨g6, k * 6 + 4, none⟩ (.slice pw50 nw50 kw50)) from SG6.out.box.cell 6 _ V7.out)
         refine hK.out _ _ S6.out (fun hHeld12 => ?_)
         clear hK K
         try simp only [Act.put, List.setIfInBounds_toArray, List.set_cons_zero, List.set_cons_succ]
         refine wpAnyH_done (by kernel_rfl) ?_ _
         refine NoPanic.normal ?_
         obtain ⟨wm0, hwm0⟩ : ∃ W, W = w50.setCell ⟨g6, k * 6 + 4, none⟩ (.slice pw50 nw50 kw50) := ⟨_, rfl⟩
         have LIN := LI6
         have SGN := SG6
         change Hid (LpI _ _ _ _ _ _ _ (w50.setCell ⟨g6, k * 6 + 4, none⟩ (.slice pw50 nw50 kw50)) _ _ _ _) at LIN
         change Hid (Stg _ (w50.setCell ⟨g6, k * 6 + 4, none⟩ (.slice pw50 nw50 kw50)) _ _) at SGN
         rw [← hwm0] at LIN SGN
         have HWM0 := Lib.hid hwm0
         clear hwm0 LI SG LI6 SG6 S6 c0k0
         have LI := LIN
         have SG := SGN
         clear LIN SGN
         rw [← HWM0.out]
         obtain ⟨⟨vs1, dv1, pt1⟩, th1, _⟩ := LI.out.part k hlt 5 1 (by decide)
         have S1 := Lib.hid (show StB w.heap.size 6 (.slice (some ⟨g6, 0, none⟩) es6.length k6) wm0 from SG.out.box.cell 6 _ V7.out)
         have c0k1 := SG.out.box.cell 6 _ V7.out
         have PT1 := Lib.hid pt1
         obtain ⟨m1, ms1, rfl, rfl, rm1, cm1⟩ := pt1.one (e' := kMod) (by_ := 176) rfl
         have RM1 := Lib.hid rm1
         clear rm1 th1 pt1
         go_wp2_with fail
         refine wp_region_noPanic ?_
         refine wp_region_held_drew (S := StB w.heap.size 6 (.slice (some ⟨g6, 0, none⟩) es6.length k6)) (by kernel_rfl) (S1.out) (fun hHeld => ?_)
         refine wpAnyH_take (i := 0) (oi := ?oiB60x) (v := ?vB60x) ?hiB60x (by kernel_rfl) (by kernel_rfl) (by kernel_rfl) ?hqB60x ?hyB60x (by assumption) ?restB60x
         case hiB60x => (simp only [List.getElem?_toArray, List.getElem?_cons_zero] <;> rfl)
         case hqB60x => exact fun _ _ _ h => h
         case hyB60x => exact Or.inl ⟨by rfl, by (intro wS hSw; have s49 : wS.cell? ⟨w.heap.size, 6, none⟩ = some (.slice (some ⟨g6, 0, none⟩) es6.length k6) := hSw; go_simp; try with_reducible rfl)⟩
         try simp only [Act.put, List.setIfInBounds_toArray, List.set_cons_zero, List.set_cons_succ]
         refine wpAnyH_take (i := 1) (oi := ?oiB61x) (v := ?vB61x) ?hiB61x (by kernel_rfl) (by kernel_rfl) (by kernel_rfl) ?hqB61x ?hyB61x (by assumption) ?restB61x
         case hiB61x => (simp only [List.getElem?_toArray, List.getElem?_cons_succ, List.getElem?_cons_zero] <;> rfl)
         case hqB61x => exact fun _ _ _ h => h
         case hyB61x => exact Or.inl ⟨by rfl, by (intro wS hSw; have s49 : wS.cell? ⟨w.heap.size, 6, none⟩ = some (.slice (some ⟨g6, 0, none⟩) es6.length k6) := hSw; go_simp; try with_reducible rfl)⟩
         try simp only [Act.put, List.setIfInBounds_toArray, List.set_cons_zero, List.set_cons_succ]
         refine wpAnyH_take (i := 2) (oi := ?oiB62x) (v := ?vB62x) ?hiB62x (by kernel_rfl) (by kernel_rfl) (by kernel_rfl) ?hqB62x ?hyB62x (by assumption) ?restB62x
         case hiB62x => (simp only [List.getElem?_toArray, List.getElem?_cons_succ, List.getElem?_cons_zero] <;> rfl)
         case hqB62x => exact fun _ _ _ h => h
         case hyB62x => exact Or.inl ⟨by rfl, by (intro wS hSw; have s49 : wS.cell? ⟨w.heap.size, 6, none⟩ = some (.slice (some ⟨g6, 0, none⟩) es6.length k6) := hSw; go_simp; try with_reducible rfl)⟩
         try simp only [Act.put, List.setIfInBounds_toArray, List.set_cons_zero, List.set_cons_succ]
         refine wpAnyH_take (i := 3) (oi := ?oiB63x) (v := ?vB63x) ?hiB63x (by kernel_rfl) (by kernel_rfl) (by kernel_rfl) ?hqB63x ?hyB63x (by assumption) ?restB63x
         case hiB63x => (simp only [List.getElem?_toArray, List.getElem?_cons_succ, List.getElem?_cons_zero] <;> rfl)
         case hqB63x => exact fun _ _ _ h => h
         case hyB63x => exact Or.inl ⟨by rfl, by (intro wS hSw; have s49 : wS.cell? ⟨w.heap.size, 6, none⟩ = some (.slice (some ⟨g6, 0, none⟩) es6.length k6) := hSw; go_simp; try with_reducible rfl)⟩
         try simp only [Act.put, List.setIfInBounds_toArray, List.set_cons_zero, List.set_cons_succ]
         refine wpAnyH_take (i := 4) (oi := ?oiB64x) (v := ?vB64x) ?hiB64x (by kernel_rfl) (by kernel_rfl) (by kernel_rfl) ?hqB64x ?hyB64x (by assumption) ?restB64x
         case hiB64x => (simp only [List.getElem?_toArray, List.getElem?_cons_succ, List.getElem?_cons_zero] <;> rfl)
         case hqB64x => exact fun _ _ _ h => h
         case hyB64x => exact Or.inl ⟨by rfl, by (intro wS hSw; have s49 : wS.cell? ⟨w.heap.size, 6, none⟩ = some (.slice (some ⟨g6, 0, none⟩) es6.length k6) := hSw; go_simp; try with_reducible rfl)⟩
         try simp only [Act.put, List.setIfInBounds_toArray, List.set_cons_zero, List.set_cons_succ]
         refine wpAnyH_take (i := 5) (oi := ?oiB65x) (v := ?vB65x) ?hiB65x (by kernel_rfl) (by kernel_rfl) (by kernel_rfl) ?hqB65x ?hyB65x (by assumption) ?restB65x
         case hiB65x => (simp only [List.getElem?_toArray, List.getElem?_cons_succ, List.getElem?_cons_zero] <;> rfl)
         case hqB65x => exact fun _ _ _ h => h
         case hyB65x => exact Or.inl ⟨by rfl, by (intro wS hSw; have s49 : wS.cell? ⟨w.heap.size, 6, none⟩ = some (.slice (some ⟨g6, 0, none⟩) es6.length k6) := hSw; go_simp; try with_reducible rfl)⟩
         try simp only [Act.put, List.setIfInBounds_toArray, List.set_cons_zero, List.set_cons_succ]
         refine wpAnyH_take (i := 6) (oi := ?oiB66x) (v := ?vB66x) ?hiB66x (by kernel_rfl) (by kernel_rfl) (by kernel_rfl) ?hqB66x ?hyB66x (by assumption) ?restB66x
         case hiB66x => (simp only [List.getElem?_toArray, List.getElem?_cons_succ, List.getElem?_cons_zero] <;> rfl)
         case hqB66x => exact fun _ _ _ h => h
         case hyB66x => exact Or.inl ⟨by rfl, by (intro wS hSw; have s49 : wS.cell? ⟨w.heap.size, 6, none⟩ = some (.slice (some ⟨g6, 0, none⟩) es6.length k6) := hSw; go_simp; try with_reducible rfl)⟩
         try simp only [Act.put, List.setIfInBounds_toArray, List.set_cons_zero, List.set_cons_succ]
         refine wpAnyH_take (i := 7) (oi := ?oiB67x) (v := ?vB67x) ?hiB67x (by kernel_rfl) (by kernel_rfl) (by kernel_rfl) ?hqB67x ?hyB67x (by assumption) ?restB67x
         case hiB67x => (simp only [List.getElem?_toArray, List.getElem?_cons_succ, List.getElem?_cons_zero] <;> rfl)
         case hqB67x => exact fun _ _ _ h => h
         case hyB67x => exact Or.inl ⟨by rfl, by (intro wS hSw; have s49 : wS.cell? ⟨w.heap.size, 6, none⟩ = some (.slice (some ⟨g6, 0, none⟩) es6.length k6) := hSw; go_simp; try with_reducible rfl)⟩
         try simp only [Act.put, List.setIfInBounds_toArray, List.set_cons_zero, List.set_cons_succ]
         refine wpAnyH_ready (rs := [8]) (by kernel_rfl) (by simp) ?_
         refine AllReadyH.cons (o := ?oiB68x) ?hiB68x (fun K hK => ?hsB68x) AllReadyH.nil
         case hiB68x => (simp only [List.getElem?_toArray, List.getElem?_cons_succ, List.getElem?_cons_zero] <;> rfl)
         go_simp
         refine hK.out _ _ S1.out (fun hHeld8 => ?_)
         clear hHeld8
         clear hK K
         try simp only [Act.put, List.setIfInBounds_toArray, List.set_cons_zero, List.set_cons_succ]
         refine wpAnyH_ready (rs := [9]) (by kernel_rfl) (by simp) ?_
         refine AllReadyH.cons (o := ?oiB69x) ?hiB69x (fun K hK => ?hsB69x) AllReadyH.nil
         case hiB69x => (simp only [List.getElem?_toArray, List.getElem?_cons_succ, List.getElem?_cons_zero] <;> rfl)
         go_simp
         refine (cloneFMod _ L m1 ms1 wm0.drew (RM1.out.old (Below.refl _ _).drew) hL).mono ?_
         rintro e w51 ⟨pw51, nw51, kw51, rfl, q5, b5⟩
         have Bw51 := Lib.hid (show Below wm0.heap.size wm0 w51 from (Below.refl _ _).drew.trans b5)
         have Qw51 := Lib.hid (q5 (Ft F w.heap.size W6.heap.size (some g6)) (fun b h1 _ => .inr ⟨Nat.le_trans LI.out.kp.1 h1, fun e => by cases e; exact absurd h1 (Nat.not_le.2 PT1.out.glt)⟩))
         have Sw51 := Lib.hid (show StB w.heap.size 6 (.slice (some ⟨g6, 0, none⟩) es6.length k6) w51 from (Bw51.out.cell (p := ⟨w.heap.size, 6, none⟩) SG.out.box.lt).trans S1.out)
         have c121 := (Bw51.out.cell (p := ⟨g6, k * 6 + 5, none⟩) PT1.out.glt).trans cm1
         have f121 := (((LI.out.old Bw51.out).part k hlt 5 1 (by decide)).2.1 0 Nat.one_pos).2
         clear q5 b5
         refine hK.out _ _ Sw51.out (fun hHeld9 => ?_)
         clear hK K
         try simp only [Act.put, List.setIfInBounds_toArray, List.set_cons_zero, List.set_cons_succ]
         refine wpAnyH_take (i := 10) (oi := ?oiB610x) (v := ?vB610x) ?hiB610x (by kernel_rfl) (by kernel_rfl) (by kernel_rfl) ?hqB610x ?hyB610x (by assumption) ?restB610x
         case hiB610x => (simp only [List.getElem?_toArray, List.getElem?_cons_succ, List.getElem?_cons_zero] <;> rfl)
         case hqB610x => exact fun _ _ _ h => h
         case hyB610x => exact Or.inl ⟨by rfl, by (intro wS hSw; have s49 : wS.cell? ⟨w.heap.size, 6, none⟩ = some (.slice (some ⟨g6, 0, none⟩) es6.length k6) := hSw; go_simp; try with_reducible rfl)⟩
         try simp only [Act.put, List.setIfInBounds_toArray, List.set_cons_zero, List.set_cons_succ]
         refine wpAnyH_take (i := 11) (oi := ?oiB611x) (v := ?vB611x) ?hiB611x (by kernel_rfl) (by kernel_rfl) (by kernel_rfl) ?hqB611x ?hyB611x (by assumption) ?restB611x
         case hiB611x => (simp only [List.getElem?_toArray, List.getElem?_cons_succ, List.getElem?_cons_zero] <;> rfl)
         case hqB611x => exact fun _ _ _ h => h
         case hyB611x => exact Or.inl ⟨by rfl, by (intro wS hSw; have s49 : wS.cell? ⟨w.heap.size, 6, none⟩ = some (.slice (some ⟨g6, 0, none⟩) es6.length k6) := hSw; go_simp; try with_reducible rfl)⟩
         try simp only [Act.put, List.setIfInBounds_toArray, List.set_cons_zero, List.set_cons_succ]
         refine wpAnyH_ready (rs := [12]) (by kernel_rfl) (by simp) ?_
         refine AllReadyH.cons (o := ?oiB612x) ?hiB612x (fun K hK => ?hsB612x) AllReadyH.nil
         case hiB612x => (simp only [List.getElem?_toArray, List.getElem?_cons_succ, List.getElem?_cons_zero] <;> rfl)
         go_simp
         have LI6 := Lib.hid (LI.out.put hlt PT1.out Bw51.out [.slice pw51 nw51 kw51] (.cons Qw51.out .nil) rfl (by decide))
         have SG6 := Lib.hid ((SG.out.old Bw51.out).far (sets_size _ [.slice pw51 nw51 kw51] _ _) (below_sets _ _ _ (SG.out.bel.trans (Bw51.out.mono SG.out.bel.size)) _ (by have := GLO.out; have := SG6.out.siz; omega)) (heap_sets g6 [.slice pw51 nw51 kw51] (k * 6 + 5) _ _ (by have := GLO.out; have := SG6.out.siz; omega)) (heap_sets g6 [.slice pw51 nw51 kw51] (k * 6 + 5) _ _ (by have := GLO.out; have := SG6.out.siz; omega)))
         have S6 := Lib.hid (show StB w.heap.size 6 (.slice (some ⟨g6, 0, none⟩) es6.length k6) (w51.setCell ⟨g6, k * 6 + 5, none⟩ (.slice pw51 nw51 kw51)) from SG6.out.box.cell 6 _ V7.out)
         refine hK.out _ _ S6.out (fun hHeld12 => ?_)
         clear hK K
         try simp only [Act.put, List.setIfInBounds_toArray, List.set_cons_zero, List.set_cons_succ]
         refine wpAnyH_done (by kernel_rfl) ?_ _
         refine NoPanic.normal ?_
         obtain ⟨wm1, hwm1⟩ : ∃ W, W = w51.setCell ⟨g6, k * 6 + 5, none⟩ (.slice pw51 nw51 kw51) := ⟨_, rfl⟩
         have LIN := LI6
         have SGN := SG6
         change Hid (LpI _ _ _ _ _ _ _ (w51.setCell ⟨g6, k * 6 + 5, none⟩ (.slice pw51 nw51 kw51)) _ _ _ _) at LIN
         change Hid (Stg _ (w51.setCell ⟨g6, k * 6 + 5, none⟩ (.slice pw51 nw51 kw51)) _ _) at SGN
         rw [← hwm1] at LIN SGN
         have HWM1 := Lib.hid hwm1
         clear hwm1 LI SG LI6 SG6 S6 c0k1
         have LI := LIN
         have SG := SGN
         clear LIN SGN
         go_wp2_with fail
         rw [← HWM1.out]
         go_round
         case rel => exact ⟨k + 1, by omega, by go_num, SG.out, LI.out, fun h => by omega⟩
         case measure => simp [intOf]; omega
        ·obtain rfl : k = es6.length := by omega
         obtain ⟨W7, rfl⟩ : ∃ W, W = wr := ⟨_, rfl⟩
         have P6 := Lib.hid (ownX_of LI.out HG6.out OWN6.out ES6.out.len.symm (fun h0 => by rw [HNW.out h0]; exact Nat.le_refl _) (fun h0 b _ _ => by rw [HNW.out h0]))
         have KL6 := Lib.hid LI.out.kp
         have SG7 := SG
         have cn := SG7.out.box.cell 16 _ U7x16.out
         clear LI HLI6 SGs6 HNW
         go_wp2_with fail

         obtain ⟨es7, row7, hes7, hby7⟩ := R16.out.row (k := 1) rfl
         have ES7 := Lib.hid hes7
         have HBY7 := Lib.hid hby7
         refine (cloneint sv16 es7 W7 (row7.below SG7.out.bel) (by rw [hes7.len]; omega)).mono ?_
         rintro e wa7 ⟨v7, rfl, own7, ba7⟩
         obtain ⟨p7, n7, k7, rfl⟩ := own_sl own7
         obtain ⟨rfl, hcap7, hnil7, hat7⟩ := own_cap own7
         have ca7 := (SG7.out.old ba7).box.cell 16 _ U7x16.out
         have fa7 := (SG7.out.old ba7).box.frozen 16
         obtain ⟨cs8, hcs8⟩ : ∃ l, l = cs7.set 16 (.slice p7 es7.length k7) := ⟨_, rfl⟩
         have hl8 : cs8.length = 19 := by rw [hcs8, List.length_set]; exact hl7
         obtain ⟨Ws7, hWs7, sg7, kp7, sz7, sm7⟩ := SG7.out.store ba7 16 (.slice p7 es7.length k7)
         rw [← hcs8] at sg7
         have V8 := Lib.hid (show cs8[16]? = some (.slice p7 es7.length k7) by rw [hcs8, List.getElem?_set_self (by rw [hl7]; decide)])
         have HCS8 := Lib.hid hcs8
         have KP7 := Lib.hid kp7
         have OWN7 := Lib.hid (ownsRow_same own7 (fun g hg => sm7 g (by have := (own7.lt g hg).1; have := SG7.out.siz; omega)))
         have WS7 := Lib.hid hWs7
         have P7 := Lib.hid (show OwnIn W7.heap.size Ws7.heap.size Ws7 (.slice p7 es7.length k7) (dxs ds 16) from ⟨⟨es7, OWN7.out, es_any (flat_ints 1) ES7.out⟩, fun g hg => (OWN7.out.lt g hg).2⟩)
         have E7 := Lib.hid KP7.out
         have E6 := Lib.hid (KL6.out.chain E7.out)
         have E5 := Lib.hid (KL5.out.chain E6.out)
         have E4 := Lib.hid (KL4.out.chain E5.out)
         have E3 := Lib.hid (KP3.out.chain E4.out)
         have E2 := Lib.hid (KP2.out.chain E3.out)
         have E1 := Lib.hid (KP1.out.chain E2.out)
         have key : ∀ Wx, Kp (w.heap.size + 1) Ws7.heap.size Ws7 Wx → Below w.heap.size w Wx → ∃ ρ, OwnS ρ L w.heap.size Wx cs8 ds ∧ ∀ b, b < w.heap.size → ¬ F b → ρ b = .none := fun Wx hk hbx => by
          have s1 := SG1.out.siz
          have t1 := E1.out.1
          have t2 := E2.out.1
          have t3 := E3.out.1
          have t4 := E4.out.1
          have t5 := E5.out.1
          have t6 := E6.out.1
          have t7 := E7.out.1
          have k1 := KP1.out.1
          have k2 := KP2.out.1
          have k3 := KP3.out.1
          have k4 := KL4.out.1
          have k5 := KL5.out.1
          have k6 := KL6.out.1
          have hne : w.heap.size < w.heap.size + 2 := by omega
          exact ownS_of rfl ((P0.out.kp E1.out (by omega)).kp (hk.mono t1) (by omega)) ((P1.out.kp flatObject E2.out (by omega)).kp flatObject (hk.mono t2) (by omega)) ((P2.out.kp E3.out (by omega)).kp (hk.mono t3) (by omega)) ((P3.out.kp E4.out (by omega)).kp (hk.mono t4) (by omega))
           ((P4.out.kp E5.out (Nat.le_refl _) (by omega)).kp hk (by omega) (by omega)) ((P5.out.kp E6.out (Nat.le_refl _) (by omega)).kp hk (by omega) (by omega)) ((P6.out.kp E7.out (Nat.le_refl _) (by omega)).kp hk (by omega) (by omega)) (P7.out.kp hk (by omega))
           (by omega) k1 k2 k3 k4 k5 k6 flatObject HH.out hbx (by rw [HCS8.out, HCS7.out, HCS6.out, HCS5.out, HCS4.out, HCS3.out, HCS2.out, HCS1.out])
         obtain ⟨ρ0, hρ0, _⟩ := key Ws7 (Kp.refl _ _ _) sg7.bel
         have RG := sg7.box.range
         have HI := Lib.hid (show (Try.prog.info? 30).map (·.size) = some cs8.length by rw [infoState, hl8])
         have hst := store_cs Ws7 (w.heap.size + 1) cs8 (by
          have e : cs8.length = zs.length := by rw [hl8, HZ.out]
          rw [e]
          exact sg7.res.there) hρ0.rd.one
         have Z4 := Lib.hid (sg7.res.setAll cs8 (by rw [hl8, HZ.out]))
         have SGE := Lib.hid sg7
         have KEY := Lib.hid key
         clear own7 hWs7 kp7 hcs8 row7 hes7 hby7 sg7 sz7 sm7 ba7 hat7 hnil7 hcap7 hρ0 key
         rw [WS7.out] at RG hst
         have RG := Lib.hid RG
         go_wp2_with (with_reducible refine wpList_load_mid rfl 30 (.tmp 1) rfl w.heap.size 0 ?_ cs8 _ RG.out Try.underlying30 rfl HI.out ?_; simp [Act.eval])
         rw [← WS7.out]
         have bl4 : Below w.heap.size w (Ws7.setCells (w.heap.size + 1) 0 cs8) := below_sets _ _ _ SGE.out.bel _ (by omega)
         refine bodyPost_ret (results_cs Try.results24 (w.heap.size + 1) ?_ cs8 _ (Bx.range Z4.out) Try.underlying30 rfl HI.out) rfl ?_
         ·rfl
         ·exact ⟨cs8, rfl, KEY.out _ ⟨by rw [sets_size]; exact Nat.le_refl _, fun b _ hn => heap_sets _ _ _ _ b hn⟩ bl4, bl4⟩
end Go.Proofs.Ytiebjkbofoppaaa
end
section
namespace Go.Proofs.Ytiebjkbofoppaaa
open Go Go.RowKit Go.Sort Cg
theorem setCells_arr {t : TypeId} {g : Nat} : ∀ (vs : List Value) (o : Nat) (w : World) (cur : Array Value), w.heap[g]? = some (.cells cur t (0, 0)) → o + vs.length ≤ cur.size →
  ∃ cur', (w.setCells g o vs).heap[g]? = some (.cells cur' t (0, 0)) ∧ cur'.size = cur.size ∧ ∀ m, cur'[m]? = if o ≤ m ∧ m < o + vs.length then vs[m - o]? else cur[m]?
 | [], o, w, cur, hg, _ => ⟨cur, hg, rfl, fun m => by rw [if_neg (by simp)]⟩
 | v :: vs, o, w, cur, hg, hl => by
  rw [List.length_cons] at hl
  have hg2 : (w.setCell ⟨g, o, none⟩ v).heap[g]? = some (.cells (cur.setIfInBounds o v) t (0, 0)) := by
   simp only [World.setCell, Array.getElem?_modify]
   simp [hg]
  obtain ⟨cur', h1, h2, h3⟩ := setCells_arr vs (o + 1) _ _ hg2 (by rw [Array.size_setIfInBounds]; omega)
  refine ⟨cur', h1, by rw [h2, Array.size_setIfInBounds], fun m => ?_⟩
  rw [h3 m, List.length_cons]
  by_cases hm : m = o
  ·subst hm
   rw [if_neg (by omega), if_pos (by omega), Nat.sub_self, Array.getElem?_setIfInBounds, if_pos rfl, if_pos (by omega)]
   simp
  ·by_cases hr : o + 1 ≤ m ∧ m < o + 1 + vs.length
   ·rw [if_pos hr, if_pos (by omega), show m - o = m - (o + 1) + 1 by omega, List.getElem?_cons_succ]
   ·rw [if_neg hr, if_neg (by omega), Array.getElem?_setIfInBounds, if_neg (fun e => hm e.symm)]
/-- Elements written from place j on, behind the last one too. -/
theorem BlkC.write {k : Nat} {t : TypeId} {B g cap : Nat} {w : World} {es : List (Cl k)} (h : BlkC k t w g es) (hd : HdC B t k w g cap) (j : Nat) (ys : List (Cl k)) (hj : j ≤ es.length) (hc : j + ys.length ≤ cap) :
  BlkC k t (w.setCells g (j * k) (ys.flatMap Subtype.val)) g (es.take j ++ ys ++ es.drop (j + ys.length)) ∧ HdC B t k (w.setCells g (j * k) (ys.flatMap Subtype.val)) g cap := by
 refine ⟨?_, hd.sets _ _ _⟩
 obtain ⟨cur, hg, hl, hcell⟩ := h
 obtain ⟨_, _, cur0, hg0, hs0⟩ := hd
 rw [hg] at hg0
 obtain rfl : cur = cur0 := by simpa using hg0
 have hyl := flat_len (enc := Subtype.val) Cl.len ys
 have hle : j * k + ys.length * k ≤ cap * k := by rw [← Nat.add_mul]; exact Nat.mul_le_mul_right k hc
 obtain ⟨cur', h1, h2, h3⟩ := setCells_arr (t := t) (g := g) (ys.flatMap Subtype.val) (j * k) w cur hg (by rw [hyl, hs0]; exact hle)
 refine ⟨cur', h1, ?_, fun q x hq i u hu => ?_⟩
 ·rw [h2]
  simp only [List.length_append, List.length_take, List.length_drop]
  by_cases hx : j + ys.length ≤ es.length
  ·rw [show min j es.length + ys.length + (es.length - (j + ys.length)) = es.length by omega]; exact hl
  ·rw [show min j es.length + ys.length + (es.length - (j + ys.length)) = j + ys.length by omega, Nat.add_mul, hs0]; exact hle
 ·have hik : i < k := by have := (List.getElem?_eq_some_iff.1 hu).1; rwa [Cl.len] at this
  have htl : (es.take j).length = j := by rw [List.length_take]; omega
  rw [h3, hyl]
  rcases Nat.lt_trichotomy q j with hlt | heq | hgt
  ·have : q * k + k ≤ j * k := by rw [← Nat.succ_mul]; exact Nat.mul_le_mul_right k hlt
   rw [if_neg (by omega)]
   rw [List.append_assoc, List.getElem?_append_left (by omega), List.getElem?_take, if_pos hlt] at hq
   exact hcell q x hq i u hu
  ·subst heq
   rw [List.append_assoc, List.getElem?_append_right (by omega), htl, Nat.sub_self] at hq
   by_cases hy0 : 0 < ys.length
   ·rw [List.getElem?_append_left hy0] at hq
    have hk1 : k ≤ ys.length * k := Nat.le_mul_of_pos_left k hy0
    rw [if_pos (by omega), show q * k + i - q * k = 0 * k + i by omega]
    exact (flat_get Cl.len ys 0 x hq i hik).trans hu
   ·have hy : ys = [] := List.eq_nil_of_length_eq_zero (by omega)
    subst hy
    rw [if_neg (by simp)]
    simp only [List.nil_append, List.length_nil, Nat.add_zero, List.getElem?_drop] at hq
    exact hcell q x hq i u hu
  ·rw [List.append_assoc, List.getElem?_append_right (by omega), htl] at hq
   by_cases hy : q - j < ys.length
   ·rw [List.getElem?_append_left hy] at hq
    have e1 : j * k + (q - j) * k = q * k := by rw [← Nat.add_mul]; congr 1; omega
    have e2 : (q - j) * k + k ≤ ys.length * k := by rw [← Nat.succ_mul]; exact Nat.mul_le_mul_right k hy
    rw [if_pos (by omega), show q * k + i - j * k = (q - j) * k + i by omega]
    exact (flat_get Cl.len ys (q - j) x hq i hik).trans hu
   ·rw [List.getElem?_append_right (by omega), List.getElem?_drop, show j + ys.length + (q - j - ys.length) = q by omega] at hq
    have e1 : (j + ys.length) * k ≤ q * k := Nat.mul_le_mul_right k (by omega)
    rw [Nat.add_mul] at e1
    rw [if_neg (by omega)]
    exact hcell q x hq i u hu
theorem BlkC.take {k : Nat} {t : TypeId} {g : Nat} {w : World} {es : List (Cl k)} (h : BlkC k t w g es) (n : Nat) : BlkC k t w g (es.take n) := by
 obtain ⟨cur, hg, hl, hcell⟩ := h
 refine ⟨cur, hg, Nat.le_trans (Nat.mul_le_mul_right k (by rw [List.length_take]; exact Nat.min_le_right _ _)) hl, fun j x hj => ?_⟩
 rw [List.getElem?_take] at hj
 split at hj
 ·exact hcell j x hj
 ·cases hj
/-- A copy of elements of k cells: all is read before anything is written. -/
theorem run_copy_cellsK {P : Program} (w : World) (dT sT ty elem : TypeId) (k b o dLen dCap : Nat) (a : Addr) (sLen sCap : Nat) (cs : List Value)
  (hu : P.underlying dT = some (.slice elem)) (hs : (P.info? elem).map (·.size) = some k) (hn : cs.length = Nat.min sLen dLen * k)
  (hsrc : ∀ j v, cs[j]? = some v → w.cell? (a.add j) = some v) (hc : ∀ j, j < cs.length → (w.cell? ⟨b, o + j, none⟩).isSome = true) (hf : ∀ j, j < cs.length → w.frozen? ⟨b, o + j, none⟩ = false) (h1 : ∀ v ∈ cs, v.oneCell' = true) :
  (Builtin.copy_ #[dT, sT] ty #[.slice (some ⟨b, o, none⟩) dLen dCap, .slice (some a) sLen sCap]).run P w = .ok (goInt (Nat.min sLen dLen)) (w.setCells b o cs) := by
 have hl := run_loadCells_list (P := P) w a cs hsrc
 have hst := run_storeCells_cells (P := P) b o cs 0 w (by simpa using hc) (by simpa using hf) h1
 cases hq : P.info? elem with
 | none => simp [hq] at hs
 | some i =>
  have hi : i.size = k := by simpa [hq] using hs
  simp [Builtin.copy_, run_underlying hu, Builtin.lenOf, Builtin.firstCells, sizeOf, typeInfo, hq, hi, ← hn, hl, hst]
/-- append to a row of the call's own: the row stays in its block or moves to a new one. -/
theorem run_append_own2 {P : Program} (w : World) (base : Nat) (t ty e : TypeId) {z : Value} {k bytes : Nat} (hE : ElemIs P t e z k bytes)
  (v : Value) (n : Nat) (xs : List Value) (hown : w.ownsRow base e k v n xs)
  (a : Addr) (m c : Nat) (news : List Value) (hl : news.length = m * k) (hnews : ∀ j u, news[j]? = some u → w.cell? (a.add j) = some u) (h1 : ∀ u ∈ news, u.oneCell' = true)
  (h63 : n + m ≤ maxLen) (hbytes : (n + m) * bytes ≤ 140737488355328) (hbase : base ≤ w.heap.size) (hm : 0 < m) :
  ∃ v' w', (Builtin.append_ #[t, t] ty #[v, .slice (some a) m c]).run P w = .ok v' w' ∧ w'.ownsRow base e k v' (n + m) (xs ++ news) ∧ w.grownBy w' v.ownBlock ∧ (v'.ownBlock = v.ownBlock ∨ v'.ownBlock = some w.heap.size) := by
 obtain ⟨ht, hzs, hsz, i, hi, hz, hsize, hby⟩ := hE
 obtain ⟨v', w', hr, h2, h3, _⟩ := run_append_own (P := P) w base t ty e i z k bytes ht hi hz hsize hby hzs hsz v n xs hown a m c news hl hnews h1 h63 hbytes hbase
 refine ⟨v', w', hr, h2, h3, ?_⟩
 have hsmall : n + m ≤ 9223372036854775807 := by simp only [maxLen] at h63; omega
 subst hsize
 subst hby
 rcases hown.2 with ⟨rfl, rfl⟩ | ⟨g, cap, cur, rfl, hbg, hg, hnc, hcm, hcs, htake⟩
 ·have hq := run_append_nil (P := P) w t ty e i z ht hi hz a m c news hl hnews (by omega) (by omega) (by have hb := hbytes; simp only [Nat.zero_add] at hb; omega)
  rw [hq] at hr
  cases hr
  exact .inr rfl
 ·by_cases hroom : n + m ≤ cap
  ·have hfit : n * i.size + news.length ≤ cur.size := by rw [hl, hcs, ← Nat.add_mul]; exact Nat.mul_le_mul_right _ hroom
   have hq := run_append_room (P := P) w t ty e i ht hi g n cap cur hg a m c news hl hnews h1 hroom hfit
   rw [hq] at hr
   cases hr
   exact .inl rfl
  ·have holds : ∀ j u, xs[j]? = some u → w.cell? ((⟨g, 0, none⟩ : Addr).add j) = some u := hown.cells (g := g) rfl
   have hq := run_append_grow (P := P) w t ty e i z ht hi hz ⟨g, 0, none⟩ n cap xs hown.1 holds a m c news hl hnews (by omega) (by omega) (growslice_fits (by omega) hbytes)
   rw [hq] at hr
   cases hr
   exact .inr rfl
theorem wpList_append_own2 {P : Program} {w : World} {ops : Array Oper} {rest : List Oper} {o : Oper} {a : Act} {Q : Exit → Act → World → Prop} (hgd : o.guard = none) (s x : Operand) (t : TypeId)
  (ho : o.op = .call { callee := .builtin .append, args := #[s, x], argTypes := #[t, t] })
  (base : Nat) {e : TypeId} {z : Value} {k bytes : Nat} (hE : ElemIs P t e z k bytes)
  (v : Value) (n : Nat) (xs : List Value) (hs : a.eval s = v) (hown : w.ownsRow base e k v n xs)
  (ad : Addr) (m c : Nat) (news : List Value) (hx : a.eval x = .slice (some ad) m c) (hl : news.length = m * k) (hnews : ∀ j u, news[j]? = some u → w.cell? (ad.add j) = some u) (h1 : ∀ u ∈ news, u.oneCell' = true)
  (h63 : n + m ≤ maxLen) (hbytes : (n + m) * bytes ≤ 140737488355328) (hbase : base ≤ w.heap.size) (hm : 0 < m)
  (h : ∀ v' w', w'.ownsRow base e k v' (n + m) (xs ++ news) → w.grownBy w' v.ownBlock → (v'.ownBlock = v.ownBlock ∨ v'.ownBlock = some w.heap.size) → wpList P ops Q rest (a.put o.dst v') w') :
  wpList P ops Q (o :: rest) a w := by
 refine wpList_plain hgd fun K hK => ?_
 obtain ⟨v', w', hr, h2, h3, h4⟩ := run_append_own2 w base t o.type e hE v n xs hown ad m c news hl hnews h1 h63 hbytes hbase hm
 exact Lib.wp_append_run w s x t t ho v _ hs hx v' w' hr (hK _ _ (h v' w' h2 h3 h4))
end Go.Proofs.Ytiebjkbofoppaaa
end
section
namespace Go.Proofs.Ytiebjkbofoppaaa
open Go Go.RowKit Go.Sort Go.Shelf Cg
theorem insSizeObject : (Try.prog.info? 47).map (·.size) = some 19 := by kernel_rfl
theorem ovlObject (w : World) (a b : Addr) (la ca lb cb : Nat) (hne : a.block ≠ b.block) (tA tB : TypeId) (kA kB : Nat)
  (hsa : w.shape? a.block = some (tA, kA)) (hsb : w.shape? b.block = some (tB, kB)) (hkB : kB ≠ 0)
  (hfa : w.frozen? a = false) (hfe : w.frozen? { block := a.block, off := kA } = false) : (callFunc 79 #[.slice (some a) la ca, .slice (some b) lb cb]).run Try.prog w = .ok (.value (.bool false)) w := by
 rw [run_callFunc_extern Try.func79 (by kernel_rfl) (by kernel_rfl) (by kernel_rfl) (e := Extern.SlicesOverlaps.overlaps #[23, 23] #[4]) (by kernel_rfl),
  Lib.run_overlaps_apart w 23 4 47 Try.underlying23 19 (fun w => by kernel_rfl) a b la ca lb cb hne tA tB kA kB hsa hsb hkB hfa hfe]
 rfl
set_option maxRecDepth 100000 in
set_option maxHeartbeats 2000000 in
theorem insShiftObject (base g n c i nb : Nat) (es : List (Cl 19)) (y : Cl 19) (w : World) (hb : BlkC 19 47 w g es) (hh : HdC base 47 19 w g c) (hl : es.length = n) (hi : i < n) (hroom : n + 1 ≤ c) (hnb : Bx w nb 47 y.1) (hne : nb ≠ g) :
  Calls Try.prog 68 #[.slice (some ⟨g, 0, none⟩) n c, .int .i64 i, .slice (some ⟨nb, 0, none⟩) 1 1] w fun e w' => e = .returned (.slice (some ⟨g, 0, none⟩) (n + 1) c) ∧ w' = (w.drew.setCells g ((i + 1) * 19) ((es.drop i).flatMap Subtype.val)).setCells g (i * 19) y.1 := by
 obtain ⟨h0, hc63, cur, hg, hcs⟩ := hh
 have hdl : ((es.drop i).flatMap Subtype.val).length = (n - i) * 19 := by rw [flat_len Cl.len, List.length_drop, hl]
 have hin : ∀ j, j < (n + 1) * 19 → (w.cell? ⟨g, j, none⟩).isSome = true := fun j hj => by
  rw [cell_of_row _ _ j _ _ _ hg, Array.getElem?_eq_getElem (by rw [hcs]; exact Nat.lt_of_lt_of_le hj (Nat.mul_le_mul_right _ hroom))]
  rfl
 have hfz : ∀ j, w.frozen? ⟨g, j, none⟩ = false := fun j => hb.frozen j
 have hov : ∀ lb cb, (callFunc 79 #[.slice (some ⟨nb, 0, none⟩) 1 1, .slice (some ⟨g, (i + 1) * 19, none⟩) lb cb]).run Try.prog w = .ok (.value (.bool false)) w := fun lb cb =>
  ovlObject w ⟨nb, 0, none⟩ ⟨g, (i + 1) * 19, none⟩ 1 1 lb cb hne 47 47 19 (c * 19) (by unfold Bx at hnb; simp [World.shape?, hnb, y.len]) (by simp [World.shape?, hg, hcs]) (by omega) (hnb.frozen 0) (hnb.frozen 19)
 obtain ⟨W1, hW1⟩ : ∃ W1, W1 = w.drew.setCells g ((i + 1) * 19) ((es.drop i).flatMap Subtype.val) := ⟨_, rfl⟩
 have hcp1 : ∀ ty dc sc, (Builtin.copy_ #[23, 23] ty #[.slice (some ⟨g, (i + 1) * 19, none⟩) (n - i) dc, .slice (some ⟨g, i * 19, none⟩) (n + 1 - i) sc]).run Try.prog w.drew = .ok (goInt (Nat.min (n + 1 - i) (n - i))) W1 := fun ty dc sc => by
  rw [hW1]
  refine run_copy_cellsK w.drew _ _ ty 47 19 g ((i + 1) * 19) (n - i) dc ⟨g, i * 19, none⟩ (n + 1 - i) sc _ Try.underlying23 insSizeObject (by rw [hdl]; simp only [Nat.min_def]; split <;> congr 1 <;> omega)
   (fun j v hj => ?_) (fun j hj => hin _ (by rw [hdl] at hj; omega)) (fun j hj => hfz _) (fun u hu => by
    obtain ⟨x, _, hx⟩ := List.mem_flatMap.1 hu
    exact Cl.one x u hx)
  rw [Addr.add_lit]
  have hj1 := (List.getElem?_eq_some_iff.1 hj).1
  rw [hdl] at hj1
  have hq : j / 19 < (es.drop i).length := by rw [List.length_drop, hl]; omega
  have hg2 := flat_get (enc := Subtype.val) Cl.len (es.drop i) (j / 19) _ (List.getElem?_eq_getElem hq) (j % 19) (Nat.mod_lt _ (by decide))
  rw [show j / 19 * 19 + j % 19 = j by omega, hj] at hg2
  rw [List.getElem_drop] at hg2
  have := hb.cell (i + j / 19) _ (List.getElem?_eq_getElem (by rw [List.length_drop] at hq; omega)) (j % 19) v hg2.symm
  rw [show (i + j / 19) * 19 + j % 19 = i * 19 + j by omega] at this
  exact this
 have hsp1 : ∀ j, j < (n + 1) * 19 → (W1.cell? ⟨g, j, none⟩).isSome = true := fun j hj => by
  rw [hW1]
  exact isSome_setCells g ((es.drop i).flatMap Subtype.val) ((i + 1) * 19) w.drew (fun t ht => hin ((i + 1) * 19 + t) (by rw [hdl] at ht; omega)) j (hin j hj)
 have hcp2 : ∀ (W : World), (∀ x, W.cell? x = W1.cell? x) → (∀ x, W.frozen? x = W1.frozen? x) → ∀ ty dc, (Builtin.copy_ #[23, 23] ty #[.slice (some ⟨g, i * 19, none⟩) (n + 1 - i) dc, .slice (some ⟨nb, 0, none⟩) 1 1]).run Try.prog W = .ok (goInt (Nat.min 1 (n + 1 - i))) (W.setCells g (i * 19) y.1) := fun W hWc hWf ty dc =>
  run_copy_cellsK W _ _ ty 47 19 g (i * 19) (n + 1 - i) dc ⟨nb, 0, none⟩ 1 1 y.1 Try.underlying23 insSizeObject (by rw [y.len, show Nat.min 1 (n + 1 - i) = 1 by simp only [Nat.min_def]; split <;> omega])
   (fun j v hj => by
    rw [Addr.add_lit, hWc, hW1, World.cell?_setCells_out g _ _ _ _ (fun h _ => absurd h hne), Nat.zero_add]
    exact hnb.cell j v hj)
   (fun j hj => by rw [hWc]; exact hsp1 _ (by rw [y.len] at hj; omega)) (fun j hj => by rw [hWf, hW1, World.frozen?_setCells]; exact hfz _) y.one
 rw [← hW1]
 have HCP1 := Lib.hid hcp1
 have HCP2 := Lib.hid hcp2
 have HOV := Lib.hid hov
 have hz2 : ((i : Int) == (n : Int)) = false := beq_eq_false_iff_ne.2 (by omega)
 have hz2' : ¬ ((i : Int) = (n : Int)) := by omega
 have hcm : c ≤ 9223372036854775807 := by have := hc63; simp only [maxLen] at this; omega
 have hz3 : ¬ ((c : Int) < (n : Int) + 1) := by omega
 have hw0 : (0 : Int) ≤ (i : Int) + 1 := by omega
 have hw1 : IntKind.i64.wrap ((i : Int) + 1) = (i : Int) + 1 := by rw [IntKind.wrap_i64]; omega
 have hw2 : IntKind.i64.wrap ((n : Int) + 1) = (n : Int) + 1 := by rw [IntKind.wrap_i64]; omega
 have hin2 : i ≤ n := by omega
 have hin3 : i + 1 ≤ n + 1 := by omega
 have hin4 : i ≤ n + 1 := by omega
 have hnc : n ≤ c := by omega
 have hb3 : (i : Int) ≤ (n : Int) + 1 := by omega
 have hb2 : ¬ (c = i + 1) := by omega
 have hb4 : ¬ (c = i) := by omega
 clear hin hfz hov hcp1 hcp2 hsp1 hW1 hdl hb hg hcs h0 hc63 hnb
 go_enter Try.func68, Try.ntmps68
 go_wp2_with (simp only [HOV.out])
 go_region_law (refine step_copy_runI rfl (.tmp 73) (.tmp 76) 23 23 rfl (.slice (some ⟨g, (i + 1) * 19, none⟩) (n - i) (c - (i + 1))) (.slice (some ⟨g, i * 19, none⟩) (n + 1 - i) (c - i)) (by simp [Act.eval, Act.put]) (by simp [Act.eval, Act.put]) (HCP1.out _ _ _) ?_)
 have hq2 := HCP2.out W1 (fun _ => rfl) (fun _ => rfl)
 go_wp2_with fail
 go_ret
 exact ⟨rfl, rfl⟩
set_option maxRecDepth 100000 in
set_option maxHeartbeats 2000000 in
theorem insGrowObject (base g n c i nb : Nat) (es : List (Cl 19)) (y : Cl 19) (w : World) (hb : BlkC 19 47 w g es) (hl : es.length = n) (hi : i < n) (hnc : n ≤ c) (hroom : c < n + 1) (hbig : (n + 1) * 128 ≤ 140737488355328) (hnb : Bx w nb 47 y.1) (hbase : base ≤ w.heap.size) :
  Calls Try.prog 68 #[.slice (some ⟨g, 0, none⟩) n c, .int .i64 i, .slice (some ⟨nb, 0, none⟩) 1 1] w fun e w' => ∃ G, e = .returned (.slice (some ⟨w.heap.size, 0, none⟩) (n + 1) G) ∧ w'.ownsRow base 47 19 (.slice (some ⟨w.heap.size, 0, none⟩) (n + 1) G) (n + 1) ((es.take i ++ y :: es.drop i).flatMap Subtype.val) ∧ Below w.heap.size w w' := by
 obtain ⟨z, ht, hzs, hsz, i0, hi0, hz0, hs0, hby0⟩ := elemObject
 have hgw := hb.lt
 have hnw := hnb.lt
 have hdl : ((es.drop i).flatMap Subtype.val).length = (n - i) * 19 := by rw [flat_len Cl.len, List.length_drop, hl]
 have htl : ((es.take i).flatMap Subtype.val).length = i * 19 := by rw [flat_len Cl.len, List.length_take, hl, Nat.min_eq_left (by omega)]
 have hkk : (n : Int) + 1 - (i : Int) = ((n + 1 - i : Nat) : Int) := by omega
 have hik : i + (n + 1 - i) = n + 1 := by omega
 have srcG : ∀ j v, (es.flatMap Subtype.val)[j]? = some v → w.cell? ⟨g, j, none⟩ = some v := fun j v hj => by
  have hj1 := (List.getElem?_eq_some_iff.1 hj).1
  rw [flat_len Cl.len, hl] at hj1
  have hq : j / 19 < es.length := by rw [hl]; omega
  have hg2 := flat_get (enc := Subtype.val) Cl.len es (j / 19) _ (List.getElem?_eq_getElem hq) (j % 19) (Nat.mod_lt _ (by decide))
  rw [show j / 19 * 19 + j % 19 = j by omega, hj] at hg2
  have := hb.cell (j / 19) _ (List.getElem?_eq_getElem hq) (j % 19) v hg2.symm
  rw [show j / 19 * 19 + j % 19 = j by omega] at this
  exact this
 have hsplit : es.flatMap Subtype.val = (es.take i).flatMap Subtype.val ++ (es.drop i).flatMap Subtype.val := by rw [← List.flatMap_append, List.take_append_drop]
 have hold : (Builtin.firstCells i0.size i (.slice (some ⟨g, 0, none⟩) i c)).run Try.prog w.drew = .ok ((es.take i).flatMap Subtype.val).toArray w.drew := by
  rw [hs0]
  exact run_firstCells_some w.drew 19 i ⟨g, 0, none⟩ i c _ htl (fun j v hj => by
   rw [Addr.add_lit, Nat.zero_add]
   refine srcG j v ?_
   rw [hsplit, List.getElem?_append_left (List.getElem?_eq_some_iff.1 hj).1]
   exact hj)
 have hrz : ∀ ty, (Builtin.append_ #[23, 3] ty #[.slice (some ⟨g, 0, none⟩) i c, .int .i64 ((n : Int) + 1 - (i : Int))]).run Try.prog w =
   .ok (.slice (some ⟨w.heap.size, 0, none⟩) (n + 1) (grownCap w (n + 1) c 47)) (w.drew.alloc (.cells (((es.take i).flatMap Subtype.val).toArray ++ Builtin.zeroCells z.cells (n + 1 - i) ++ Builtin.zeroCells z.cells (grownCap w (n + 1) c 47 - (n + 1))) 47)) := fun ty => by
  have h := Lib.run_append_grow_zeros w 23 3 ty 47 i0 _ .i64 .i64 ht Try.underlying3 hi0 hz0 (some ⟨g, 0, none⟩) i c _ hold (n + 1 - i) (by omega) (by omega) (by omega) (by omega) (by rw [hby0]; omega) (by rw [hby0, hik]; exact growslice_fits hroom hbig)
  rw [hik] at h
  rw [hkk]
  exact h
 obtain ⟨G, hG⟩ : ∃ G, G = grownCap w (n + 1) c 47 := ⟨_, rfl⟩
 have hGn : n + 1 ≤ G := by rw [hG]; exact grownCap_ge w _ _ _
 have hGm : G ≤ maxLen := by rw [hG]; exact grownCap_le_maxLen w (n + 1) c 47 (by unfold maxLen; omega)
 obtain ⟨ROW, hROW⟩ : ∃ ROW : Array Value, ROW = ((es.take i).flatMap Subtype.val).toArray ++ Builtin.zeroCells z.cells (n + 1 - i) ++ Builtin.zeroCells z.cells (G - (n + 1)) := ⟨_, rfl⟩
 rw [← hG, ← hROW] at hrz
 have hRl : ROW.size = G * 19 := by
  rw [hROW, Array.size_append, Array.size_append, size_zeroCells, size_zeroCells, hzs, List.size_toArray, htl]
  omega
 obtain ⟨W1, hW1⟩ : ∃ W1, W1 = w.drew.alloc (.cells ROW 47) := ⟨_, rfl⟩
 rw [← hW1] at hrz
 have hrow : W1.heap[w.heap.size]? = some (.cells ROW 47 (0, 0)) := by rw [hW1]; exact heap_alloc_new w.drew _
 have hN : ∀ j, j < (n + 1) * 19 → (W1.cell? ⟨w.heap.size, j, none⟩).isSome = true := fun j hj => by
  rw [cell_of_row _ _ j _ _ _ hrow, Array.getElem?_eq_getElem (by rw [hRl]; exact Nat.lt_of_lt_of_le hj (Nat.mul_le_mul_right _ hGn))]
  rfl
 have hNf : ∀ j, W1.frozen? ⟨w.heap.size, j, none⟩ = false := fun j => by simp [World.frozen?, hrow]
 have hOld : ∀ b, b < w.heap.size → W1.heap[b]? = w.heap[b]? := fun b hlt => by rw [hW1]; exact heap_alloc_old w.drew _ hlt
 have hcpA : ∀ ty dc, (Builtin.copy_ #[23, 23] ty #[.slice (some ⟨w.heap.size, i * 19, none⟩) (n + 1 - i) dc, .slice (some ⟨nb, 0, none⟩) 1 1]).run Try.prog W1 = .ok (goInt (Nat.min 1 (n + 1 - i))) (W1.setCells w.heap.size (i * 19) y.1) := fun ty dc =>
  run_copy_cellsK W1 _ _ ty 47 19 w.heap.size (i * 19) (n + 1 - i) dc ⟨nb, 0, none⟩ 1 1 y.1 Try.underlying23 insSizeObject (by rw [y.len, show Nat.min 1 (n + 1 - i) = 1 by simp only [Nat.min_def]; split <;> omega])
   (fun j v hj => by
    rw [Addr.add_lit, Nat.zero_add]
    exact (World.cell?_of_block (a := ⟨nb, j, none⟩) (hOld nb hnw)).trans (hnb.cell j v hj))
   (fun j hj => hN _ (by rw [y.len] at hj; omega)) (fun j hj => hNf _) y.one
 obtain ⟨W2, hW2⟩ : ∃ W2, W2 = W1.setCells w.heap.size (i * 19) y.1 := ⟨_, rfl⟩
 rw [← hW2] at hcpA
 have hcpB : ∀ ty dc sc, (Builtin.copy_ #[23, 23] ty #[.slice (some ⟨w.heap.size, (i + 1) * 19, none⟩) (n - i) dc, .slice (some ⟨g, i * 19, none⟩) (n - i) sc]).run Try.prog W2.drew = .ok (goInt (Nat.min (n - i) (n - i))) (W2.drew.setCells w.heap.size ((i + 1) * 19) ((es.drop i).flatMap Subtype.val)) := fun ty dc sc =>
  run_copy_cellsK W2.drew _ _ ty 47 19 w.heap.size ((i + 1) * 19) (n - i) dc ⟨g, i * 19, none⟩ (n - i) sc _ Try.underlying23 insSizeObject (by rw [hdl, show Nat.min (n - i) (n - i) = n - i from Nat.min_self _])
   (fun j v hj => by
    rw [Addr.add_lit]
    have e1 : W2.heap[g]? = w.heap[g]? := by rw [hW2, heap_sets _ _ _ _ g (by omega)]; exact hOld g hgw
    refine (World.cell?_of_block (w := w) (w' := W2.drew) (a := ⟨g, i * 19 + j, none⟩) e1).trans (srcG (i * 19 + j) v ?_)
    rw [hsplit, List.getElem?_append_right (by rw [htl]; omega), htl, show i * 19 + j - i * 19 = j by omega]
    exact hj)
   (fun j hj => by
    show (W2.cell? _).isSome = true
    rw [hW2]
    exact isSome_setCells w.heap.size y.1 (i * 19) W1 (fun t ht => hN (i * 19 + t) (by rw [y.len] at ht; omega)) _ (hN _ (by rw [hdl] at hj; omega)))
   (fun j hj => by
    show W2.frozen? _ = false
    rw [hW2, World.frozen?_setCells]
    exact hNf _) (fun u hu => by
    obtain ⟨x, _, hx⟩ := List.mem_flatMap.1 hu
    exact Cl.one x u hx)
 have HF := Lib.hid (show (W2.drew.setCells w.heap.size ((i + 1) * 19) ((es.drop i).flatMap Subtype.val)).ownsRow base 47 19 (.slice (some ⟨w.heap.size, 0, none⟩) (n + 1) G) (n + 1) ((es.take i ++ y :: es.drop i).flatMap Subtype.val) ∧ Below w.heap.size w (W2.drew.setCells w.heap.size ((i + 1) * 19) ((es.drop i).flatMap Subtype.val)) by
  have hd : HdC base 47 19 W1 w.heap.size G := ⟨hbase, hGm, ROW, hrow, hRl⟩
  have htl2 : (es.take i).length = i := by rw [List.length_take, hl, Nat.min_eq_left (by omega)]
  have b1 : BlkC 19 47 W1 w.heap.size (es.take i) := ⟨ROW, hrow, by rw [hRl, htl2]; exact Nat.mul_le_mul_right _ (by omega), fun j x hj q u hu => by
   have hq : q < 19 := by have := (List.getElem?_eq_some_iff.1 hu).1; rwa [Cl.len] at this
   have hjl := (List.getElem?_eq_some_iff.1 hj).1
   rw [htl2] at hjl
   have := flat_get (enc := Subtype.val) Cl.len (es.take i) j x hj q hq
   rw [hROW, Array.append_assoc, Array.getElem?_append_left (by rw [List.size_toArray, htl]; omega), List.getElem?_toArray, this]
   exact hu⟩
  obtain ⟨b2, d2⟩ := BlkC.write b1 hd i [y] (by rw [htl2]; exact Nat.le_refl _) (by rw [List.length_singleton]; omega)
  rw [List.flatMap_cons, List.flatMap_nil, List.append_nil] at b2 d2
  have e2 : (es.take i).take i ++ [y] ++ (es.take i).drop (i + [y].length) = es.take i ++ [y] := by
   rw [List.take_of_length_le (by omega), List.drop_eq_nil_of_le (by rw [htl2]; omega), List.append_nil]
  rw [e2] at b2
  have hl3 : (es.take i ++ [y]).length = i + 1 := by rw [List.length_append, htl2, List.length_singleton]
  obtain ⟨b3, d3⟩ := BlkC.write (w := W2.drew) (es := es.take i ++ [y]) (by rw [hW2]; exact b2) (by rw [hW2]; exact d2) (i + 1) (es.drop i) (by rw [hl3]; exact Nat.le_refl _) (by rw [List.length_drop, hl]; omega)
  have e3 : (es.take i ++ [y]).take (i + 1) ++ es.drop i ++ (es.take i ++ [y]).drop (i + 1 + (es.drop i).length) = es.take i ++ y :: es.drop i := by
   rw [show (es.take i ++ [y]).take (i + 1) = es.take i ++ [y] from List.take_of_length_le (by omega), show (es.take i ++ [y]).drop (i + 1 + (es.drop i).length) = [] from List.drop_eq_nil_of_le (by rw [hl3]; omega), List.append_nil, List.append_assoc, List.singleton_append]
  rw [e3] at b3
  have hl4 : (es.take i ++ y :: es.drop i).length = n + 1 := by rw [List.length_append, htl2, List.length_cons, List.length_drop, hl]; omega
  refine ⟨?_, ?_⟩
  ·have := own_of b3 d3 (by rw [hl4]; exact hGn)
   rw [hl4] at this

   exact this
  ·refine below_sets _ _ _ ?_ _ (Nat.le_refl _)
   show Below w.heap.size w W2.drew
   rw [hW2]
   refine Below.drew (below_sets _ _ _ ?_ _ (Nat.le_refl _))
   rw [hW1]
   exact ((Below.refl w.heap.size w).drew).alloc (Nat.le_refl _) _)
 have hGi : ¬ (G = i) := by omega
 have hGim : ¬ (G = i + 1) := by omega
 have hci : ¬ (c = i) := by omega
 have hG63 : G ≤ 9223372036854775807 := by have := hGm; simp only [maxLen] at this; omega
 have hz2 : ((i : Int) == (n : Int)) = false := beq_eq_false_iff_ne.2 (by omega)
 have hz2' : ¬ ((i : Int) = (n : Int)) := by omega
 have hz3 : (c : Int) < (n : Int) + 1 := by omega
 have hw0 : (0 : Int) ≤ (i : Int) + 1 := by omega
 have hw1 : IntKind.i64.wrap ((i : Int) + 1) = (i : Int) + 1 := by rw [IntKind.wrap_i64]; omega
 have hw2 : IntKind.i64.wrap ((n : Int) + 1) = (n : Int) + 1 := by rw [IntKind.wrap_i64]; omega
 have hw3 : IntKind.i64.wrap ((n : Int) + 1 - (i : Int)) = (n : Int) + 1 - (i : Int) := by rw [IntKind.wrap_i64]; omega
 have hin : i ≤ n := by omega
 have hic : i ≤ c := by omega
 have hin4 : i ≤ n + 1 := by omega
 have hin3 : i + 1 ≤ n + 1 := by omega
 have hb3 : (i : Int) ≤ (n : Int) + 1 := by omega
 have hb5 : (i : Int) ≤ (n : Int) := by omega
 have HRZ := Lib.hid hrz
 have HCPB := Lib.hid hcpB
 clear hrz hcpB hROW hRl hrow hN hNf hOld hW1 hW2 hdl htl hkk hik srcG hsplit hold hG hGm hb hnb hz0 hi0 ht hzs hsz hs0 hby0
 go_enter Try.func68, Try.ntmps68
 go_wp2_with (at_builtin; refine Lib.wpList_append_run _ rfl _ _ _ _ rfl _ _ rfl rfl _ _ (HRZ.out _) ?_)
 go_region_law (refine step_copy_runI rfl (.tmp 50) (.tmp 53) 23 23 rfl (.slice (some ⟨w.heap.size, (i + 1) * 19, none⟩) (n - i) (G - (i + 1))) (.slice (some ⟨g, i * 19, none⟩) (n - i) (c - i)) (by simp [Act.eval, Act.put]) (by simp [Act.eval, Act.put]) (HCPB.out _ _ _) ?_)
 go_wp2_with fail
 go_ret
 exact ⟨G, rfl, HF.out⟩
set_option maxRecDepth 100000 in
set_option maxHeartbeats 2000000 in
theorem insertObject (base : Nat) (v : Value) (es : List (Cl 19)) (i nb : Nat) (y : Cl 19) (w : World) (hown : w.ownsRow base 47 19 v es.length (es.flatMap Subtype.val)) (hi : i ≤ es.length) (hbig : (es.length + 1) * 128 ≤ 140737488355328) (hnb : Bx w nb 47 y.1) (hne : v.ownBlock ≠ some nb) (hbase : base ≤ w.heap.size) :
  Calls Try.prog 68 #[v, .int .i64 i, .slice (some ⟨nb, 0, none⟩) 1 1] w fun e w' => ∃ ao m c, e = .returned (.slice ao m c) ∧ w'.ownsRow base 47 19 (.slice ao m c) (es.length + 1) ((es.take i ++ y :: es.drop i).flatMap Subtype.val) ∧ w.grownBy w' v.ownBlock ∧ ((Value.slice ao m c).ownBlock = v.ownBlock ∨ (Value.slice ao m c).ownBlock = some w.heap.size) := by
 by_cases hend : i = es.length
 ·obtain ⟨z, hE⟩ := elemObject
  have HE := Lib.hid hE
  have HOWN := Lib.hid hown
  have HNB := Lib.hid hnb
  obtain ⟨n, hn⟩ : ∃ n, n = es.length := ⟨_, rfl⟩
  obtain ⟨p, m, c, rfl⟩ := own_sl hown
  obtain ⟨hmn, hcn, hnil, hat⟩ := own_cap hown
  subst hmn
  rw [← hn] at HOWN hcn hbig hend ⊢
  subst hend
  have hyl : y.1.length = 1 * 19 := by rw [y.len]
  have hes : es.take i = es := List.take_of_length_le (by omega)
  have hes2 : es.drop i = [] := List.drop_eq_nil_of_le (by omega)
  rw [hes, hes2, List.flatMap_append, List.flatMap_cons, List.flatMap_nil, List.append_nil]
  obtain ⟨fs, hfs⟩ : ∃ fs, fs = es.flatMap Subtype.val := ⟨_, rfl⟩
  rw [← hfs] at HOWN ⊢
  have hc63 : c ≤ 9223372036854775807 := by
   rcases hown.2 with ⟨hv, _⟩ | ⟨g', cap', cur, hv, _, _, _, hm, _⟩
   ·simp only [Value.slice.injEq] at hv; omega
   ·simp only [Value.slice.injEq] at hv
    have := hm
    simp only [maxLen] at this
    omega
  rw [← hn] at hown
  obtain ⟨ob, hob⟩ : ∃ ob, ob = (Value.slice p i c).ownBlock := ⟨_, rfl⟩
  have HOB := Lib.hid hob
  rw [← hob]
  clear hes hes2 hnil hat hE hown hnb hfs hn hi hob hne
  go_enter Try.func68, Try.ntmps68
  go_wp2_with (at_builtin; refine wpList_append_own2 rfl (.tmp 23) (.tmp 24) 23 rfl base HE.out (.slice p i c) i fs rfl HOWN.out ⟨nb, 0, none⟩ 1 1 y.1 rfl hyl (fun j u hj => by rw [Addr.add_lit, Nat.zero_add]; exact HNB.out.cell j u hj) y.one (by simp only [maxLen]; omega) hbig hbase (by decide) ?_; intro v1 w1 own1 gr1 fr1; have O1 := Lib.hid own1; have G1 := Lib.hid gr1; have F1 := Lib.hid fr1; clear own1 gr1 fr1)
  all_goals
   go_ret
   obtain ⟨p1, m1, c1, rfl⟩ := own_sl O1.out
   exact ⟨_, _, _, rfl, O1.out, by rw [HOB.out]; exact G1.out, by rw [HOB.out]; exact F1.out⟩
 ·have hlt : i < es.length := by omega
  rcases own_form hown with ⟨cap, rfl, h0⟩ | ⟨g, c, rfl⟩
  ·omega
  ·have hgb := (hown.lt g rfl)
   obtain ⟨_, hcn, _, _⟩ := own_cap hown
   have hne2 : nb ≠ g := fun e => hne (by rw [e]; rfl)
   have hb := own_blkC hown rfl
   have hd := hdC_of hown
   by_cases hroom : es.length + 1 ≤ c
   ·refine (insShiftObject base g es.length c i nb es y w hb hd rfl hlt hroom hnb hne2).mono ?_
    rintro e w' ⟨rfl, rfl⟩
    refine ⟨_, _, _, rfl, ?_, ⟨?_, ?_, ?_, by rw [sets_size, sets_size]; exact Nat.le_refl _, fun q hq hr => ?_⟩, .inl rfl⟩
    ·obtain ⟨b1, d1⟩ := BlkC.write (w := w.drew) hb hd (i + 1) (es.drop i) (by omega) (by rw [List.length_drop]; omega)
     have e1 : es.take (i + 1) ++ es.drop i ++ es.drop (i + 1 + (es.drop i).length) = es.take (i + 1) ++ es.drop i := by
      rw [show es.drop (i + 1 + (es.drop i).length) = [] from List.drop_eq_nil_of_le (by rw [List.length_drop]; omega), List.append_nil]
     rw [e1] at b1
     have l1 : (es.take (i + 1) ++ es.drop i).length = es.length + 1 := by rw [List.length_append, List.length_take, List.length_drop]; omega
     obtain ⟨b2, d2⟩ := BlkC.write b1 d1 i [y] (by omega) (by rw [List.length_singleton]; omega)
     have e2 : (es.take (i + 1) ++ es.drop i).take i ++ [y] ++ (es.take (i + 1) ++ es.drop i).drop (i + [y].length) = es.take i ++ y :: es.drop i := by
      rw [List.take_append_of_le_length (by rw [List.length_take]; omega), List.take_take, Nat.min_eq_left (by omega), List.length_singleton, List.drop_left' (by rw [List.length_take]; omega), List.append_assoc, List.singleton_append]
     rw [e2, List.flatMap_cons, List.flatMap_nil, List.append_nil] at b2
     rw [List.flatMap_cons, List.flatMap_nil, List.append_nil] at d2
     have l2 : (es.take i ++ y :: es.drop i).length = es.length + 1 := by rw [List.length_append, List.length_take, List.length_cons, List.length_drop]; omega
     have := own_of b2 d2 (by rw [l2]; exact hroom)
     rw [l2] at this

     exact this
    ·have := below_sets y.1 (i * 19) _ (below_sets ((es.drop i).flatMap Subtype.val) ((i + 1) * 19) _ ((Below.refl base w).drew) g hgb.1) g hgb.1
     exact this.os
    ·have := below_sets y.1 (i * 19) _ (below_sets ((es.drop i).flatMap Subtype.val) ((i + 1) * 19) _ ((Below.refl base w).drew) g hgb.1) g hgb.1
     exact this.tape
    ·have := below_sets y.1 (i * 19) _ (below_sets ((es.drop i).flatMap Subtype.val) ((i + 1) * 19) _ ((Below.refl base w).drew) g hgb.1) g hgb.1
     exact this.output
    ·have hqg : q ≠ g := fun e => hr (by rw [e]; rfl)
     rw [heap_sets _ _ _ _ q hqg, heap_sets _ _ _ _ q hqg]
     rfl
   ·refine (insGrowObject base g es.length c i nb es y w hb rfl hlt hcn (by omega) hbig hnb hbase).mono ?_
    rintro e w' ⟨G, rfl, own, bel⟩
    exact ⟨_, _, _, rfl, own, ⟨bel.os, bel.tape, bel.output, bel.size, fun q hq _ => bel.block q hq⟩, .inr rfl⟩
theorem insSizeint : (Try.prog.info? 3).map (·.size) = some 1 := by kernel_rfl
theorem ovlint (w : World) (a b : Addr) (la ca lb cb : Nat) (hne : a.block ≠ b.block) (tA tB : TypeId) (kA kB : Nat)
  (hsa : w.shape? a.block = some (tA, kA)) (hsb : w.shape? b.block = some (tB, kB)) (hkB : kB ≠ 0)
  (hfa : w.frozen? a = false) (hfe : w.frozen? { block := a.block, off := kA } = false) : (callFunc 69 #[.slice (some a) la ca, .slice (some b) lb cb]).run Try.prog w = .ok (.value (.bool false)) w := by
 rw [run_callFunc_extern Try.func69 (by kernel_rfl) (by kernel_rfl) (by kernel_rfl) (e := Extern.SlicesOverlaps.overlaps #[24, 24] #[4]) (by kernel_rfl),
  Lib.run_overlaps_apart w 24 4 3 Try.underlying24 1 (fun w => by kernel_rfl) a b la ca lb cb hne tA tB kA kB hsa hsb hkB hfa hfe]
 rfl
set_option maxRecDepth 100000 in
set_option maxHeartbeats 2000000 in
theorem insShiftint (base g n c i nb : Nat) (es : List (Cl 1)) (y : Cl 1) (w : World) (hb : BlkC 1 3 w g es) (hh : HdC base 3 1 w g c) (hl : es.length = n) (hi : i < n) (hroom : n + 1 ≤ c) (hnb : Bx w nb 3 y.1) (hne : nb ≠ g) :
  Calls Try.prog 40 #[.slice (some ⟨g, 0, none⟩) n c, .int .i64 i, .slice (some ⟨nb, 0, none⟩) 1 1] w fun e w' => e = .returned (.slice (some ⟨g, 0, none⟩) (n + 1) c) ∧ w' = (w.drew.setCells g ((i + 1)) ((es.drop i).flatMap Subtype.val)).setCells g (i) y.1 := by
 obtain ⟨h0, hc63, cur, hg, hcs⟩ := hh
 have hdl : ((es.drop i).flatMap Subtype.val).length = (n - i) * 1 := by rw [flat_len Cl.len, List.length_drop, hl]
 have hin : ∀ j, j < (n + 1) * 1 → (w.cell? ⟨g, j, none⟩).isSome = true := fun j hj => by
  rw [cell_of_row _ _ j _ _ _ hg, Array.getElem?_eq_getElem (by rw [hcs]; exact Nat.lt_of_lt_of_le hj (Nat.mul_le_mul_right _ hroom))]
  rfl
 have hfz : ∀ j, w.frozen? ⟨g, j, none⟩ = false := fun j => hb.frozen j
 have hov : ∀ lb cb, (callFunc 69 #[.slice (some ⟨nb, 0, none⟩) 1 1, .slice (some ⟨g, (i + 1), none⟩) lb cb]).run Try.prog w = .ok (.value (.bool false)) w := fun lb cb =>
  ovlint w ⟨nb, 0, none⟩ ⟨g, (i + 1), none⟩ 1 1 lb cb hne 3 3 1 (c * 1) (by unfold Bx at hnb; simp [World.shape?, hnb, y.len]) (by simp [World.shape?, hg, hcs]) (by omega) (hnb.frozen 0) (hnb.frozen 1)
 obtain ⟨W1, hW1⟩ : ∃ W1, W1 = w.drew.setCells g ((i + 1)) ((es.drop i).flatMap Subtype.val) := ⟨_, rfl⟩
 have hcp1 : ∀ ty dc sc, (Builtin.copy_ #[24, 24] ty #[.slice (some ⟨g, (i + 1), none⟩) (n - i) dc, .slice (some ⟨g, i, none⟩) (n + 1 - i) sc]).run Try.prog w.drew = .ok (goInt (Nat.min (n + 1 - i) (n - i))) W1 := fun ty dc sc => by
  rw [hW1]
  refine run_copy_cellsK w.drew _ _ ty 3 1 g ((i + 1)) (n - i) dc ⟨g, i, none⟩ (n + 1 - i) sc _ Try.underlying24 insSizeint (by rw [hdl]; simp only [Nat.min_def]; split <;> congr 1 <;> omega)
   (fun j v hj => ?_) (fun j hj => hin _ (by rw [hdl] at hj; omega)) (fun j hj => hfz _) (fun u hu => by
    obtain ⟨x, _, hx⟩ := List.mem_flatMap.1 hu
    exact Cl.one x u hx)
  rw [Addr.add_lit]
  have hj1 := (List.getElem?_eq_some_iff.1 hj).1
  rw [hdl] at hj1
  have hq : j / 1 < (es.drop i).length := by rw [List.length_drop, hl]; omega
  have hg2 := flat_get (enc := Subtype.val) Cl.len (es.drop i) (j / 1) _ (List.getElem?_eq_getElem hq) (j % 1) (Nat.mod_lt _ (by decide))
  rw [show j / 1 * 1 + j % 1 = j by omega, hj] at hg2
  rw [List.getElem_drop] at hg2
  have := hb.cell (i + j / 1) _ (List.getElem?_eq_getElem (by rw [List.length_drop] at hq; omega)) (j % 1) v hg2.symm
  rw [show (i + j / 1) * 1 + j % 1 = i * 1 + j by omega] at this
  rw [Nat.mul_one] at this
  exact this
 have hsp1 : ∀ j, j < (n + 1) * 1 → (W1.cell? ⟨g, j, none⟩).isSome = true := fun j hj => by
  rw [hW1]
  exact isSome_setCells g ((es.drop i).flatMap Subtype.val) ((i + 1)) w.drew (fun t ht => hin ((i + 1) + t) (by rw [hdl] at ht; omega)) j (hin j hj)
 have hcp2 : ∀ (W : World), (∀ x, W.cell? x = W1.cell? x) → (∀ x, W.frozen? x = W1.frozen? x) → ∀ ty dc, (Builtin.copy_ #[24, 24] ty #[.slice (some ⟨g, i, none⟩) (n + 1 - i) dc, .slice (some ⟨nb, 0, none⟩) 1 1]).run Try.prog W = .ok (goInt (Nat.min 1 (n + 1 - i))) (W.setCells g (i) y.1) := fun W hWc hWf ty dc =>
  run_copy_cellsK W _ _ ty 3 1 g (i) (n + 1 - i) dc ⟨nb, 0, none⟩ 1 1 y.1 Try.underlying24 insSizeint (by rw [y.len, show Nat.min 1 (n + 1 - i) = 1 by simp only [Nat.min_def]; split <;> omega])
   (fun j v hj => by
    rw [Addr.add_lit, hWc, hW1, World.cell?_setCells_out g _ _ _ _ (fun h _ => absurd h hne), Nat.zero_add]
    exact hnb.cell j v hj)
   (fun j hj => by rw [hWc]; exact hsp1 _ (by rw [y.len] at hj; omega)) (fun j hj => by rw [hWf, hW1, World.frozen?_setCells]; exact hfz _) y.one
 rw [← hW1]
 have HCP1 := Lib.hid hcp1
 have HCP2 := Lib.hid hcp2
 have HOV := Lib.hid hov
 have hz2 : ((i : Int) == (n : Int)) = false := beq_eq_false_iff_ne.2 (by omega)
 have hz2' : ¬ ((i : Int) = (n : Int)) := by omega
 have hcm : c ≤ 9223372036854775807 := by have := hc63; simp only [maxLen] at this; omega
 have hz3 : ¬ ((c : Int) < (n : Int) + 1) := by omega
 have hw0 : (0 : Int) ≤ (i : Int) + 1 := by omega
 have hw1 : IntKind.i64.wrap ((i : Int) + 1) = (i : Int) + 1 := by rw [IntKind.wrap_i64]; omega
 have hw2 : IntKind.i64.wrap ((n : Int) + 1) = (n : Int) + 1 := by rw [IntKind.wrap_i64]; omega
 have hin2 : i ≤ n := by omega
 have hin3 : i + 1 ≤ n + 1 := by omega
 have hin4 : i ≤ n + 1 := by omega
 have hnc : n ≤ c := by omega
 have hb3 : (i : Int) ≤ (n : Int) + 1 := by omega
 have hb2 : ¬ (c = i + 1) := by omega
 have hb4 : ¬ (c = i) := by omega
 clear hin hfz hov hcp1 hcp2 hsp1 hW1 hdl hb hg hcs h0 hc63 hnb
 go_enter Try.func40, Try.ntmps40
 go_wp2_with (simp only [HOV.out])
 go_region_law (refine step_copy_runI rfl (.tmp 73) (.tmp 76) 24 24 rfl (.slice (some ⟨g, (i + 1), none⟩) (n - i) (c - (i + 1))) (.slice (some ⟨g, i, none⟩) (n + 1 - i) (c - i)) (by simp [Act.eval, Act.put]) (by simp [Act.eval, Act.put]) (HCP1.out _ _ _) ?_)
 have hq2 := HCP2.out W1 (fun _ => rfl) (fun _ => rfl)
 go_wp2_with fail
 go_ret
 exact ⟨rfl, rfl⟩
set_option maxRecDepth 100000 in
set_option maxHeartbeats 2000000 in
theorem insGrowint (base g n c i nb : Nat) (es : List (Cl 1)) (y : Cl 1) (w : World) (hb : BlkC 1 3 w g es) (hl : es.length = n) (hi : i < n) (hnc : n ≤ c) (hroom : c < n + 1) (hbig : (n + 1) * 8 ≤ 140737488355328) (hnb : Bx w nb 3 y.1) (hbase : base ≤ w.heap.size) :
  Calls Try.prog 40 #[.slice (some ⟨g, 0, none⟩) n c, .int .i64 i, .slice (some ⟨nb, 0, none⟩) 1 1] w fun e w' => ∃ G, e = .returned (.slice (some ⟨w.heap.size, 0, none⟩) (n + 1) G) ∧ w'.ownsRow base 3 1 (.slice (some ⟨w.heap.size, 0, none⟩) (n + 1) G) (n + 1) ((es.take i ++ y :: es.drop i).flatMap Subtype.val) ∧ Below w.heap.size w w' := by
 obtain ⟨z, ht, hzs, hsz, i0, hi0, hz0, hs0, hby0⟩ := elemint
 have hgw := hb.lt
 have hnw := hnb.lt
 have hdl : ((es.drop i).flatMap Subtype.val).length = (n - i) * 1 := by rw [flat_len Cl.len, List.length_drop, hl]
 have htl : ((es.take i).flatMap Subtype.val).length = i * 1 := by rw [flat_len Cl.len, List.length_take, hl, Nat.min_eq_left (by omega)]
 have hkk : (n : Int) + 1 - (i : Int) = ((n + 1 - i : Nat) : Int) := by omega
 have hik : i + (n + 1 - i) = n + 1 := by omega
 have srcG : ∀ j v, (es.flatMap Subtype.val)[j]? = some v → w.cell? ⟨g, j, none⟩ = some v := fun j v hj => by
  have hj1 := (List.getElem?_eq_some_iff.1 hj).1
  rw [flat_len Cl.len, hl] at hj1
  have hq : j / 1 < es.length := by rw [hl]; omega
  have hg2 := flat_get (enc := Subtype.val) Cl.len es (j / 1) _ (List.getElem?_eq_getElem hq) (j % 1) (Nat.mod_lt _ (by decide))
  rw [show j / 1 * 1 + j % 1 = j by omega, hj] at hg2
  have := hb.cell (j / 1) _ (List.getElem?_eq_getElem hq) (j % 1) v hg2.symm
  rw [show j / 1 * 1 + j % 1 = j by omega] at this
  exact this
 have hsplit : es.flatMap Subtype.val = (es.take i).flatMap Subtype.val ++ (es.drop i).flatMap Subtype.val := by rw [← List.flatMap_append, List.take_append_drop]
 have hold : (Builtin.firstCells i0.size i (.slice (some ⟨g, 0, none⟩) i c)).run Try.prog w.drew = .ok ((es.take i).flatMap Subtype.val).toArray w.drew := by
  rw [hs0]
  exact run_firstCells_some w.drew 1 i ⟨g, 0, none⟩ i c _ htl (fun j v hj => by
   rw [Addr.add_lit, Nat.zero_add]
   refine srcG j v ?_
   rw [hsplit, List.getElem?_append_left (List.getElem?_eq_some_iff.1 hj).1]
   exact hj)
 have hrz : ∀ ty, (Builtin.append_ #[24, 3] ty #[.slice (some ⟨g, 0, none⟩) i c, .int .i64 ((n : Int) + 1 - (i : Int))]).run Try.prog w =
   .ok (.slice (some ⟨w.heap.size, 0, none⟩) (n + 1) (grownCap w (n + 1) c 3)) (w.drew.alloc (.cells (((es.take i).flatMap Subtype.val).toArray ++ Builtin.zeroCells z.cells (n + 1 - i) ++ Builtin.zeroCells z.cells (grownCap w (n + 1) c 3 - (n + 1))) 3)) := fun ty => by
  have h := Lib.run_append_grow_zeros w 24 3 ty 3 i0 _ .i64 .i64 ht Try.underlying3 hi0 hz0 (some ⟨g, 0, none⟩) i c _ hold (n + 1 - i) (by omega) (by omega) (by omega) (by omega) (by rw [hby0]; omega) (by rw [hby0, hik]; exact growslice_fits hroom hbig)
  rw [hik] at h
  rw [hkk]
  exact h
 obtain ⟨G, hG⟩ : ∃ G, G = grownCap w (n + 1) c 3 := ⟨_, rfl⟩
 have hGn : n + 1 ≤ G := by rw [hG]; exact grownCap_ge w _ _ _
 have hGm : G ≤ maxLen := by rw [hG]; exact grownCap_le_maxLen w (n + 1) c 3 (by unfold maxLen; omega)
 obtain ⟨ROW, hROW⟩ : ∃ ROW : Array Value, ROW = ((es.take i).flatMap Subtype.val).toArray ++ Builtin.zeroCells z.cells (n + 1 - i) ++ Builtin.zeroCells z.cells (G - (n + 1)) := ⟨_, rfl⟩
 rw [← hG, ← hROW] at hrz
 have hRl : ROW.size = G * 1 := by
  rw [hROW, Array.size_append, Array.size_append, size_zeroCells, size_zeroCells, hzs, List.size_toArray, htl]
  omega
 obtain ⟨W1, hW1⟩ : ∃ W1, W1 = w.drew.alloc (.cells ROW 3) := ⟨_, rfl⟩
 rw [← hW1] at hrz
 have hrow : W1.heap[w.heap.size]? = some (.cells ROW 3 (0, 0)) := by rw [hW1]; exact heap_alloc_new w.drew _
 have hN : ∀ j, j < (n + 1) * 1 → (W1.cell? ⟨w.heap.size, j, none⟩).isSome = true := fun j hj => by
  rw [cell_of_row _ _ j _ _ _ hrow, Array.getElem?_eq_getElem (by rw [hRl]; exact Nat.lt_of_lt_of_le hj (Nat.mul_le_mul_right _ hGn))]
  rfl
 have hNf : ∀ j, W1.frozen? ⟨w.heap.size, j, none⟩ = false := fun j => by simp [World.frozen?, hrow]
 have hOld : ∀ b, b < w.heap.size → W1.heap[b]? = w.heap[b]? := fun b hlt => by rw [hW1]; exact heap_alloc_old w.drew _ hlt
 have hcpA : ∀ ty dc, (Builtin.copy_ #[24, 24] ty #[.slice (some ⟨w.heap.size, i, none⟩) (n + 1 - i) dc, .slice (some ⟨nb, 0, none⟩) 1 1]).run Try.prog W1 = .ok (goInt (Nat.min 1 (n + 1 - i))) (W1.setCells w.heap.size (i) y.1) := fun ty dc =>
  run_copy_cellsK W1 _ _ ty 3 1 w.heap.size (i) (n + 1 - i) dc ⟨nb, 0, none⟩ 1 1 y.1 Try.underlying24 insSizeint (by rw [y.len, show Nat.min 1 (n + 1 - i) = 1 by simp only [Nat.min_def]; split <;> omega])
   (fun j v hj => by
    rw [Addr.add_lit, Nat.zero_add]
    exact (World.cell?_of_block (a := ⟨nb, j, none⟩) (hOld nb hnw)).trans (hnb.cell j v hj))
   (fun j hj => hN _ (by rw [y.len] at hj; omega)) (fun j hj => hNf _) y.one
 obtain ⟨W2, hW2⟩ : ∃ W2, W2 = W1.setCells w.heap.size (i) y.1 := ⟨_, rfl⟩
 rw [← hW2] at hcpA
 have hcpB : ∀ ty dc sc, (Builtin.copy_ #[24, 24] ty #[.slice (some ⟨w.heap.size, (i + 1), none⟩) (n - i) dc, .slice (some ⟨g, i, none⟩) (n - i) sc]).run Try.prog W2.drew = .ok (goInt (Nat.min (n - i) (n - i))) (W2.drew.setCells w.heap.size ((i + 1)) ((es.drop i).flatMap Subtype.val)) := fun ty dc sc =>
  run_copy_cellsK W2.drew _ _ ty 3 1 w.heap.size ((i + 1)) (n - i) dc ⟨g, i, none⟩ (n - i) sc _ Try.underlying24 insSizeint (by rw [hdl, show Nat.min (n - i) (n - i) = n - i from Nat.min_self _])
   (fun j v hj => by
    rw [Addr.add_lit]
    have e1 : W2.heap[g]? = w.heap[g]? := by rw [hW2, heap_sets _ _ _ _ g (by omega)]; exact hOld g hgw
    refine (World.cell?_of_block (w := w) (w' := W2.drew) (a := ⟨g, i + j, none⟩) e1).trans (srcG (i + j) v ?_)
    rw [hsplit, List.getElem?_append_right (by rw [htl]; omega), htl, show i + j - i * 1 = j by omega]
    exact hj)
   (fun j hj => by
    show (W2.cell? _).isSome = true
    rw [hW2]
    exact isSome_setCells w.heap.size y.1 (i) W1 (fun t ht => hN (i + t) (by rw [y.len] at ht; omega)) _ (hN _ (by rw [hdl] at hj; omega)))
   (fun j hj => by
    show W2.frozen? _ = false
    rw [hW2, World.frozen?_setCells]
    exact hNf _) (fun u hu => by
    obtain ⟨x, _, hx⟩ := List.mem_flatMap.1 hu
    exact Cl.one x u hx)
 have HF := Lib.hid (show (W2.drew.setCells w.heap.size ((i + 1)) ((es.drop i).flatMap Subtype.val)).ownsRow base 3 1 (.slice (some ⟨w.heap.size, 0, none⟩) (n + 1) G) (n + 1) ((es.take i ++ y :: es.drop i).flatMap Subtype.val) ∧ Below w.heap.size w (W2.drew.setCells w.heap.size ((i + 1)) ((es.drop i).flatMap Subtype.val)) by
  have hd : HdC base 3 1 W1 w.heap.size G := ⟨hbase, hGm, ROW, hrow, hRl⟩
  have htl2 : (es.take i).length = i := by rw [List.length_take, hl, Nat.min_eq_left (by omega)]
  have b1 : BlkC 1 3 W1 w.heap.size (es.take i) := ⟨ROW, hrow, by rw [hRl, htl2]; exact Nat.mul_le_mul_right _ (by omega), fun j x hj q u hu => by
   have hq : q < 1 := by have := (List.getElem?_eq_some_iff.1 hu).1; rwa [Cl.len] at this
   have hjl := (List.getElem?_eq_some_iff.1 hj).1
   rw [htl2] at hjl
   have := flat_get (enc := Subtype.val) Cl.len (es.take i) j x hj q hq
   rw [hROW, Array.append_assoc, Array.getElem?_append_left (by rw [List.size_toArray, htl]; omega), List.getElem?_toArray, this]
   exact hu⟩
  obtain ⟨b2, d2⟩ := BlkC.write b1 hd i [y] (by rw [htl2]; exact Nat.le_refl _) (by rw [List.length_singleton]; omega)
  rw [List.flatMap_cons, List.flatMap_nil, List.append_nil] at b2 d2
  have e2 : (es.take i).take i ++ [y] ++ (es.take i).drop (i + [y].length) = es.take i ++ [y] := by
   rw [List.take_of_length_le (by omega), List.drop_eq_nil_of_le (by rw [htl2]; omega), List.append_nil]
  rw [e2] at b2
  have hl3 : (es.take i ++ [y]).length = i + 1 := by rw [List.length_append, htl2, List.length_singleton]
  obtain ⟨b3, d3⟩ := BlkC.write (w := W2.drew) (es := es.take i ++ [y]) (by rw [hW2]; rw [Nat.mul_one] at b2; exact b2) (by rw [hW2]; rw [Nat.mul_one] at d2; exact d2) (i + 1) (es.drop i) (by rw [hl3]; exact Nat.le_refl _) (by rw [List.length_drop, hl]; omega)
  have e3 : (es.take i ++ [y]).take (i + 1) ++ es.drop i ++ (es.take i ++ [y]).drop (i + 1 + (es.drop i).length) = es.take i ++ y :: es.drop i := by
   rw [show (es.take i ++ [y]).take (i + 1) = es.take i ++ [y] from List.take_of_length_le (by omega), show (es.take i ++ [y]).drop (i + 1 + (es.drop i).length) = [] from List.drop_eq_nil_of_le (by rw [hl3]; omega), List.append_nil, List.append_assoc, List.singleton_append]
  rw [e3] at b3
  have hl4 : (es.take i ++ y :: es.drop i).length = n + 1 := by rw [List.length_append, htl2, List.length_cons, List.length_drop, hl]; omega
  refine ⟨?_, ?_⟩
  ·have := own_of b3 d3 (by rw [hl4]; exact hGn)
   rw [hl4] at this
   rw [Nat.mul_one] at this
   exact this
  ·refine below_sets _ _ _ ?_ _ (Nat.le_refl _)
   show Below w.heap.size w W2.drew
   rw [hW2]
   refine Below.drew (below_sets _ _ _ ?_ _ (Nat.le_refl _))
   rw [hW1]
   exact ((Below.refl w.heap.size w).drew).alloc (Nat.le_refl _) _)
 have hGi : ¬ (G = i) := by omega
 have hGim : ¬ (G = i + 1) := by omega
 have hci : ¬ (c = i) := by omega
 have hG63 : G ≤ 9223372036854775807 := by have := hGm; simp only [maxLen] at this; omega
 have hz2 : ((i : Int) == (n : Int)) = false := beq_eq_false_iff_ne.2 (by omega)
 have hz2' : ¬ ((i : Int) = (n : Int)) := by omega
 have hz3 : (c : Int) < (n : Int) + 1 := by omega
 have hw0 : (0 : Int) ≤ (i : Int) + 1 := by omega
 have hw1 : IntKind.i64.wrap ((i : Int) + 1) = (i : Int) + 1 := by rw [IntKind.wrap_i64]; omega
 have hw2 : IntKind.i64.wrap ((n : Int) + 1) = (n : Int) + 1 := by rw [IntKind.wrap_i64]; omega
 have hw3 : IntKind.i64.wrap ((n : Int) + 1 - (i : Int)) = (n : Int) + 1 - (i : Int) := by rw [IntKind.wrap_i64]; omega
 have hin : i ≤ n := by omega
 have hic : i ≤ c := by omega
 have hin4 : i ≤ n + 1 := by omega
 have hin3 : i + 1 ≤ n + 1 := by omega
 have hb3 : (i : Int) ≤ (n : Int) + 1 := by omega
 have hb5 : (i : Int) ≤ (n : Int) := by omega
 have HRZ := Lib.hid hrz
 have HCPB := Lib.hid hcpB
 clear hrz hcpB hROW hRl hrow hN hNf hOld hW1 hW2 hdl htl hkk hik srcG hsplit hold hG hGm hb hnb hz0 hi0 ht hzs hsz hs0 hby0
 go_enter Try.func40, Try.ntmps40
 go_wp2_with (at_builtin; refine Lib.wpList_append_run _ rfl _ _ _ _ rfl _ _ rfl rfl _ _ (HRZ.out _) ?_)
 go_region_law (refine step_copy_runI rfl (.tmp 50) (.tmp 53) 24 24 rfl (.slice (some ⟨w.heap.size, (i + 1), none⟩) (n - i) (G - (i + 1))) (.slice (some ⟨g, i, none⟩) (n - i) (c - i)) (by simp [Act.eval, Act.put]) (by simp [Act.eval, Act.put]) (HCPB.out _ _ _) ?_)
 go_wp2_with fail
 go_ret
 exact ⟨G, rfl, HF.out⟩
set_option maxRecDepth 100000 in
set_option maxHeartbeats 2000000 in
theorem insertint (base : Nat) (v : Value) (es : List (Cl 1)) (i nb : Nat) (y : Cl 1) (w : World) (hown : w.ownsRow base 3 1 v es.length (es.flatMap Subtype.val)) (hi : i ≤ es.length) (hbig : (es.length + 1) * 8 ≤ 140737488355328) (hnb : Bx w nb 3 y.1) (hne : v.ownBlock ≠ some nb) (hbase : base ≤ w.heap.size) :
  Calls Try.prog 40 #[v, .int .i64 i, .slice (some ⟨nb, 0, none⟩) 1 1] w fun e w' => ∃ ao m c, e = .returned (.slice ao m c) ∧ w'.ownsRow base 3 1 (.slice ao m c) (es.length + 1) ((es.take i ++ y :: es.drop i).flatMap Subtype.val) ∧ w.grownBy w' v.ownBlock ∧ ((Value.slice ao m c).ownBlock = v.ownBlock ∨ (Value.slice ao m c).ownBlock = some w.heap.size) := by
 by_cases hend : i = es.length
 ·obtain ⟨z, hE⟩ := elemint
  have HE := Lib.hid hE
  have HOWN := Lib.hid hown
  have HNB := Lib.hid hnb
  obtain ⟨n, hn⟩ : ∃ n, n = es.length := ⟨_, rfl⟩
  obtain ⟨p, m, c, rfl⟩ := own_sl hown
  obtain ⟨hmn, hcn, hnil, hat⟩ := own_cap hown
  subst hmn
  rw [← hn] at HOWN hcn hbig hend ⊢
  subst hend
  have hyl : y.1.length = 1 * 1 := by rw [y.len]
  have hes : es.take i = es := List.take_of_length_le (by omega)
  have hes2 : es.drop i = [] := List.drop_eq_nil_of_le (by omega)
  rw [hes, hes2, List.flatMap_append, List.flatMap_cons, List.flatMap_nil, List.append_nil]
  obtain ⟨fs, hfs⟩ : ∃ fs, fs = es.flatMap Subtype.val := ⟨_, rfl⟩
  rw [← hfs] at HOWN ⊢
  have hc63 : c ≤ 9223372036854775807 := by
   rcases hown.2 with ⟨hv, _⟩ | ⟨g', cap', cur, hv, _, _, _, hm, _⟩
   ·simp only [Value.slice.injEq] at hv; omega
   ·simp only [Value.slice.injEq] at hv
    have := hm
    simp only [maxLen] at this
    omega
  rw [← hn] at hown
  obtain ⟨ob, hob⟩ : ∃ ob, ob = (Value.slice p i c).ownBlock := ⟨_, rfl⟩
  have HOB := Lib.hid hob
  rw [← hob]
  clear hes hes2 hnil hat hE hown hnb hfs hn hi hob hne
  go_enter Try.func40, Try.ntmps40
  go_wp2_with (at_builtin; refine wpList_append_own2 rfl (.tmp 23) (.tmp 24) 24 rfl base HE.out (.slice p i c) i fs rfl HOWN.out ⟨nb, 0, none⟩ 1 1 y.1 rfl hyl (fun j u hj => by rw [Addr.add_lit, Nat.zero_add]; exact HNB.out.cell j u hj) y.one (by simp only [maxLen]; omega) hbig hbase (by decide) ?_; intro v1 w1 own1 gr1 fr1; have O1 := Lib.hid own1; have G1 := Lib.hid gr1; have F1 := Lib.hid fr1; clear own1 gr1 fr1)
  all_goals
   go_ret
   obtain ⟨p1, m1, c1, rfl⟩ := own_sl O1.out
   exact ⟨_, _, _, rfl, O1.out, by rw [HOB.out]; exact G1.out, by rw [HOB.out]; exact F1.out⟩
 ·have hlt : i < es.length := by omega
  rcases own_form hown with ⟨cap, rfl, h0⟩ | ⟨g, c, rfl⟩
  ·omega
  ·have hgb := (hown.lt g rfl)
   obtain ⟨_, hcn, _, _⟩ := own_cap hown
   have hne2 : nb ≠ g := fun e => hne (by rw [e]; rfl)
   have hb := own_blkC hown rfl
   have hd := hdC_of hown
   by_cases hroom : es.length + 1 ≤ c
   ·refine (insShiftint base g es.length c i nb es y w hb hd rfl hlt hroom hnb hne2).mono ?_
    rintro e w' ⟨rfl, rfl⟩
    refine ⟨_, _, _, rfl, ?_, ⟨?_, ?_, ?_, by rw [sets_size, sets_size]; exact Nat.le_refl _, fun q hq hr => ?_⟩, .inl rfl⟩
    ·obtain ⟨b1, d1⟩ := BlkC.write (w := w.drew) hb hd (i + 1) (es.drop i) (by omega) (by rw [List.length_drop]; omega)
     have e1 : es.take (i + 1) ++ es.drop i ++ es.drop (i + 1 + (es.drop i).length) = es.take (i + 1) ++ es.drop i := by
      rw [show es.drop (i + 1 + (es.drop i).length) = [] from List.drop_eq_nil_of_le (by rw [List.length_drop]; omega), List.append_nil]
     rw [e1] at b1
     have l1 : (es.take (i + 1) ++ es.drop i).length = es.length + 1 := by rw [List.length_append, List.length_take, List.length_drop]; omega
     obtain ⟨b2, d2⟩ := BlkC.write b1 d1 i [y] (by omega) (by rw [List.length_singleton]; omega)
     have e2 : (es.take (i + 1) ++ es.drop i).take i ++ [y] ++ (es.take (i + 1) ++ es.drop i).drop (i + [y].length) = es.take i ++ y :: es.drop i := by
      rw [List.take_append_of_le_length (by rw [List.length_take]; omega), List.take_take, Nat.min_eq_left (by omega), List.length_singleton, List.drop_left' (by rw [List.length_take]; omega), List.append_assoc, List.singleton_append]
     rw [e2, List.flatMap_cons, List.flatMap_nil, List.append_nil] at b2
     rw [List.flatMap_cons, List.flatMap_nil, List.append_nil] at d2
     have l2 : (es.take i ++ y :: es.drop i).length = es.length + 1 := by rw [List.length_append, List.length_take, List.length_cons, List.length_drop]; omega
     have := own_of b2 d2 (by rw [l2]; exact hroom)
     rw [l2] at this
     simp only [Nat.mul_one] at this
     exact this
    ·have := below_sets y.1 (i) _ (below_sets ((es.drop i).flatMap Subtype.val) ((i + 1)) _ ((Below.refl base w).drew) g hgb.1) g hgb.1
     exact this.os
    ·have := below_sets y.1 (i) _ (below_sets ((es.drop i).flatMap Subtype.val) ((i + 1)) _ ((Below.refl base w).drew) g hgb.1) g hgb.1
     exact this.tape
    ·have := below_sets y.1 (i) _ (below_sets ((es.drop i).flatMap Subtype.val) ((i + 1)) _ ((Below.refl base w).drew) g hgb.1) g hgb.1
     exact this.output
    ·have hqg : q ≠ g := fun e => hr (by rw [e]; rfl)
     rw [heap_sets _ _ _ _ q hqg, heap_sets _ _ _ _ q hqg]
     rfl
   ·refine (insGrowint base g es.length c i nb es y w hb rfl hlt hcn (by omega) hbig hnb hbase).mono ?_
    rintro e w' ⟨G, rfl, own, bel⟩
    exact ⟨_, _, _, rfl, own, ⟨bel.os, bel.tape, bel.output, bel.size, fun q hq _ => bel.block q hq⟩, .inr rfl⟩
end Go.Proofs.Ytiebjkbofoppaaa
end
section
namespace Go.Proofs.Ytiebjkbofoppaaa
open Go Go.RowKit Go.Sort Cg
set_option maxHeartbeats 1000000 in
theorem put1 (cs : List Value) (z id : Int) (bi : Nat) (w : World) (h0 : cs[0]? = some (.int .i64 z)) (hi : w.cell? ⟨bi, 0, none⟩ = some (.int .i64 id)) :
  Calls Try.prog 67 #[.agg cs.toArray, .pointer (some ⟨bi, 0, none⟩)] w fun e w' => e = .returned (.bool (decide (id < z))) ∧ Below w.heap.size w w' := by
 obtain ⟨bx, hc⟩ := box_cs w cs 47
 have c0 := hc 0 _ h0
 have ci := (bx.cell (p := ⟨bi, 0, none⟩) (block_lt_of_cell hi)).trans hi
 have BX := Lib.hid bx
 clear hc bx hi h0
 go_enter Try.func67, Try.ntmps67
 go_wp2_with fail
 go_ret
 exact ⟨rfl, BX.out⟩
set_option maxHeartbeats 1000000 in
theorem where1 (cs : List Value) (z kd id : Int) (bi : Nat) (w : World) (h0 : cs[0]? = some (.int .i64 z)) (h1 : cs[1]? = some (.int .i64 kd)) (hi : w.cell? ⟨bi, 0, none⟩ = some (.int .i64 id)) :
  Calls Try.prog 32 #[.agg cs.toArray, .pointer (some ⟨bi, 0, none⟩)] w fun e w' => e = .returned (.bool (z == id && kd == 1)) ∧ Below w.heap.size w w' := by
 obtain ⟨bx, hc⟩ := box_cs w cs 83
 have c0 := hc 0 _ h0
 have c1 := hc 1 _ h1
 have ci := (bx.cell (p := ⟨bi, 0, none⟩) (block_lt_of_cell hi)).trans hi
 have BX := Lib.hid bx
 clear hc bx hi h0 h1
 obtain ⟨b1, hb1⟩ : ∃ b, (z == id) = b := ⟨_, rfl⟩
 obtain ⟨b2, hb2⟩ : ∃ b, (kd == 1) = b := ⟨_, rfl⟩
 rw [hb1, hb2]
 cases b1 <;> cases b2 <;>
 ·go_enter Try.func32, Try.ntmps32
  go_wp2_with fail
  go_ret
  exact ⟨rfl, BX.out⟩
set_option maxHeartbeats 1000000 in
theorem remove1 (cs : List Value) (z kd id : Int) (bi : Nat) (w : World) (h0 : cs[0]? = some (.int .i64 z)) (h1 : cs[1]? = some (.int .i64 kd)) (hi : w.cell? ⟨bi, 0, none⟩ = some (.int .i64 id)) :
  Calls Try.prog 65 #[.agg cs.toArray, .pointer (some ⟨bi, 0, none⟩)] w fun e w' => e = .returned (.bool (z == id && kd == 1)) ∧ Below w.heap.size w w' := by
 obtain ⟨bx, hc⟩ := box_cs w cs 83
 have c0 := hc 0 _ h0
 have c1 := hc 1 _ h1
 have ci := (bx.cell (p := ⟨bi, 0, none⟩) (block_lt_of_cell hi)).trans hi
 have BX := Lib.hid bx
 clear hc bx hi h0 h1
 obtain ⟨b1, hb1⟩ : ∃ b, (z == id) = b := ⟨_, rfl⟩
 obtain ⟨b2, hb2⟩ : ∃ b, (kd == 1) = b := ⟨_, rfl⟩
 rw [hb1, hb2]
 cases b1 <;> cases b2 <;>
 ·go_enter Try.func65, Try.ntmps65
  go_wp2_with fail
  go_ret
  exact ⟨rfl, BX.out⟩
set_option maxHeartbeats 1000000 in
theorem without1 (z n : Int) (bi : Nat) (w : World) (hi : w.cell? ⟨bi, 0, none⟩ = some (.int .i64 n)) :
  Calls Try.prog 78 #[.int .i64 z, .pointer (some ⟨bi, 0, none⟩)] w fun e w' => e = .returned (.bool (z == n)) ∧ w' = w := by
 go_enter Try.func78, Try.ntmps78
 go_wp2_with fail
 go_ret
 exact ⟨rfl, rfl⟩
set_option maxHeartbeats 4000000 in
theorem idx_place (F : Nat → Prop) (L : Nat) (v : Value) (xs : List (List D)) (id : Int) (bi : Nat) (w : World) (h : RdC F L w (.sl kObject 128) v (.sl xs)) (hL : L ≤ 140737488355328) (hi : w.cell? ⟨bi, 0, none⟩ = some (.int .i64 id)) :
  Calls Try.prog 66 #[v, .func (.func 74) #[] #[.pointer (some ⟨bi, 0, none⟩)]] w fun e w' => e = .returned (.int .i64 (fidx (fun o => dint o 0 == id) xs)) ∧ Below w.heap.size w w' := by
 have eg : ∀ args w, (callFunc 74 args).run Try.prog w = .ok (.enter 74 args) w := enters_of Try.func74 (by kernel_rfl) rfl
 obtain ⟨p, hp⟩ : ∃ p : List D → Bool, p = (fun o => dint o 0 == id) := ⟨_, rfl⟩
 obtain ⟨ao, cap, rfl, _, hby, _, hx⟩ := h.form
 have hn : xs.length ≤ 1000000000000000 := by omega
 have HX := Lib.hid hx
 have HI := Lib.hid hi
 have HPP := Lib.hid hp
 rw [← hp]
 clear hx hi h hby hL hp
 go_enter Try.func66, Try.ntmps66
 go_wp2_with fail
 go_loopw [8] (fun i wr => ∃ k : Nat, k ≤ xs.length ∧ i = .int .i64 k ∧ Hid (∀ j (h : j < xs.length), j < k → p xs[j] = false) ∧ Below w.heap.size w wr) (fun i _ => xs.length - (intOf i).toNat)
 case atStart => exact ⟨0, by omega, rfl, Lib.hid fun j hj _ => by omega, Below.refl _ _⟩
 case round =>
  obtain ⟨k, hk, rfl, HK, bw⟩ := hrel
  have BW := Lib.hid bw
  clear bw
  by_cases hlt : k < xs.length
  ·rcases HX.out with hh | ⟨b, o, rfl, hF, hb, hE⟩
   ·rw [hh] at hlt; simp at hlt
   obtain ⟨vs, hvs, hrd⟩ := (hE.frame (Nat.le_refl _) BW.out.size (fun b _ hlt => BW.out.block b hlt) (fun _ h _ => h) hF hb).get k _ (List.getElem?_eq_getElem hlt)
   rw [kObject_len] at hvs
   have hl := hrd.len.1
   rw [kObject_len] at hl
   have HIN := Lib.hid (show (Try.prog.info? 47).map (·.size) = some vs.length by rw [infoObject, hl])
   have HVS := Lib.hid (show wr.rangeAt b (o + k * 19) vs from hvs)
   have ci := (BW.out.cell (p := ⟨bi, 0, none⟩) (block_lt_of_cell HI.out)).trans HI.out
   have HP0 := place1 vs (dint xs[k] 0) id bi wr (hrd.int 0 rfl).1 ci
   obtain ⟨pb, hpb⟩ : ∃ pb, pb = p xs[k] := ⟨_, rfl⟩
   have HP := Lib.hid (show Calls Try.prog 74 #[.agg vs.toArray, .pointer (some ⟨bi, 0, none⟩)] wr fun e w' => e = .returned (.bool pb) ∧ Below wr.heap.size wr w' by
    rw [hpb, HPP.out]
    exact HP0)
   have HPB := Lib.hid hpb
   clear hE hvs hrd hl ci hpb HP0
   cases pb
   ·go_wp2_with (first | (with_reducible refine wpList_load_mid rfl 47 (.tmp 14) rfl b (o + k * 19) ?_ vs _ HVS.out Try.underlying47 rfl HIN.out ?_; simp [Act.eval]) | (go_at_fn 74; refine HP.out.mono ?_; rintro e w' ⟨rfl, b2⟩))
    go_round
    case rel => exact ⟨k + 1, by omega, by go_num, Lib.hid fun j hj hjk => (by
     by_cases e : j = k
     ·subst e; exact HPB.out.symm
     ·exact HK.out j hj (by omega)), BW.out.trans (b2.mono BW.out.size)⟩
    case measure => simp [intOf]; omega
   ·have HE := Lib.hid (show fidx p xs = k from fidx_hit _ xs k hlt HPB.out.symm HK.out)
    go_wp2_with (first | (with_reducible refine wpList_load_mid rfl 47 (.tmp 14) rfl b (o + k * 19) ?_ vs _ HVS.out Try.underlying47 rfl HIN.out ?_; simp [Act.eval]) | (go_at_fn 74; refine HP.out.mono ?_; rintro e w' ⟨rfl, b2⟩))
    go_ret
    exact ⟨by rw [HE.out] <;> rfl, BW.out.trans (b2.mono BW.out.size)⟩
  ·obtain rfl : k = xs.length := by omega
   have HE := Lib.hid (show fidx p xs = -1 from fidx_miss _ xs (fun j hj => HK.out j hj hj))
   go_wp2_with fail
   go_ret
   exact ⟨by rw [HE.out] <;> rfl, BW.out⟩
set_option maxHeartbeats 4000000 in
theorem idx_put (F : Nat → Prop) (L : Nat) (v : Value) (xs : List (List D)) (id : Int) (bi : Nat) (w : World) (h : RdC F L w (.sl kObject 128) v (.sl xs)) (hL : L ≤ 140737488355328) (hi : w.cell? ⟨bi, 0, none⟩ = some (.int .i64 id)) :
  Calls Try.prog 66 #[v, .func (.func 67) #[] #[.pointer (some ⟨bi, 0, none⟩)]] w fun e w' => e = .returned (.int .i64 (fidx (fun o => decide (id < dint o 0)) xs)) ∧ Below w.heap.size w w' := by
 have eg : ∀ args w, (callFunc 67 args).run Try.prog w = .ok (.enter 67 args) w := enters_of Try.func67 (by kernel_rfl) rfl
 obtain ⟨p, hp⟩ : ∃ p : List D → Bool, p = (fun o => decide (id < dint o 0)) := ⟨_, rfl⟩
 obtain ⟨ao, cap, rfl, _, hby, _, hx⟩ := h.form
 have hn : xs.length ≤ 1000000000000000 := by omega
 have HX := Lib.hid hx
 have HI := Lib.hid hi
 have HPP := Lib.hid hp
 rw [← hp]
 clear hx hi h hby hL hp
 go_enter Try.func66, Try.ntmps66
 go_wp2_with fail
 go_loopw [8] (fun i wr => ∃ k : Nat, k ≤ xs.length ∧ i = .int .i64 k ∧ Hid (∀ j (h : j < xs.length), j < k → p xs[j] = false) ∧ Below w.heap.size w wr) (fun i _ => xs.length - (intOf i).toNat)
 case atStart => exact ⟨0, by omega, rfl, Lib.hid fun j hj _ => by omega, Below.refl _ _⟩
 case round =>
  obtain ⟨k, hk, rfl, HK, bw⟩ := hrel
  have BW := Lib.hid bw
  clear bw
  by_cases hlt : k < xs.length
  ·rcases HX.out with hh | ⟨b, o, rfl, hF, hb, hE⟩
   ·rw [hh] at hlt; simp at hlt
   obtain ⟨vs, hvs, hrd⟩ := (hE.frame (Nat.le_refl _) BW.out.size (fun b _ hlt => BW.out.block b hlt) (fun _ h _ => h) hF hb).get k _ (List.getElem?_eq_getElem hlt)
   rw [kObject_len] at hvs
   have hl := hrd.len.1
   rw [kObject_len] at hl
   have HIN := Lib.hid (show (Try.prog.info? 47).map (·.size) = some vs.length by rw [infoObject, hl])
   have HVS := Lib.hid (show wr.rangeAt b (o + k * 19) vs from hvs)
   have ci := (BW.out.cell (p := ⟨bi, 0, none⟩) (block_lt_of_cell HI.out)).trans HI.out
   have HP0 := put1 vs (dint xs[k] 0) id bi wr (hrd.int 0 rfl).1 ci
   obtain ⟨pb, hpb⟩ : ∃ pb, pb = p xs[k] := ⟨_, rfl⟩
   have HP := Lib.hid (show Calls Try.prog 67 #[.agg vs.toArray, .pointer (some ⟨bi, 0, none⟩)] wr fun e w' => e = .returned (.bool pb) ∧ Below wr.heap.size wr w' by
    rw [hpb, HPP.out]
    exact HP0)
   have HPB := Lib.hid hpb
   clear hE hvs hrd hl ci hpb HP0
   cases pb
   ·go_wp2_with (first | (with_reducible refine wpList_load_mid rfl 47 (.tmp 14) rfl b (o + k * 19) ?_ vs _ HVS.out Try.underlying47 rfl HIN.out ?_; simp [Act.eval]) | (go_at_fn 67; refine HP.out.mono ?_; rintro e w' ⟨rfl, b2⟩))
    go_round
    case rel => exact ⟨k + 1, by omega, by go_num, Lib.hid fun j hj hjk => (by
     by_cases e : j = k
     ·subst e; exact HPB.out.symm
     ·exact HK.out j hj (by omega)), BW.out.trans (b2.mono BW.out.size)⟩
    case measure => simp [intOf]; omega
   ·have HE := Lib.hid (show fidx p xs = k from fidx_hit _ xs k hlt HPB.out.symm HK.out)
    go_wp2_with (first | (with_reducible refine wpList_load_mid rfl 47 (.tmp 14) rfl b (o + k * 19) ?_ vs _ HVS.out Try.underlying47 rfl HIN.out ?_; simp [Act.eval]) | (go_at_fn 67; refine HP.out.mono ?_; rintro e w' ⟨rfl, b2⟩))
    go_ret
    exact ⟨by rw [HE.out] <;> rfl, BW.out.trans (b2.mono BW.out.size)⟩
  ·obtain rfl : k = xs.length := by omega
   have HE := Lib.hid (show fidx p xs = -1 from fidx_miss _ xs (fun j hj => HK.out j hj hj))
   go_wp2_with fail
   go_ret
   exact ⟨by rw [HE.out] <;> rfl, BW.out⟩
set_option maxHeartbeats 4000000 in
theorem idx_where (F : Nat → Prop) (L : Nat) (v : Value) (xs : List (List D)) (id : Int) (bi : Nat) (w : World) (h : RdC F L w (.sl kItem 824) v (.sl xs)) (hL : L ≤ 140737488355328) (hi : w.cell? ⟨bi, 0, none⟩ = some (.int .i64 id)) :
  Calls Try.prog 31 #[v, .func (.func 32) #[] #[.pointer (some ⟨bi, 0, none⟩)]] w fun e w' => e = .returned (.int .i64 (fidx (fun o => dint o 0 == id && dint o 1 == 1) xs)) ∧ Below w.heap.size w w' := by
 have eg : ∀ args w, (callFunc 32 args).run Try.prog w = .ok (.enter 32 args) w := enters_of Try.func32 (by kernel_rfl) rfl
 obtain ⟨p, hp⟩ : ∃ p : List D → Bool, p = (fun o => dint o 0 == id && dint o 1 == 1) := ⟨_, rfl⟩
 obtain ⟨ao, cap, rfl, _, hby, _, hx⟩ := h.form
 have hn : xs.length ≤ 1000000000000000 := by omega
 have HX := Lib.hid hx
 have HI := Lib.hid hi
 have HPP := Lib.hid hp
 rw [← hp]
 clear hx hi h hby hL hp
 go_enter Try.func31, Try.ntmps31
 go_wp2_with fail
 go_loopw [8] (fun i wr => ∃ k : Nat, k ≤ xs.length ∧ i = .int .i64 k ∧ Hid (∀ j (h : j < xs.length), j < k → p xs[j] = false) ∧ Below w.heap.size w wr) (fun i _ => xs.length - (intOf i).toNat)
 case atStart => exact ⟨0, by omega, rfl, Lib.hid fun j hj _ => by omega, Below.refl _ _⟩
 case round =>
  obtain ⟨k, hk, rfl, HK, bw⟩ := hrel
  have BW := Lib.hid bw
  clear bw
  by_cases hlt : k < xs.length
  ·rcases HX.out with hh | ⟨b, o, rfl, hF, hb, hE⟩
   ·rw [hh] at hlt; simp at hlt
   obtain ⟨vs, hvs, hrd⟩ := (hE.frame (Nat.le_refl _) BW.out.size (fun b _ hlt => BW.out.block b hlt) (fun _ h _ => h) hF hb).get k _ (List.getElem?_eq_getElem hlt)
   rw [kItem_len] at hvs
   have hl := hrd.len.1
   rw [kItem_len] at hl
   have HIN := Lib.hid (show (Try.prog.info? 83).map (·.size) = some vs.length by rw [infoItem, hl])
   have HVS := Lib.hid (show wr.rangeAt b (o + k * 94) vs from hvs)
   have ci := (BW.out.cell (p := ⟨bi, 0, none⟩) (block_lt_of_cell HI.out)).trans HI.out
   have HP0 := where1 vs (dint xs[k] 0) (dint xs[k] 1) id bi wr (hrd.int 0 rfl).1 (hrd.int 1 rfl).1 ci
   obtain ⟨pb, hpb⟩ : ∃ pb, pb = p xs[k] := ⟨_, rfl⟩
   have HP := Lib.hid (show Calls Try.prog 32 #[.agg vs.toArray, .pointer (some ⟨bi, 0, none⟩)] wr fun e w' => e = .returned (.bool pb) ∧ Below wr.heap.size wr w' by
    rw [hpb, HPP.out]
    exact HP0)
   have HPB := Lib.hid hpb
   clear hE hvs hrd hl ci hpb HP0
   cases pb
   ·go_wp2_with (first | (with_reducible refine wpList_load_mid rfl 83 (.tmp 14) rfl b (o + k * 94) ?_ vs _ HVS.out Try.underlying83 rfl HIN.out ?_; simp [Act.eval]) | (go_at_fn 32; refine HP.out.mono ?_; rintro e w' ⟨rfl, b2⟩))
    go_round
    case rel => exact ⟨k + 1, by omega, by go_num, Lib.hid fun j hj hjk => (by
     by_cases e : j = k
     ·subst e; exact HPB.out.symm
     ·exact HK.out j hj (by omega)), BW.out.trans (b2.mono BW.out.size)⟩
    case measure => simp [intOf]; omega
   ·have HE := Lib.hid (show fidx p xs = k from fidx_hit _ xs k hlt HPB.out.symm HK.out)
    go_wp2_with (first | (with_reducible refine wpList_load_mid rfl 83 (.tmp 14) rfl b (o + k * 94) ?_ vs _ HVS.out Try.underlying83 rfl HIN.out ?_; simp [Act.eval]) | (go_at_fn 32; refine HP.out.mono ?_; rintro e w' ⟨rfl, b2⟩))
    go_ret
    exact ⟨by rw [HE.out] <;> rfl, BW.out.trans (b2.mono BW.out.size)⟩
  ·obtain rfl : k = xs.length := by omega
   have HE := Lib.hid (show fidx p xs = -1 from fidx_miss _ xs (fun j hj => HK.out j hj hj))
   go_wp2_with fail
   go_ret
   exact ⟨by rw [HE.out] <;> rfl, BW.out⟩
set_option maxHeartbeats 4000000 in
theorem idx_remove (F : Nat → Prop) (L : Nat) (v : Value) (xs : List (List D)) (id : Int) (bi : Nat) (w : World) (h : RdC F L w (.sl kItem 824) v (.sl xs)) (hL : L ≤ 140737488355328) (hi : w.cell? ⟨bi, 0, none⟩ = some (.int .i64 id)) :
  Calls Try.prog 31 #[v, .func (.func 65) #[] #[.pointer (some ⟨bi, 0, none⟩)]] w fun e w' => e = .returned (.int .i64 (fidx (fun o => dint o 0 == id && dint o 1 == 1) xs)) ∧ Below w.heap.size w w' := by
 have eg : ∀ args w, (callFunc 65 args).run Try.prog w = .ok (.enter 65 args) w := enters_of Try.func65 (by kernel_rfl) rfl
 obtain ⟨p, hp⟩ : ∃ p : List D → Bool, p = (fun o => dint o 0 == id && dint o 1 == 1) := ⟨_, rfl⟩
 obtain ⟨ao, cap, rfl, _, hby, _, hx⟩ := h.form
 have hn : xs.length ≤ 1000000000000000 := by omega
 have HX := Lib.hid hx
 have HI := Lib.hid hi
 have HPP := Lib.hid hp
 rw [← hp]
 clear hx hi h hby hL hp
 go_enter Try.func31, Try.ntmps31
 go_wp2_with fail
 go_loopw [8] (fun i wr => ∃ k : Nat, k ≤ xs.length ∧ i = .int .i64 k ∧ Hid (∀ j (h : j < xs.length), j < k → p xs[j] = false) ∧ Below w.heap.size w wr) (fun i _ => xs.length - (intOf i).toNat)
 case atStart => exact ⟨0, by omega, rfl, Lib.hid fun j hj _ => by omega, Below.refl _ _⟩
 case round =>
  obtain ⟨k, hk, rfl, HK, bw⟩ := hrel
  have BW := Lib.hid bw
  clear bw
  by_cases hlt : k < xs.length
  ·rcases HX.out with hh | ⟨b, o, rfl, hF, hb, hE⟩
   ·rw [hh] at hlt; simp at hlt
   obtain ⟨vs, hvs, hrd⟩ := (hE.frame (Nat.le_refl _) BW.out.size (fun b _ hlt => BW.out.block b hlt) (fun _ h _ => h) hF hb).get k _ (List.getElem?_eq_getElem hlt)
   rw [kItem_len] at hvs
   have hl := hrd.len.1
   rw [kItem_len] at hl
   have HIN := Lib.hid (show (Try.prog.info? 83).map (·.size) = some vs.length by rw [infoItem, hl])
   have HVS := Lib.hid (show wr.rangeAt b (o + k * 94) vs from hvs)
   have ci := (BW.out.cell (p := ⟨bi, 0, none⟩) (block_lt_of_cell HI.out)).trans HI.out
   have HP0 := remove1 vs (dint xs[k] 0) (dint xs[k] 1) id bi wr (hrd.int 0 rfl).1 (hrd.int 1 rfl).1 ci
   obtain ⟨pb, hpb⟩ : ∃ pb, pb = p xs[k] := ⟨_, rfl⟩
   have HP := Lib.hid (show Calls Try.prog 65 #[.agg vs.toArray, .pointer (some ⟨bi, 0, none⟩)] wr fun e w' => e = .returned (.bool pb) ∧ Below wr.heap.size wr w' by
    rw [hpb, HPP.out]
    exact HP0)
   have HPB := Lib.hid hpb
   clear hE hvs hrd hl ci hpb HP0
   cases pb
   ·go_wp2_with (first | (with_reducible refine wpList_load_mid rfl 83 (.tmp 14) rfl b (o + k * 94) ?_ vs _ HVS.out Try.underlying83 rfl HIN.out ?_; simp [Act.eval]) | (go_at_fn 65; refine HP.out.mono ?_; rintro e w' ⟨rfl, b2⟩))
    go_round
    case rel => exact ⟨k + 1, by omega, by go_num, Lib.hid fun j hj hjk => (by
     by_cases e : j = k
     ·subst e; exact HPB.out.symm
     ·exact HK.out j hj (by omega)), BW.out.trans (b2.mono BW.out.size)⟩
    case measure => simp [intOf]; omega
   ·have HE := Lib.hid (show fidx p xs = k from fidx_hit _ xs k hlt HPB.out.symm HK.out)
    go_wp2_with (first | (with_reducible refine wpList_load_mid rfl 83 (.tmp 14) rfl b (o + k * 94) ?_ vs _ HVS.out Try.underlying83 rfl HIN.out ?_; simp [Act.eval]) | (go_at_fn 65; refine HP.out.mono ?_; rintro e w' ⟨rfl, b2⟩))
    go_ret
    exact ⟨by rw [HE.out] <;> rfl, BW.out.trans (b2.mono BW.out.size)⟩
  ·obtain rfl : k = xs.length := by omega
   have HE := Lib.hid (show fidx p xs = -1 from fidx_miss _ xs (fun j hj => HK.out j hj hj))
   go_wp2_with fail
   go_ret
   exact ⟨by rw [HE.out] <;> rfl, BW.out⟩
set_option maxHeartbeats 4000000 in
theorem idx_without (F : Nat → Prop) (L : Nat) (v : Value) (xs : List (List D)) (id : Int) (bi : Nat) (w : World) (h : RdC F L w (.sl (kI 1) 8) v (.sl xs)) (hL : L ≤ 140737488355328) (hi : w.cell? ⟨bi, 0, none⟩ = some (.int .i64 id)) :
  Calls Try.prog 83 #[v, .func (.func 78) #[] #[.pointer (some ⟨bi, 0, none⟩)]] w fun e w' => e = .returned (.int .i64 (fidx (fun x => dint x 0 == id) xs)) ∧ w' = w := by
 have eg : ∀ args w, (callFunc 78 args).run Try.prog w = .ok (.enter 78 args) w := enters_of Try.func78 (by kernel_rfl) rfl
 obtain ⟨p, hp⟩ : ∃ p : List D → Bool, p = fun x => dint x 0 == id := ⟨_, rfl⟩
 obtain ⟨ao, cap, rfl, _, hby, _, hx⟩ := h.form
 have hn : xs.length ≤ 1000000000000000000 := by omega
 have HX := Lib.hid hx
 have HPP := Lib.hid hp
 rw [← hp]
 clear hx h hby hL hp
 go_enter Try.func83, Try.ntmps83
 go_wp2_with fail
 go_loopw [8] (fun i wr => ∃ k : Nat, k ≤ xs.length ∧ i = .int .i64 k ∧ Hid (∀ j (h : j < xs.length), j < k → p xs[j] = false) ∧ wr = w) (fun i _ => xs.length - (intOf i).toNat)
 case atStart => exact ⟨0, by omega, rfl, Lib.hid fun j hj _ => by omega, rfl⟩
 case round =>
  obtain ⟨k, hk, rfl, HK, rfl⟩ := hrel
  by_cases hlt : k < xs.length
  ·rcases HX.out with hh | ⟨b, o, rfl, hF, hb, hE⟩
   ·rw [hh] at hlt; simp at hlt
   obtain ⟨vs, hvs, hrd⟩ := hE.get k _ (List.getElem?_eq_getElem hlt)
   have c0 := hvs 0 _ (hrd.int 0 rfl).1
   rw [show (kI 1).length = 1 from rfl, Nat.mul_one, Nat.add_zero] at c0
   obtain ⟨pb, hpb⟩ : ∃ pb, pb = p xs[k] := ⟨_, rfl⟩
   have HP0 := without1 (dint xs[k] 0) id bi wr hi
   have HP := Lib.hid (show Calls Try.prog 78 #[.int .i64 (dint xs[k] 0), .pointer (some ⟨bi, 0, none⟩)] wr fun e w' => e = .returned (.bool pb) ∧ w' = wr by
    rw [hpb, HPP.out]
    exact HP0)
   clear HP0
   have HPB := Lib.hid hpb
   clear hE hvs hrd hpb
   cases pb
   ·go_wp2_with (go_at_fn 78; refine HP.out.mono ?_; rintro e w' ⟨rfl, rfl⟩)
    go_round
    case rel => exact ⟨k + 1, by omega, by go_num, Lib.hid fun j hj hjk => (by
     by_cases e : j = k
     ·subst e; exact HPB.out.symm
     ·exact HK.out j hj (by omega)), trivial⟩
    case measure => simp [intOf]; omega
   ·have HE := Lib.hid (show fidx p xs = k from fidx_hit _ xs k hlt HPB.out.symm HK.out)
    go_wp2_with (go_at_fn 78; refine HP.out.mono ?_; rintro e w' ⟨rfl, rfl⟩)
    go_ret
    exact ⟨by rw [HE.out] <;> rfl, rfl⟩
  ·obtain rfl : k = xs.length := by omega
   have HE := Lib.hid (show fidx p xs = -1 from fidx_miss _ xs (fun j hj => HK.out j hj hj))
   go_wp2_with fail
   go_ret
   exact ⟨by rw [HE.out] <;> rfl, rfl⟩
set_option maxHeartbeats 4000000 in
theorem index_int (F : Nat → Prop) (L : Nat) (v : Value) (xs : List (List D)) (id : Int) (w : World) (h : RdC F L w (.sl (kI 1) 8) v (.sl xs)) (hL : L ≤ 140737488355328) :
  Calls Try.prog 34 #[v, .int .i64 id] w fun e w' => e = .returned (.int .i64 (fidx (fun x => dint x 0 == id) xs)) ∧ w' = w := by
 obtain ⟨p, hp⟩ : ∃ p : List D → Bool, p = fun x => dint x 0 == id := ⟨_, rfl⟩
 obtain ⟨ao, cap, rfl, _, hby, _, hx⟩ := h.form
 have hn : xs.length ≤ 1000000000000000000 := by omega
 have HX := Lib.hid hx
 have HPP := Lib.hid hp
 rw [← hp]
 clear hx h hby hL hp
 go_enter Try.func34, Try.ntmps34
 go_wp2_with fail
 go_loopw [8] (fun i wr => ∃ k : Nat, k ≤ xs.length ∧ i = .int .i64 k ∧ Hid (∀ j (h : j < xs.length), j < k → p xs[j] = false) ∧ wr = w) (fun i _ => xs.length - (intOf i).toNat)
 case atStart => exact ⟨0, by omega, rfl, Lib.hid fun j hj _ => by omega, rfl⟩
 case round =>
  obtain ⟨k, hk, rfl, HK, rfl⟩ := hrel
  by_cases hlt : k < xs.length
  ·rcases HX.out with hh | ⟨b, o, rfl, hF, hb, hE⟩
   ·rw [hh] at hlt; simp at hlt
   obtain ⟨vs, hvs, hrd⟩ := hE.get k _ (List.getElem?_eq_getElem hlt)
   have c0 := hvs 0 _ (hrd.int 0 rfl).1
   rw [show (kI 1).length = 1 from rfl, Nat.mul_one, Nat.add_zero] at c0
   obtain ⟨pb, hpb⟩ : ∃ pb, pb = p xs[k] := ⟨_, rfl⟩
   have hq : (id == dint xs[k] 0) = pb := by rw [hpb, HPP.out]; exact BEq.comm
   have HPB := Lib.hid hpb
   clear hE hvs hrd hpb
   cases pb
   ·go_wp2_with fail
    go_round
    case rel => exact ⟨k + 1, by omega, by go_num, Lib.hid fun j hj hjk => (by
     by_cases e : j = k
     ·subst e; exact HPB.out.symm
     ·exact HK.out j hj (by omega)), trivial⟩
    case measure => simp [intOf]; omega
   ·have HE := Lib.hid (show fidx p xs = k from fidx_hit _ xs k hlt HPB.out.symm HK.out)
    go_wp2_with fail
    go_ret
    exact ⟨by rw [HE.out] <;> rfl, rfl⟩
  ·obtain rfl : k = xs.length := by omega
   have HE := Lib.hid (show fidx p xs = -1 from fidx_miss _ xs (fun j hj => HK.out j hj hj))
   go_wp2_with fail
   go_ret
   exact ⟨by rw [HE.out] <;> rfl, rfl⟩
end Go.Proofs.Ytiebjkbofoppaaa
end
section
namespace Go.Proofs.Ytiebjkbofoppaaa
open Go Go.RowKit Go.Sort Go.Shelf Cg
theorem run_clear_K {P : Program} (w : World) (t e ty : TypeId) (z : Value) (ht : P.underlying t = some (.slice e)) (hv : ∀ w, (zeroValue e).run P w = .ok z w) (n : Nat) (hn0 : n ≠ 0) (vs : List Value) (hz : (Builtin.zeroCells z.cells n).toList = vs) (h1 : ∀ u ∈ vs, u.oneCell' = true) (b o c : Nat)
  (hc : ∀ j, j < vs.length → (w.cell? ⟨b, o + j, none⟩).isSome = true) (hf : ∀ j, j < vs.length → w.frozen? ⟨b, o + j, none⟩ = false) :
  (Builtin.clear_ #[t] ty #[.slice (some ⟨b, o, none⟩) n c]).run P w = .ok (.tuple #[]) (w.setCells b o vs) := by
 have hst := run_storeCells_cells (P := P) b o vs 0 w (by simpa using hc) (by simpa using hf) h1
 simp only [Nat.add_zero] at hst
 simp [Builtin.clear_, run_underlying ht, hn0, hv, hz, hst]
def zObj : Value := .agg #[.int .i64 0, .int .i64 0, .int .i64 0, .int .i64 0, .int .i64 0, .bool false, .bool false, .bool false, .bool false, .int .i64 0, .int .i64 0, .int .i64 0, .int .i64 0, .int .i64 0, .int .i64 0, .int .i64 0, .bool false, .int .i64 0, .int .i64 0]
def zObjC : Cl 19 := ⟨[.int .i64 0, .int .i64 0, .int .i64 0, .int .i64 0, .int .i64 0, .bool false, .bool false, .bool false, .bool false, .int .i64 0, .int .i64 0, .int .i64 0, .int .i64 0, .int .i64 0, .int .i64 0, .int .i64 0, .bool false, .int .i64 0, .int .i64 0], by decide, by decide⟩
theorem zObj_cells : (Builtin.zeroCells zObj.cells 1).toList = zObjC.1 := by kernel_rfl
set_option maxRecDepth 100000 in
set_option maxHeartbeats 4000000 in
theorem delete_obj (base g m c i : Nat) (es : List (Cl 19)) (w : World) (hb : BlkC 19 47 w g es) (hh : HdC base 47 19 w g c) (hm : es.length = m) (hi : i < m) (hc : m ≤ c) :
  Calls Try.prog 62 #[.slice (some ⟨g, 0, none⟩) m c, .int .i64 i, .int .i64 ((i + 1 : Nat) : Int)] w fun e w' => e = .returned (.slice (some ⟨g, 0, none⟩) (m - 1) c) ∧ w'.ownsRow base 47 19 (.slice (some ⟨g, 0, none⟩) (m - 1) c) (m - 1) ((es.take i ++ es.drop (i + 1)).flatMap Subtype.val) ∧ w.grownBy w' (some g) := by
 obtain ⟨z, e1, e2, e3, ii, hi0, hz0, hs0, hby0⟩ := elemObject
 have hd : (es.drop (i + 1)).length = m - (i + 1) := by rw [List.length_drop, hm]
 obtain ⟨W1, hW1⟩ : ∃ W1, W1 = w.drew.setCells g (i * 19) ((es.drop (i + 1)).flatMap Subtype.val) := ⟨_, rfl⟩
 obtain ⟨b1, d1⟩ := BlkC.write (w := w.drew) hb hh i (es.drop (i + 1)) (by omega) (by rw [hd]; omega)
 rw [← hW1] at b1 d1
 obtain ⟨es1, hes1⟩ : ∃ es1, es1 = es.take i ++ es.drop (i + 1) ++ es.drop (i + (es.drop (i + 1)).length) := ⟨_, rfl⟩
 rw [← hes1] at b1
 have hl1 : es1.length = m := by
  rw [hes1]
  simp only [List.length_append, List.length_take, List.length_drop, hm]
  omega
 have htk : es1.take (m - 1) = es.take i ++ es.drop (i + 1) := by
  have hlen : (es.take i ++ es.drop (i + 1)).length = m - 1 := by rw [List.length_append, List.length_take, hd]; omega
  rw [hes1, ← hlen]
  exact List.take_left
 have s1 := Lib.hid (show ((es.drop (i + 1)).flatMap Subtype.val).length = (m - (i + 1)) * 19 by rw [flat_len Cl.len, hd])
 have s2 := Lib.hid (show ∀ u ∈ (es.drop (i + 1)).flatMap Subtype.val, u.oneCell' = true from fun u hu => by
  obtain ⟨y, _, hy⟩ := List.mem_flatMap.1 hu
  exact Cl.one y u hy)
 have cell : ∀ (j : Nat), j < m * 19 → ∃ u, w.cell? ⟨g, j, none⟩ = some u := fun j hj => by
  have hq : j / 19 < es.length := by omega
  have h8 : j % 19 < es[j / 19].1.length := by rw [Cl.len]; omega
  have := hb.cell _ _ (List.getElem?_eq_getElem hq) (j % 19) _ (List.getElem?_eq_getElem h8)
  rw [show j / 19 * 19 + j % 19 = j by omega] at this
  exact ⟨_, this⟩
 have s3 := Lib.hid (show ∀ t, t < ((es.drop (i + 1)).flatMap Subtype.val).length → (w.drew.cell? ⟨g, 0 + i * 19 + t, none⟩).isSome = true ∧ w.drew.frozen? ⟨g, 0 + i * 19 + t, none⟩ = false from fun t ht => by
  rw [s1.out] at ht
  obtain ⟨u, hu⟩ := cell (0 + i * 19 + t) (by omega)
  refine ⟨?_, hb.frozen _⟩
  show (w.cell? _).isSome = true
  rw [hu]
  rfl)
 obtain ⟨A, hA, hsrc⟩ : ∃ A : Addr, (if c = i + 1 then some (⟨g, 0, none⟩ : Addr) else some ⟨g, (i + 1) * 19, none⟩) = some A ∧ Hid (∀ t u, ((es.drop (i + 1)).flatMap Subtype.val)[t]? = some u → w.drew.cell? (A.add t) = some u) := by
  by_cases h : c = i + 1
  ·refine ⟨⟨g, 0, none⟩, by simp [h], Lib.hid fun t u hu => ?_⟩
   have h0 : ((es.drop (i + 1)).flatMap Subtype.val) = [] := List.eq_nil_of_length_eq_zero (by rw [s1.out]; omega)
   rw [h0] at hu
   simp at hu
  ·refine ⟨⟨g, (i + 1) * 19, none⟩, by simp [h], Lib.hid fun t u hu => ?_⟩
   rw [Addr.add_lit]
   have ht := (List.getElem?_eq_some_iff.1 hu).1
   rw [s1.out] at ht
   have hq : t / 19 < (es.drop (i + 1)).length := by rw [hd]; omega
   have hgg := flat_get (enc := Subtype.val) Cl.len (es.drop (i + 1)) (t / 19) _ (List.getElem?_eq_getElem hq) (t % 19) (Nat.mod_lt _ (by omega))
   rw [show t / 19 * 19 + t % 19 = t by omega, hu] at hgg
   rw [List.getElem_drop] at hgg
   have := hb.cell (i + 1 + t / 19) _ (List.getElem?_eq_getElem (by omega)) (t % 19) u hgg.symm
   rw [show (i + 1 + t / 19) * 19 + t % 19 = (i + 1) * 19 + t by omega] at this
   exact this
 have hcl := Lib.hid (show ∀ ty cc, (Builtin.clear_ #[23] ty #[.slice (some ⟨g, (m - 1) * 19, none⟩) 1 cc]).run Try.prog W1 = .ok (.tuple #[]) (W1.setCells g ((m - 1) * 19) zObjC.1) from fun ty cc =>
  run_clear_K W1 _ _ ty zObj Try.underlying23 (fun w => by kernel_rfl) 1 (by decide) _ zObj_cells zObjC.one g ((m - 1) * 19) cc (fun t ht => by
    rw [Cl.len] at ht
    have hlt : m - 1 < es1.length := by rw [hl1]; omega
    have h8 : t < es1[m - 1].1.length := by rw [Cl.len]; omega
    have := b1.cell _ _ (List.getElem?_eq_getElem hlt) t _ (List.getElem?_eq_getElem h8)
    rw [this]
    rfl) (fun t _ => b1.frozen _))
 have HF := Lib.hid (show (W1.setCells g ((m - 1) * 19) zObjC.1).ownsRow base 47 19 (.slice (some ⟨g, 0, none⟩) (m - 1) c) (m - 1) ((es.take i ++ es.drop (i + 1)).flatMap Subtype.val) by
  have b2 := BlkK.setCells (enc := Subtype.val) Cl.len b1 (m - 1) (by rw [hl1]; omega) zObjC
  have b3 := BlkC.take b2 (m - 1)
  rw [List.take_set_of_le (Nat.le_refl _), htk] at b3
  have hlen : (es.take i ++ es.drop (i + 1)).length = m - 1 := by rw [List.length_append, List.length_take, hd]; omega
  have := own_of b3 (d1.sets zObjC.1 _ _) (by rw [hlen]; omega)
  rw [hlen] at this
  exact this)
 have HG := Lib.hid (show w.grownBy (W1.setCells g ((m - 1) * 19) zObjC.1) (some g) by
  have key : ∀ (vs : List Value) (oo : Nat) (w' : World), w.grownBy w' (some g) → w.grownBy (w'.setCells g oo vs) (some g) := by
   intro vs
   induction vs with
   | nil => intro oo w' h; exact h
   | cons v r ih => intro oo w' h; exact ih (oo + 1) _ ⟨h.os, h.tape, h.output, by have := h.size; simpa [World.setCell] using this, fun k hk hr => (Below.heap_setCell _ _ _ _ (fun e => hr (by rw [e]))).trans (h.block k hk hr)⟩
  rw [hW1]
  exact key _ _ _ (key _ _ _ ⟨rfl, rfl, rfl, Nat.le_refl _, fun _ _ _ => rfl⟩))
 have EI := Lib.hid (show _ ∧ _ ∧ _ from ⟨e1, hi0, hs0⟩)
 have HW1 := Lib.hid (show w.drew.setCells g (0 + i * 19) ((es.drop (i + 1)).flatMap Subtype.val) = W1 by rw [hW1, Nat.zero_add])
 clear b1 d1 hl1 htk cell hb hh hd hW1 e1 e2 e3 hi0 hz0 hs0 hby0 hes1
 generalize hj : i + 1 = j at *
 have HJ := Lib.hid hj
 have hne : ((i : Int) == (j : Int)) = false := beq_eq_false_iff_ne.2 (by omega)
 have hij : i ≤ j := by omega
 have hjm : j ≤ m := by omega
 have him : i ≤ m := by omega
 have hic : i ≤ c := by omega
 have hjc : j ≤ c := by omega
 have hij2 := Lib.hid (show i + (m - j) = m - 1 by omega)
 have hcl2 : ∀ ty, (Builtin.clear_ #[23] ty #[.slice (some ⟨g, (i + (m - j)) * 19, none⟩) (m - (i + (m - j))) (c - (i + (m - j)))]).run Try.prog W1 = .ok (.tuple #[]) (W1.setCells g ((m - 1) * 19) zObjC.1) := fun ty => by
  rw [hij2.out, show m - (m - 1) = 1 by omega]
  exact hcl.out ty _
 have hcq : ¬ c = i + (m - j) := by omega
 clear hj hcl
 go_enter Try.func62, Try.ntmps62
 go_wp2_with fail
 go_region_law (refine step_append_room rfl (.tmp 22) (.tmp 25) 23 rfl 47 ii 19 EI.out.1 EI.out.2.1 EI.out.2.2 g 0 i c (by simp [Act.eval, Act.put]) A (m - j) (c - j) _ (by simp [Act.eval, Act.put]) s1.out hsrc.out s2.out (by have := HJ.out; omega) s3.out ?_; rw [HW1.out])
 simp only [List.getElem_toArray, List.getElem_cons_succ, List.getElem_cons_zero, Act.put, List.setIfInBounds_toArray, List.set_cons_zero]
 go_wp2
 go_ret
 exact ⟨by rw [hij2.out] <;> rfl, HF.out, HG.out⟩
end Go.Proofs.Ytiebjkbofoppaaa
end
section
namespace Go.Proofs.Ytiebjkbofoppaaa
open Go Go.RowKit Go.Sort Cg
theorem grown_sets {w : World} {g : Nat} : ∀ (vs : List Value) (oo : Nat) (w' : World), w.grownBy w' (some g) → w.grownBy (w'.setCells g oo vs) (some g)
 | [], _, _, h => h
 | _ :: r, oo, _, h => grown_sets r (oo + 1) _ ⟨h.os, h.tape, h.output, by have := h.size; simpa [World.setCell] using this, fun k hk hr => (Below.heap_setCell _ _ _ _ (fun e => hr (by rw [e]))).trans (h.block k hk hr)⟩
theorem grown_below {w w1 w2 : World} {r : Option Nat} (h : w.grownBy w1 r) (hb : Below w1.heap.size w1 w2) : w.grownBy w2 r :=
 ⟨hb.os.trans h.os, hb.tape.trans h.tape, hb.output.trans h.output, Nat.le_trans h.size hb.size, fun k hk hr => (hb.block k (Nat.lt_of_lt_of_le hk h.size)).trans (h.block k hk hr)⟩
theorem below_grown {w w' : World} {r : Option Nat} (hb : Below w.heap.size w w') : w.grownBy w' r := ⟨hb.os, hb.tape, hb.output, hb.size, fun k hk _ => hb.block k hk⟩
theorem BlkC.beyond {k : Nat} {t : TypeId} {g : Nat} {w : World} {es : List (Cl k)} {B cap : Nat} (h : BlkC k t w g es) (hd : HdC B t k w g cap) (o : Nat) (vs : List Value) (ho : es.length * k ≤ o) (hc : o + vs.length ≤ cap * k) : BlkC k t (w.setCells g o vs) g es := by
 obtain ⟨cur, hg, hl, hcell⟩ := h
 obtain ⟨_, _, cur0, hg0, hs0⟩ := hd
 rw [hg] at hg0
 obtain rfl : cur = cur0 := by simpa using hg0
 obtain ⟨cur', h1, h2, h3⟩ := setCells_arr vs o w cur hg (by rw [hs0]; exact hc)
 refine ⟨cur', h1, by rw [h2]; exact hl, fun q x hq i u hu => ?_⟩
 have hik : i < k := by have := (List.getElem?_eq_some_iff.1 hu).1; rwa [Cl.len] at this
 have hql := (List.getElem?_eq_some_iff.1 hq).1
 have : (q + 1) * k ≤ es.length * k := Nat.mul_le_mul_right k hql
 rw [Nat.add_mul] at this
 rw [h3, if_neg (by omega)]
 exact hcell q x hq i u hu
structure Df (k : Nat) (t : TypeId) (base g n c : Nat) (es : List (Cl k)) (q : Cl k → Bool) (w wr : World) (i j : Nat) : Prop where
 cur : ∃ cur : List (Cl k), BlkC k t wr g cur ∧ cur.length = n ∧ cur.take i = (es.take j).filter (fun x => !q x) ∧ cur.drop j = es.drop j
 hd : HdC base t k wr g c
 gr : w.grownBy wr (some g)
 len : es.length = n
 il : i = ((es.take j).filter (fun x => !q x)).length
 ij : i < j
 jn : j ≤ n
theorem Df.old {k : Nat} {t : TypeId} {base g n c : Nat} {es : List (Cl k)} {q : Cl k → Bool} {w wr wr' : World} {i j : Nat} (h : Df k t base g n c es q w wr i j) (hb : Below wr.heap.size wr wr') : Df k t base g n c es q w wr' i j := by
 obtain ⟨cur, h1, h2, h3, h4⟩ := h.cur
 exact ⟨⟨cur, h1.same (hb.block g h1.lt), h2, h3, h4⟩, h.hd.same (hb.block g h1.lt), grown_below h.gr hb, h.len, h.il, h.ij, h.jn⟩
theorem take_filter_succ {α : Type} (f : α → Bool) (es : List α) (j : Nat) (hj : j < es.length) : (es.take (j + 1)).filter f = (es.take j).filter f ++ if f es[j] then [es[j]] else [] := by
 rw [List.take_succ_eq_append_getElem hj, List.filter_append]
 congr 1
 by_cases h : f es[j] <;> simp [h]
theorem drop_succ_of {α : Type} {cur es : List α} {j : Nat} (h : cur.drop j = es.drop j) : cur.drop (j + 1) = es.drop (j + 1) := by
 rw [← List.drop_drop, h, List.drop_drop]
theorem Df.skip {k : Nat} {t : TypeId} {base g n c : Nat} {es : List (Cl k)} {q : Cl k → Bool} {w wr : World} {i j : Nat} (h : Df k t base g n c es q w wr i j) (hj : j < es.length) (hq : q es[j] = true) : Df k t base g n c es q w wr i (j + 1) := by
 obtain ⟨cur, h1, h2, h3, h4⟩ := h.cur
 have e : (es.take (j + 1)).filter (fun x => !q x) = (es.take j).filter (fun x => !q x) := by
  rw [take_filter_succ _ es j hj, hq]
  simp
 have := h.len
 exact ⟨⟨cur, h1, h2, by rw [e]; exact h3, drop_succ_of h4⟩, h.hd, h.gr, h.len, by rw [e]; exact h.il, Nat.lt_succ_of_lt h.ij, by omega⟩
theorem Df.keep {k : Nat} {t : TypeId} {base g n c : Nat} {es : List (Cl k)} {q : Cl k → Bool} {w wr : World} {i j : Nat} (h : Df k t base g n c es q w wr i j) (hj : j < es.length) (hq : q es[j] = false) : Df k t base g n c es q w (wr.setCells g (i * k) es[j].1) (i + 1) (j + 1) := by
 obtain ⟨cur, h1, h2, h3, h4⟩ := h.cur
 have hil := h.il
 have hij := h.ij
 have hjn := h.len
 have e : (es.take (j + 1)).filter (fun x => !q x) = (es.take j).filter (fun x => !q x) ++ [es[j]] := by
  rw [take_filter_succ _ es j hj, hq]
  simp
 refine ⟨⟨cur.set i es[j], BlkK.setCells Cl.len h1 i (by omega) _, by rw [List.length_set]; exact h2, ?_, ?_⟩, h.hd.sets _ _ _, grown_sets _ _ _ h.gr, h.len, by rw [e, List.length_append, ← hil]; rfl, by omega, by omega⟩
 ·rw [e, List.take_succ_eq_append_getElem (by rw [List.length_set]; omega), List.take_set_of_le (Nat.le_refl i), List.getElem_set_self, h3]
 ·rw [List.drop_set_of_lt (by omega)]
  exact drop_succ_of h4
theorem Df.rng {k : Nat} {t : TypeId} {base g n c : Nat} {es : List (Cl k)} {q : Cl k → Bool} {w wr : World} {i j : Nat} (h : Df k t base g n c es q w wr i j) (hj : j < es.length) : wr.rangeAt g (j * k) es[j].1 ∧ wr.there g (i * k) k ∧ g < wr.heap.size := by
 obtain ⟨cur, h1, h2, h3, h4⟩ := h.cur
 have hjn := h.len
 have hij := h.ij
 have hc : cur[j]? = some es[j] := by
  have := congrArg (·[0]?) h4
  simp only [List.getElem?_drop, Nat.add_zero] at this
  rw [this, List.getElem?_eq_getElem hj]
 have th := blk_there h1 i (by omega) es[j]
 exact ⟨fun i' u hu => h1.cell j _ hc i' u hu, fun i' hi' => th i' (by rw [Cl.len]; exact hi'), h1.lt⟩
theorem Df.fin {k : Nat} {t : TypeId} {base g n c : Nat} {es : List (Cl k)} {q : Cl k → Bool} {w wr : World} {i : Nat} (h : Df k t base g n c es q w wr i n) (vs : List Value) (hc : n ≤ c) (hv : vs.length = (n - i) * k) : (wr.setCells g (i * k) vs).ownsRow base t k (.slice (some ⟨g, 0, none⟩) i c) i ((es.filter (fun x => !q x)).flatMap Subtype.val) ∧ w.grownBy (wr.setCells g (i * k) vs) (some g) := by
 obtain ⟨cur, h1, h2, h3, h4⟩ := h.cur
 have hij := h.ij
 have hil := h.il
 rw [← h.len, List.take_length] at h3 hil
 have hl : (cur.take i).length = i := by rw [List.length_take, h2]; omega
 have hle : i * k + (n - i) * k ≤ c * k := by rw [← Nat.add_mul]; exact Nat.mul_le_mul_right k (by omega)
 have b := BlkC.beyond (BlkC.take h1 i) h.hd (i * k) vs (by rw [hl]; exact Nat.le_refl _) (by rw [hv]; exact hle)
 have := own_of b (h.hd.sets vs _ _) (by rw [hl]; omega)
 rw [hl, h3] at this
 exact ⟨this, grown_sets _ _ _ h.gr⟩
theorem Df.start {k : Nat} {t : TypeId} {base g n c : Nat} {es : List (Cl k)} {q : Cl k → Bool} {w wr : World} {i : Nat} (hb : BlkC k t wr g es) (hd : HdC base t k wr g c) (hl : es.length = n) (hg : w.grownBy wr (some g)) (hi : i < es.length) (hqi : q es[i] = true) (hlt : ∀ j (h : j < es.length), j < i → q es[j] = false) : Df k t base g n c es q w wr i (i + 1) := by
 have e0 : (es.take i).filter (fun x => !q x) = es.take i := by
  rw [List.filter_eq_self]
  intro x hx
  obtain ⟨j, hj, rfl⟩ := List.getElem_of_mem hx
  rw [List.length_take] at hj
  rw [List.getElem_take, hlt j (by omega) (by omega)]
  rfl
 have e : (es.take (i + 1)).filter (fun x => !q x) = es.take i := by
  rw [take_filter_succ _ es i hi, hqi, e0]
  simp
 exact ⟨⟨es, hb, hl, by rw [e], rfl⟩, hd, hg, hl, by rw [e, List.length_take]; omega, Nat.lt_succ_self _, by omega⟩
/-- The first index, at raw elements. -/
theorem fidx_es {k : Nat} {F : Nat → Prop} {L : Nat} {w : World} {e : List K} {es : List (Cl k)} {xs : List (List D)} (h : Es F L w e es xs) (p : List D → Bool) (q : Cl k → Bool) (hpq : ∀ (j : Nat) (x : Cl k) (d : List D), es[j]? = some x → xs[j]? = some d → q x = p d) :
  (fidx p xs = -1 ∧ es.filter (fun x => !q x) = es) ∨ ∃ i : Nat, fidx p xs = i ∧ ∃ hi : i < es.length, q es[i] = true ∧ ∀ j (h : j < es.length), j < i → q es[j] = false := by
 have at_ : ∀ j (h1 : j < es.length) (h2 : j < xs.length), q es[j] = p xs[j] := fun j h1 h2 => hpq j _ _ (List.getElem?_eq_getElem h1) (List.getElem?_eq_getElem h2)
 have hlen := h.len
 unfold fidx
 cases hf : xs.findIdx? p with
 | none =>
  refine .inl ⟨rfl, ?_⟩
  rw [List.filter_eq_self]
  intro x hx
  obtain ⟨j, hj, rfl⟩ := List.getElem_of_mem hx
  have := List.findIdx?_eq_none_iff.1 hf xs[j] (List.getElem_mem (by omega))
  rw [at_ j hj (by omega), this]
  rfl
 | some i =>
  obtain ⟨h1, h2, h3⟩ := List.findIdx?_eq_some_iff_getElem.1 hf
  refine .inr ⟨i, rfl, by omega, by rw [at_ i (by omega) h1]; exact h2, fun j hj hji => ?_⟩
  have := h3 j hji
  rw [at_ j hj (by omega)]
  simpa using this
theorem Es.filter {k : Nat} {F : Nat → Prop} {L : Nat} {w : World} {e : List K} (p : List D → Bool) (q : Cl k → Bool) : ∀ {es : List (Cl k)} {xs : List (List D)}, Es F L w e es xs → (∀ (j : Nat) (x : Cl k) (d : List D), es[j]? = some x → xs[j]? = some d → q x = p d) → Es F L w e (es.filter q) (xs.filter p)
 | [], [], _, _ => es_nil _ _ _ _ _
 | [], _ :: _, h, _ => by have := h.len; simp at this
 | _ :: _, [], h, _ => by have := h.len; simp at this
 | x :: es, d :: xs, h, hq => by
  have ih := Es.filter p q (es := es) (xs := xs) ⟨by have := h.len; simpa using this, fun j vs ds h1 h2 => h.at_ (j + 1) vs ds h1 h2⟩ (fun j x d h1 h2 => hq (j + 1) x d h1 h2)
  have h0 := hq 0 x d rfl rfl
  by_cases hp : p d = true
  ·rw [List.filter_cons_of_pos (by rw [h0]; exact hp), List.filter_cons_of_pos hp]
   refine ⟨by simp [ih.len], fun j vs ds h1 h2 => ?_⟩
   rcases j with _ | j
   ·obtain rfl := Option.some.inj h1
    obtain rfl := Option.some.inj h2
    exact h.at_ 0 _ _ rfl rfl
   ·exact ih.at_ j vs ds h1 h2
  ·rw [List.filter_cons_of_neg (by rw [h0]; exact hp), List.filter_cons_of_neg hp]
   exact ih
theorem zeroCells_one (z : Array Value) (h : z.all (·.oneCell') = true) (n : Nat) : ∀ u ∈ (Builtin.zeroCells z n).toList, u.oneCell' = true := by
 intro u hu
 rw [Array.all_eq_true] at h
 simp only [Builtin.zeroCells, Array.toList_map, List.mem_map, Array.toList_range, List.mem_range] at hu
 obtain ⟨i, hi, rfl⟩ := hu
 have hz : 0 < z.size := Nat.pos_of_ne_zero (fun e => by rw [e, Nat.mul_zero] at hi; omega)
 have := h (i % z.size) (Nat.mod_lt _ hz)
 rw [getElem!_pos z (i % z.size) (Nat.mod_lt _ hz)]
 exact this
end Go.Proofs.Ytiebjkbofoppaaa
end
section
namespace Go.Proofs.Ytiebjkbofoppaaa
open Go Go.RowKit Go.Sort Go.Shelf Cg
theorem infoInt1 : (Try.prog.info? 3).map (·.size) = some 1 := by kernel_rfl
/-- The number in cell i. -/
def cInt (vs : List Value) (i : Nat) : Int := match vs[i]? with
 | some (.int _ n) => n
 | _ => 0
theorem cInt_of {vs : List Value} {i : Nat} {n : Int} {k : IntKind} (h : vs[i]? = some (.int k n)) : cInt vs i = n := by unfold cInt; rw [h]
theorem store_at (w : World) (b o : Nat) (cs : List Value) (ht : w.there b o cs.length) (h1 : ∀ u ∈ cs, u.oneCell' = true) : (storeCells ⟨b, o, none⟩ cs).run Try.prog w = .ok () (w.setCells b o cs) := by
 have := run_storeCells_cells (P := Try.prog) b o cs 0 w (fun j hj => (ht j hj).1) (fun j hj => (ht j hj).2) h1
 simpa using this
theorem zAllItem : ∃ z : Value, (∀ w, (zeroValue 83).run Try.prog w = .ok z w) ∧ z.cells.size = 94 ∧ z.cells.all (·.oneCell') = true := ⟨Try.prog.info? 83 |>.bind (·.zero) |>.getD undef, fun w => by kernel_rfl, by kernel_rfl, by kernel_rfl⟩
set_option maxRecDepth 100000 in
set_option maxHeartbeats 8000000 in
theorem delfuncItem (F G : Nat → Prop) (L M base : Nat) (v : Value) (es : List (Cl 94)) (xs : List (List D)) (id : Int) (bi : Nat) (w : World) (h : RdC F L w (.sl kItem 824) v (.sl xs)) (hes : Es G M w kItem es xs) (hL : L ≤ 140737488355328) (hown : w.ownsRow base 83 94 v es.length (es.flatMap Subtype.val)) (hi : w.cell? ⟨bi, 0, none⟩ = some (.int .i64 id)) (hne : v.ownBlock ≠ some bi) (q : Cl 94 → Bool) (hq : q = (fun x : Cl 94 => cInt x.1 0 == id && cInt x.1 1 == 1)) :
  Calls Try.prog 64 #[v, .func (.func 65) #[] #[.pointer (some ⟨bi, 0, none⟩)]] w fun e w' => ∃ ao m c, e = .returned (.slice ao m c) ∧ m = (es.filter (fun x => !q x)).length ∧ w'.ownsRow base 83 94 (.slice ao m c) m ((es.filter (fun x => !q x)).flatMap Subtype.val) ∧ (∀ g, (Value.slice ao m c).ownBlock = some g → v.ownBlock = some g) ∧ w.grownBy w' v.ownBlock := by
 have eg : ∀ args w, (callFunc 65 args).run Try.prog w = .ok (.enter 65 args) w := enters_of Try.func65 (by kernel_rfl) rfl
 have hby := rd_bytes h
 have hxl := hes.len
 have HI0 := Lib.hid (idx_remove F L v xs id bi w h hL hi)
 have hpq : ∀ (j : Nat) (x : Cl 94) (d : List D), es[j]? = some x → xs[j]? = some d → q x = (fun o => dint o 0 == id && dint o 1 == 1) d := fun j x d h1 h2 => by
  rw [hq]
  have hr := hes.at_ j x d h1 h2
  have q0 := cInt_of (hr.int 0 rfl).1
  have q1 := cInt_of (hr.int 1 rfl).1
  simp only [q0, q1]
 have HQ := Lib.hid hq
 obtain ⟨p, hp⟩ : ∃ p : List D → Bool, p = (fun o => dint o 0 == id && dint o 1 == 1) := ⟨_, rfl⟩
 rw [← hp] at HI0
 have hfx := fidx_es hes p q (by rw [hp]; exact hpq)
 have hint : ∀ j (hj : j < es.length), ∃ z kd : Int, es[j].1[0]? = some (.int .i64 z) ∧ es[j].1[1]? = some (.int .i64 kd) := fun j hj => by
  have hr := hes.get j hj (by omega)
  exact ⟨_, _, (hr.int 0 rfl).1, (hr.int 1 rfl).1⟩
 have HINT := Lib.hid hint
 obtain ⟨ao, n, c, rfl⟩ := own_sl hown
 obtain ⟨hnl, hnc, hnil, hat⟩ := own_cap hown
 rcases hfx with ⟨hm1, hall⟩ | ⟨i0, hi0, hil, hqi, hlt⟩
 ·rw [hm1] at HI0
  rw [hall]
  have HO := Lib.hid hown
  have HNL := Lib.hid hnl
  clear hnl hall hint hpq hes h hown hq hp hm1 hi hat hnil hxl hby
  go_enter Try.func64, Try.ntmps64
  go_wp2_with fail
  refine HI0.out.mono ?_
  rintro e w1 ⟨rfl, b1⟩
  go_wp2_with fail
  go_ret
  exact ⟨ao, n, c, rfl, HNL.out, ownsRow_old (by rw [HNL.out] at HO ⊢; exact HO.out) b1, fun g hg => hg, below_grown b1⟩
 ·rcases own_form hown with ⟨cap, hv, h0⟩ | ⟨g, cap, hv⟩
  ·omega
  simp only [Value.slice.injEq] at hv
  obtain ⟨rfl, rfl, rfl⟩ := hv
  rw [hi0] at HI0
  obtain ⟨n, hn⟩ : ∃ n, n = es.length := ⟨_, rfl⟩
  have hb := own_blkC hown rfl
  have hd := hdC_of hown
  have hng : bi ≠ g := fun e => hne (by rw [e]; rfl)
  have HIB := Lib.hid hi
  have HGB := Lib.hid (hown.lt g rfl)
  have hgs : Hid (∀ wr, Below w.heap.size w wr → Df 94 83 base g n c es q w wr i0 (i0 + 1)) := Lib.hid fun wr hbw => Df.start (hb.same (hbw.block g hb.lt)) (hd.same (hbw.block g hb.lt)) hn.symm (below_grown hbw) hil hqi hlt
  obtain ⟨z, hz1, hz2, hz3⟩ := zAllItem
  have HZ1 := Lib.hid hz1
  have HZ2 := Lib.hid hz2
  have HZ3 := Lib.hid hz3
  have hcm : c ≤ 9223372036854775807 := by
   have := hd.2.1
   simp only [maxLen] at this
   omega
  have hnx : n * 824 ≤ 140737488355328 := by omega
  rw [← hn] at hnc HI0 ⊢
  have hin : i0 < n := by omega
  have hw0 : IntKind.i64.wrap ((i0 : Int) + 1) = ((i0 + 1 : Nat) : Int) := by rw [IntKind.wrap_i64]; omega
  have hn1 : ((i0 : Int) == -1) = false := beq_eq_false_iff_ne.2 (by omega)
  have HN := Lib.hid hn
  clear hint hpq hes h hown hq hp hi hat hnil hxl hby hi0 hil hqi hlt hb hd hn hz1 hz2 hz3 hnl hne
  go_enter Try.func64, Try.ntmps64
  go_wp2_with fail
  refine HI0.out.mono ?_
  rintro e w1 ⟨rfl, b1⟩
  skip
  have BI := Lib.hid b1; clear b1
  go_wp2_with fail
  go_loopw [5, 6] (fun a b wr => ∃ i j : Nat, a = .int .i64 i ∧ b = .int .i64 j ∧ Df 94 83 base g n c es q w wr i j ∧ wr.cell? ⟨bi, 0, none⟩ = some (.int .i64 id)) (fun _ b _ => n - (intOf b).toNat)
  case atStart => exact ⟨i0, i0 + 1, rfl, rfl, hgs.out _ BI.out, (BI.out.cell (p := ⟨bi, 0, none⟩) (block_lt_of_cell HIB.out)).trans HIB.out⟩
  case round =>
   obtain ⟨i, j, rfl, rfl, df, hci⟩ := hrel
   have hij := df.ij
   have hjn := df.jn
   have DF := Lib.hid df
   have HCI := Lib.hid hci
   clear df hci
   by_cases hlt : j < n
   ·have hle : j < es.length := by rw [← HN.out]; exact hlt
    obtain ⟨rg, th, hglt⟩ := DF.out.rng hle
    have hin2 : i < n := by omega
    have hwi : IntKind.i64.wrap ((i : Int) + 1) = ((i + 1 : Nat) : Int) := by rw [IntKind.wrap_i64]; omega
    have hwj : IntKind.i64.wrap ((j : Int) + 1) = ((j + 1 : Nat) : Int) := by rw [IntKind.wrap_i64]; omega
    obtain ⟨x, hx⟩ : ∃ x, x = es[j] := ⟨_, rfl⟩
    rw [← hx] at rg
    obtain ⟨zz, kd, hz0, hz1⟩ := HINT.out j hle
    rw [← hx] at hz0 hz1
    obtain ⟨pb, hpb⟩ : ∃ pb, pb = q x := ⟨_, rfl⟩
    have hcl : ∀ (W : World), W.cell? ⟨bi, 0, none⟩ = some (.int .i64 id) → Calls Try.prog 65 #[.agg x.1.toArray, .pointer (some ⟨bi, 0, none⟩)] W fun e w' => e = .returned (.bool pb) ∧ Below W.heap.size W w' := fun W hW => by
     have := remove1 x.1 zz kd id bi W hz0 hz1 hW
     rw [hpb, HQ.out]
     simp only [cInt_of hz0, cInt_of hz1]
     exact this
    have RG := Lib.hid rg
    have HIN := Lib.hid (show (Try.prog.info? 83).map (·.size) = some x.1.length by rw [infoItem, x.len])
    obtain ⟨zs, hzs⟩ : ∃ zs : List Value, zs = Try.zeroCells83.toList := ⟨_, rfl⟩
    have hzl : zs.length = 94 := by rw [hzs, Array.length_toList]; exact Try.zeroCells83_size
    obtain ⟨Wa, hWa⟩ : ∃ Wa, Wa = wr.alloc (.cells Try.zeroCells83 83) := ⟨_, rfl⟩
    have bxa : Bx Wa wr.heap.size 83 zs := by rw [hWa, hzs]; exact Bx.new _ _ _
    have hst := store_cs Wa wr.heap.size x.1 (by rw [x.len, ← hzl]; exact bxa.there) x.one
    obtain ⟨Wb, hWb⟩ : ∃ Wb, Wb = Wa.setCells wr.heap.size 0 x.1 := ⟨_, rfl⟩
    have bxb := bxa.setAll x.1 (by rw [x.len, hzl])
    rw [← hWb] at bxb hst
    have BB := Lib.hid (show Below wr.heap.size wr Wb by
     rw [hWb]
     refine below_sets _ _ _ ?_ _ (Nat.le_refl _)
     rw [hWa]
     exact (Below.refl _ _).alloc (Nat.le_refl _) _)
    have RGB := Lib.hid bxb.range
    have BXB := Lib.hid bxb
    have HCL := Lib.hid (hcl Wb ((BB.out.cell (p := ⟨bi, 0, none⟩) (block_lt_of_cell HCI.out)).trans HCI.out))
    rw [hWa] at hst
    have HPB := Lib.hid hpb
    have HX := Lib.hid hx
    clear rg th hzs bxa bxb hWa hWb hcl hpb hx hz0 hz1 hzl
    cases pb
    ·go_wp2_with (first
      | (with_reducible refine wpList_load_mid rfl 83 (.tmp 24) rfl g (j * 94) ?_ x.1 _ RG.out Try.underlying83 rfl HIN.out ?_; simp [Act.eval])
      | (with_reducible refine wpList_load_mid rfl 83 (.tmp 7) rfl wr.heap.size 0 ?_ x.1 _ RGB.out Try.underlying83 rfl HIN.out ?_; simp [Act.eval])
      | (with_reducible refine wpList_load_mid rfl 83 (.tmp 7) rfl wr.heap.size 0 ?_ x.1 _ RG5.out Try.underlying83 rfl HIN.out ?_; simp [Act.eval])
      | (go_at_fn 65; refine HCL.out.mono ?_; rintro e w5 ⟨rfl, b5⟩; have B5 := Lib.hid (BB.out.trans (b5.mono BB.out.size)); have RG5 := Lib.hid (BXB.out.old b5).range; have D5 := Lib.hid (DF.out.old B5.out); have hs5 := store_at w5 g (i * 94) x.1 (by rw [x.len]; exact (D5.out.rng hle).2.1) x.one; clear b5))
     go_round
     case rel => exact ⟨i + 1, j + 1, by go_num, by go_num, by have := D5.out.keep hle (by rw [← HX.out]; exact HPB.out.symm); rw [← HX.out] at this; exact this, (World.cell?_of_block (a := ⟨bi, 0, none⟩) (heap_sets _ _ _ _ bi hng)).trans ((B5.out.cell (p := ⟨bi, 0, none⟩) (block_lt_of_cell HCI.out)).trans HCI.out)⟩
     case measure => simp [intOf]; omega
    ·go_wp2_with (first
      | (with_reducible refine wpList_load_mid rfl 83 (.tmp 24) rfl g (j * 94) ?_ x.1 _ RG.out Try.underlying83 rfl HIN.out ?_; simp [Act.eval])
      | (with_reducible refine wpList_load_mid rfl 83 (.tmp 7) rfl wr.heap.size 0 ?_ x.1 _ RGB.out Try.underlying83 rfl HIN.out ?_; simp [Act.eval])
      | (go_at_fn 65; refine HCL.out.mono ?_; rintro e w5 ⟨rfl, b5⟩; have B5 := Lib.hid (BB.out.trans (b5.mono BB.out.size)); clear b5))
     go_round
     case rel => exact ⟨i, j + 1, rfl, by go_num, (DF.out.old B5.out).skip hle (by rw [← HX.out]; exact HPB.out.symm), (B5.out.cell (p := ⟨bi, 0, none⟩) (block_lt_of_cell HCI.out)).trans HCI.out⟩
     case measure => simp [intOf]; omega
   ·obtain rfl : j = n := by omega
    obtain ⟨vs, hvs⟩ : ∃ vs, vs = (Builtin.zeroCells z.cells (j - i)).toList := ⟨_, rfl⟩
    have hvl : vs.length = (j - i) * 94 := by rw [hvs, Array.length_toList, size_zeroCells, HZ2.out]
    have hfin := DF.out.fin vs hnc hvl
    have hth : ∀ t, t < vs.length → (wr.cell? ⟨g, i * 94 + t, none⟩).isSome = true ∧ wr.frozen? ⟨g, i * 94 + t, none⟩ = false := fun t ht => by
     obtain ⟨_, _, cur, hg, hs⟩ := DF.out.hd
     rw [hvl] at ht
     have : j * 94 ≤ c * 94 := Nat.mul_le_mul_right _ hnc
     exact ⟨by rw [cell_of_row _ _ _ _ _ _ hg, Array.getElem?_eq_getElem (by rw [hs]; omega)]; rfl, by simp [World.frozen?, hg]⟩
    have hclr : ∀ ty, (Builtin.clear_ #[25] ty #[.slice (some ⟨g, i * 94, none⟩) (j - i) (c - i)]).run Try.prog wr = .ok (.tuple #[]) (wr.setCells g (i * 94) vs) := fun ty =>
     run_clear_K wr _ _ ty z Try.underlying25 HZ1.out (j - i) (by omega) vs hvs.symm (by rw [hvs]; exact zeroCells_one _ HZ3.out _) g (i * 94) (c - i) (fun t ht => (hth t ht).1) (fun t ht => (hth t ht).2)
    have HF := Lib.hid hfin
    have HIL := Lib.hid DF.out.il
    have hci : ¬ (c = i) := by omega
    have hic : i ≤ c := by omega
    have hij2 : i ≤ j := by omega
    clear hfin hth hvs hvl
    go_wp2_with fail
    go_ret
    refine ⟨_, _, _, rfl, ?_, HF.out.1, fun g hg => hg, HF.out.2⟩
    have := HIL.out
    rwa [HN.out, List.take_length] at this
theorem zAllint : ∃ z : Value, (∀ w, (zeroValue 3).run Try.prog w = .ok z w) ∧ z.cells.size = 1 ∧ z.cells.all (·.oneCell') = true := ⟨Try.prog.info? 3 |>.bind (·.zero) |>.getD undef, fun w => by kernel_rfl, by kernel_rfl, by kernel_rfl⟩
set_option maxRecDepth 100000 in
set_option maxHeartbeats 8000000 in
theorem delfuncint (F G : Nat → Prop) (L M base : Nat) (v : Value) (es : List (Cl 1)) (xs : List (List D)) (id : Int) (bi : Nat) (w : World) (h : RdC F L w (.sl (kI 1) 8) v (.sl xs)) (hes : Es G M w (kI 1) es xs) (hL : L ≤ 140737488355328) (hown : w.ownsRow base 3 1 v es.length (es.flatMap Subtype.val)) (hi : w.cell? ⟨bi, 0, none⟩ = some (.int .i64 id)) (hne : v.ownBlock ≠ some bi) (q : Cl 1 → Bool) (hq : q = (fun x : Cl 1 => cInt x.1 0 == id)) :
  Calls Try.prog 77 #[v, .func (.func 78) #[] #[.pointer (some ⟨bi, 0, none⟩)]] w fun e w' => ∃ ao m c, e = .returned (.slice ao m c) ∧ m = (es.filter (fun x => !q x)).length ∧ w'.ownsRow base 3 1 (.slice ao m c) m ((es.filter (fun x => !q x)).flatMap Subtype.val) ∧ (∀ g, (Value.slice ao m c).ownBlock = some g → v.ownBlock = some g) ∧ w.grownBy w' v.ownBlock := by
 have eg : ∀ args w, (callFunc 78 args).run Try.prog w = .ok (.enter 78 args) w := enters_of Try.func78 (by kernel_rfl) rfl
 have hby := rd_bytes h
 have hxl := hes.len
 have HI0 := Lib.hid (idx_without F L v xs id bi w h hL hi)
 have hpq : ∀ (j : Nat) (x : Cl 1) (d : List D), es[j]? = some x → xs[j]? = some d → q x = (fun x => dint x 0 == id) d := fun j x d h1 h2 => by
  rw [hq]
  have hr := hes.at_ j x d h1 h2
  have q0 := cInt_of (hr.int 0 rfl).1
  simp only [q0]
 have HQ := Lib.hid hq
 obtain ⟨p, hp⟩ : ∃ p : List D → Bool, p = (fun x => dint x 0 == id) := ⟨_, rfl⟩
 rw [← hp] at HI0
 have hfx := fidx_es hes p q (by rw [hp]; exact hpq)
 have hint : ∀ j (hj : j < es.length), ∃ z : Int, es[j].1[0]? = some (.int .i64 z) := fun j hj => by
  have hr := hes.get j hj (by omega)
  exact ⟨_, (hr.int 0 rfl).1⟩
 have HINT := Lib.hid hint
 obtain ⟨ao, n, c, rfl⟩ := own_sl hown
 obtain ⟨hnl, hnc, hnil, hat⟩ := own_cap hown
 rcases hfx with ⟨hm1, hall⟩ | ⟨i0, hi0, hil, hqi, hlt⟩
 ·rw [hm1] at HI0
  rw [hall]
  have HO := Lib.hid hown
  have HNL := Lib.hid hnl
  clear hnl hall hint hpq hes h hown hq hp hm1 hi hat hnil hxl hby
  go_enter Try.func77, Try.ntmps77
  go_wp2_with fail
  refine HI0.out.mono ?_
  rintro e w1 ⟨rfl, rfl⟩
  go_wp2_with fail
  go_ret
  exact ⟨ao, n, c, rfl, HNL.out, by rw [HNL.out] at HO ⊢; exact HO.out, fun g hg => hg, ⟨rfl, rfl, rfl, Nat.le_refl _, fun _ _ _ => rfl⟩⟩
 ·rcases own_form hown with ⟨cap, hv, h0⟩ | ⟨g, cap, hv⟩
  ·omega
  simp only [Value.slice.injEq] at hv
  obtain ⟨rfl, rfl, rfl⟩ := hv
  rw [hi0] at HI0
  obtain ⟨n, hn⟩ : ∃ n, n = es.length := ⟨_, rfl⟩
  have hb := own_blkC hown rfl
  have hd := hdC_of hown
  have hng : bi ≠ g := fun e => hne (by rw [e]; rfl)
  have HIB := Lib.hid hi
  have HGB := Lib.hid (hown.lt g rfl)
  have hgs : Hid (∀ wr, wr = w → Df 1 3 base g n c es q w wr i0 (i0 + 1)) := Lib.hid fun wr hbw => by subst hbw; exact Df.start hb hd hn.symm ⟨rfl, rfl, rfl, Nat.le_refl _, fun _ _ _ => rfl⟩ hil hqi hlt
  obtain ⟨z, hz1, hz2, hz3⟩ := zAllint
  have HZ1 := Lib.hid hz1
  have HZ2 := Lib.hid hz2
  have HZ3 := Lib.hid hz3
  have hcm : c ≤ 9223372036854775807 := by
   have := hd.2.1
   simp only [maxLen] at this
   omega
  have hnx : n * 8 ≤ 140737488355328 := by omega
  rw [← hn] at hnc HI0 ⊢
  have hin : i0 < n := by omega
  have hw0 : IntKind.i64.wrap ((i0 : Int) + 1) = ((i0 + 1 : Nat) : Int) := by rw [IntKind.wrap_i64]; omega
  have hn1 : ((i0 : Int) == -1) = false := beq_eq_false_iff_ne.2 (by omega)
  have HN := Lib.hid hn
  clear hint hpq hes h hown hq hp hi hat hnil hxl hby hi0 hil hqi hlt hb hd hn hz1 hz2 hz3 hnl hne
  go_enter Try.func77, Try.ntmps77
  go_wp2_with fail
  refine HI0.out.mono ?_
  rintro e w1 ⟨rfl, hw1⟩
  obtain ⟨w, rfl⟩ : ∃ w0, w0 = w1 := ⟨_, rfl⟩; subst hw1
  skip
  go_wp2_with fail
  go_loopw [5, 6] (fun a b wr => ∃ i j : Nat, a = .int .i64 i ∧ b = .int .i64 j ∧ Df 1 3 base g n c es q w wr i j ∧ wr.cell? ⟨bi, 0, none⟩ = some (.int .i64 id)) (fun _ b _ => n - (intOf b).toNat)
  case atStart => exact ⟨i0, i0 + 1, rfl, rfl, hgs.out _ rfl, HIB.out⟩
  case round =>
   obtain ⟨i, j, rfl, rfl, df, hci⟩ := hrel
   have hij := df.ij
   have hjn := df.jn
   have DF := Lib.hid df
   have HCI := Lib.hid hci
   clear df hci
   by_cases hlt : j < n
   ·have hle : j < es.length := by rw [← HN.out]; exact hlt
    obtain ⟨rg, th, hglt⟩ := DF.out.rng hle
    have hin2 : i < n := by omega
    have hwi : IntKind.i64.wrap ((i : Int) + 1) = ((i + 1 : Nat) : Int) := by rw [IntKind.wrap_i64]; omega
    have hwj : IntKind.i64.wrap ((j : Int) + 1) = ((j + 1 : Nat) : Int) := by rw [IntKind.wrap_i64]; omega
    obtain ⟨x, hx⟩ : ∃ x, x = es[j] := ⟨_, rfl⟩
    rw [← hx] at rg
    obtain ⟨zz, hz0⟩ := HINT.out j hle
    rw [← hx] at hz0
    have c0 := rg 0 _ hz0
    rw [Nat.mul_one, Nat.add_zero] at c0
    have f0 := (th 0 (by decide)).2
    have e0 := (th 0 (by decide)).1
    rw [Nat.mul_one, Nat.add_zero] at f0 e0
    obtain ⟨y0, hy0⟩ := Option.isSome_iff_exists.1 e0
    obtain ⟨pb, hpb⟩ : ∃ pb, pb = q x := ⟨_, rfl⟩
    have HCL := Lib.hid (show Calls Try.prog 78 #[.int .i64 zz, .pointer (some ⟨bi, 0, none⟩)] wr fun e w' => e = .returned (.bool pb) ∧ w' = wr by
     have := without1 zz id bi wr HCI.out
     rw [hpb, HQ.out]
     simp only [cInt_of hz0]
     exact this)
    have hx1 : x.1 = [.int .i64 zz] := by
     have hl := x.len
     match h : x.1, hl with
     | [u], _ =>
      rw [h] at hz0
      rw [Option.some.inj hz0]
    have HPB := Lib.hid hpb
    have HX := Lib.hid hx
    have HX1 := Lib.hid hx1
    clear rg th hpb hx hz0 e0 hx1
    cases pb
    ·go_wp2_with (go_at_fn 78; refine HCL.out.mono ?_; rintro e w5 ⟨rfl, rfl⟩)
     go_round
     case rel => exact ⟨i + 1, j + 1, by go_num, by go_num, by have := DF.out.keep hle (by rw [← HX.out]; exact HPB.out.symm); rw [← HX.out, HX1.out, Nat.mul_one] at this; exact this, (World.cell?_of_block (a := ⟨bi, 0, none⟩) (Below.heap_setCell _ ⟨g, i, none⟩ _ bi hng)).trans HCI.out⟩
     case measure => simp [intOf]; omega
    ·go_wp2_with (go_at_fn 78; refine HCL.out.mono ?_; rintro e w5 ⟨rfl, rfl⟩)
     go_round
     case rel => exact ⟨i, j + 1, rfl, by go_num, DF.out.skip hle (by rw [← HX.out]; exact HPB.out.symm), HCI.out⟩
     case measure => simp [intOf]; omega
   ·obtain rfl : j = n := by omega
    obtain ⟨vs, hvs⟩ : ∃ vs, vs = (Builtin.zeroCells z.cells (j - i)).toList := ⟨_, rfl⟩
    have hvl : vs.length = (j - i) * 1 := by rw [hvs, Array.length_toList, size_zeroCells, HZ2.out]
    have hfin := DF.out.fin vs hnc hvl
    have hth : ∀ t, t < vs.length → (wr.cell? ⟨g, i * 1 + t, none⟩).isSome = true ∧ wr.frozen? ⟨g, i * 1 + t, none⟩ = false := fun t ht => by
     obtain ⟨_, _, cur, hg, hs⟩ := DF.out.hd
     rw [hvl] at ht
     have : j * 1 ≤ c * 1 := Nat.mul_le_mul_right _ hnc
     exact ⟨by rw [cell_of_row _ _ _ _ _ _ hg, Array.getElem?_eq_getElem (by rw [hs]; omega)]; rfl, by simp [World.frozen?, hg]⟩
    have hclr : ∀ ty, (Builtin.clear_ #[24] ty #[.slice (some ⟨g, i, none⟩) (j - i) (c - i)]).run Try.prog wr = .ok (.tuple #[]) (wr.setCells g (i) vs) := fun ty =>
     run_clear_K wr _ _ ty z Try.underlying24 HZ1.out (j - i) (by omega) vs hvs.symm (by rw [hvs]; exact zeroCells_one _ HZ3.out _) g (i) (c - i) (fun t ht => by have := (hth t ht).1; rwa [Nat.mul_one] at this) (fun t ht => by have := (hth t ht).2; rwa [Nat.mul_one] at this)
    have HF := Lib.hid hfin
    have HIL := Lib.hid DF.out.il
    have hci : ¬ (c = i) := by omega
    have hic : i ≤ c := by omega
    have hij2 : i ≤ j := by omega
    clear hfin hth hvs hvl
    go_wp2_with fail
    go_ret
    refine ⟨_, _, _, rfl, ?_, by have := HF.out.1; rw [Nat.mul_one] at this; exact this, fun g hg => hg, by have := HF.out.2; rw [Nat.mul_one] at this; exact this⟩
    have := HIL.out
    rwa [HN.out, List.take_length] at this
end Go.Proofs.Ytiebjkbofoppaaa
end
section
namespace Go.Proofs.Ytiebjkbofoppaaa
open Go Go.RowKit Go.Sort Cg
/-- The tree of a number alone. -/
theorem OwnI.rdc {B L : Nat} {w : World} {v : Value} {xs : List (List D)} (h : OwnI B w v xs) (hby : xs.length * 8 ≤ L) : RdC (fun _ => True) L w kInts v (.sl xs) := h.rd _ L hby (fun _ _ _ => trivial)
set_option maxHeartbeats 2000000 in
theorem without_prog (F : Nat → Prop) (L : Nat) (v : Value) (xs : List (List D)) (id : Int) (w : World) (h : RdC F L w kInts v (.sl xs)) (hL : L ≤ 140737488355328) :
  Calls Try.prog 63 #[v, .int .i64 id] w fun e w' => ∃ ao m c, e = .returned (.slice ao m c) ∧ OwnI w.heap.size w' (.slice ao m c) (xs.filter (fun x => !(dint x 0 == id))) ∧ Below w.heap.size w w' := by
 have hby := rd_bytes h
 obtain ⟨W0, hW0⟩ : ∃ W, W = w.alloc (.cells #[.int .i64 id] 3) := ⟨_, rfl⟩
 have b0 : Below w.heap.size w W0 := by rw [hW0]; exact (Below.refl _ _).alloc (Nat.le_refl _) _
 have hs0 : W0.heap.size = w.heap.size + 1 := by rw [hW0]; simp
 have c0 : W0.cell? ⟨w.heap.size, 0, none⟩ = some (.int .i64 id) := by
  rw [hW0]
  exact cell_of_row _ _ 0 _ _ _ (heap_alloc_new w _)
 have HC := Lib.hid (clone_own F L v xs W0 (h.old b0) hL)
 have B0 := Lib.hid b0
 have HS0 := Lib.hid hs0
 have C0 := Lib.hid c0
 have HW0 := Lib.hid hW0
 clear h b0 hs0 c0 hW0
 go_enter Try.func63, Try.ntmps63
 go_wp2_with fail
 rw [← HW0.out]
 refine HC.out.mono ?_
 rintro e w1 ⟨v1, rfl, own, b1⟩
 obtain ⟨es, ow, hes⟩ := own
 have hlen := hes.len
 have hrd : RdC (fun _ => True) L w1 kInts v1 (.sl xs) := OwnI.rdc ⟨es, ow, hes⟩ hby
 have hne : v1.ownBlock ≠ some w.heap.size := fun e => by have := (ow.lt _ e).1; have := HS0.out; omega
 have HD := Lib.hid (delfuncint (fun _ => True) (fun _ => False) L 0 W0.heap.size v1 es xs id w.heap.size w1 hrd hes hL ow ((b1.cell (p := ⟨w.heap.size, 0, none⟩) (by show w.heap.size < _; have := HS0.out; omega)).trans C0.out) hne _ rfl)
 have B1 := Lib.hid b1
 have HES := Lib.hid hes
 have OW := Lib.hid ow
 obtain ⟨ao, m, c, rfl⟩ := own_sl ow
 clear b1 hes ow hrd hne hlen
 go_wp2_with fail
 refine HD.out.mono ?_
 rintro e w2 ⟨ao2, m2, c2, rfl, hm, ow2, hsame, gr⟩
 have HM := Lib.hid hm
 have OW2 := Lib.hid ow2
 have GR := Lib.hid gr
 clear hm ow2 hsame gr
 go_wp2_with fail
 go_ret
 refine ⟨ao2, m2, c2, rfl, ⟨es.filter (fun x => !(cInt x.1 0 == id)), ?_, ?_⟩, ?_⟩
 ·have := OW2.out
  rw [HM.out] at this ⊢
  exact own_low this (by have := HS0.out; omega)
 ·exact Es.filter (fun x => !(dint x 0 == id)) _ (es_any (flat_ints 1) HES.out) (fun j x d h1 h2 => by
   have hr := HES.out.at_ j x d h1 h2
   rw [cInt_of (hr.int 0 rfl).1])
 ·have g := GR.out
  refine ⟨g.os.trans (B1.out.os.trans B0.out.os), g.tape.trans (B1.out.tape.trans B0.out.tape), g.output.trans (B1.out.output.trans B0.out.output), Nat.le_trans (Nat.le_trans B0.out.size B1.out.size) g.size, fun k hk => ?_⟩
  have h1 := B0.out.size
  have h2 := B1.out.size
  exact (g.block k (by omega) (fun e => by have := (OW.out.lt k e.symm).1; omega)).trans ((B1.out.block k (by omega)).trans (B0.out.block k hk))
/-- Where the list of a zone lies: in the state itself or in a player. -/
def listPtr (b : Nat) (ao : Option Addr) (n : Nat) (zone player : Int) : Option Addr :=
 if zone == 0 then some ⟨b, 2, none⟩ else if zone == 4 then some ⟨b, 3, none⟩ else if player < 0 ∨ (n : Int) ≤ player then none else
  match ao with
  | some ⟨g, o, none⟩ => if zone == 1 then some ⟨g, o + player.toNat * 14 + 12, none⟩ else if zone == 2 then some ⟨g, o + player.toNat * 14 + 11, none⟩ else if zone == 3 then some ⟨g, o + player.toNat * 14 + 13, none⟩ else none
  | _ => none
set_option maxHeartbeats 2000000 in
theorem list_prog (b : Nat) (ao : Option Addr) (n c : Nat) (zone player : Int) (w : World) (h0 : w.cell? ⟨b, 0, none⟩ = some (.slice ao n c)) (hn : 0 < n → ∃ g o, ao = some ⟨g, o, none⟩) (hn63 : n ≤ 1000000000000000000) :
  Calls Try.prog 33 #[.pointer (some ⟨b, 0, none⟩), .int .i64 zone, .int .i64 player] w fun e w' => e = .returned (.pointer (listPtr b ao n zone player)) ∧ w' = w := by
 cases hz0 : zone == 0
 ·cases hz4 : zone == 4
  ·by_cases hp0 : player < 0
   ·have hpd : (decide (player < 0)) = true := decide_eq_true hp0
    have hv : listPtr b ao n zone player = none := by unfold listPtr; simp [hz0, hz4, hp0]
    rw [hv]
    clear hv hn
    go_enter Try.func33, Try.ntmps33
    go_wp2_with fail
    go_ret
    exact ⟨rfl, rfl⟩
   ·obtain ⟨p, rfl⟩ : ∃ p : Nat, player = p := ⟨player.toNat, by omega⟩
    by_cases hpn : n ≤ p
    ·have hp1 : ¬ ((p : Int) < 0) := by omega
     have hp2 : ((n : Int) ≤ (p : Int)) := by omega
     have hv : listPtr b ao n zone p = none := by unfold listPtr; simp [hz0, hz4, hpn]
     rw [hv]
     clear hv hn
     go_enter Try.func33, Try.ntmps33
     go_wp2_with fail
     go_ret
     exact ⟨rfl, rfl⟩
    ·obtain ⟨g, o, rfl⟩ := hn (by omega)
     have hp1 : ¬ ((p : Int) < 0) := by omega
     have hp2 : ¬ ((n : Int) ≤ (p : Int)) := by omega
     have hpl : p < n := by omega
     clear hn
     cases hz1 : zone == 1
     ·cases hz2 : zone == 2
      ·cases hz3 : zone == 3
       ·have hv : listPtr b (some ⟨g, o, none⟩) n zone p = none := by unfold listPtr; simp [hz0, hz4, hpn, hz1, hz2, hz3]
        rw [hv]
        clear hv
        go_enter Try.func33, Try.ntmps33
        go_wp2_with fail
        go_ret
        exact ⟨rfl, rfl⟩
       ·have hv : listPtr b (some ⟨g, o, none⟩) n zone p = some ⟨g, o + p * 14 + 13, none⟩ := by unfold listPtr; simp [hz0, hz4, hpn, hz1, hz2, hz3]
        rw [hv]
        clear hv
        go_enter Try.func33, Try.ntmps33
        go_wp2_with fail
        go_ret
        exact ⟨rfl, rfl⟩
      ·have hv : listPtr b (some ⟨g, o, none⟩) n zone p = some ⟨g, o + p * 14 + 11, none⟩ := by unfold listPtr; simp [hz0, hz4, hpn, hz1, hz2]
       rw [hv]
       clear hv
       go_enter Try.func33, Try.ntmps33
       go_wp2_with fail
       go_ret
       exact ⟨rfl, rfl⟩
     ·have hv : listPtr b (some ⟨g, o, none⟩) n zone p = some ⟨g, o + p * 14 + 12, none⟩ := by unfold listPtr; simp [hz0, hz4, hpn, hz1]
      rw [hv]
      clear hv
      go_enter Try.func33, Try.ntmps33
      go_wp2_with fail
      go_ret
      exact ⟨rfl, rfl⟩
  ·have hv : listPtr b ao n zone player = some ⟨b, 3, none⟩ := by unfold listPtr; simp [hz0, hz4]
   rw [hv]
   clear hv hn
   go_enter Try.func33, Try.ntmps33
   go_wp2_with fail
   go_ret
   exact ⟨rfl, rfl⟩
 ·have hv : listPtr b ao n zone player = some ⟨b, 2, none⟩ := by unfold listPtr; simp [hz0]
  rw [hv]
  clear hv hn
  go_enter Try.func33, Try.ntmps33
  go_wp2_with fail
  go_ret
  exact ⟨rfl, rfl⟩
end Go.Proofs.Ytiebjkbofoppaaa
end
section
namespace Go.Proofs.Ytiebjkbofoppaaa
open Go Go.RowKit Go.Sort Cg
def isId (id : Int) (o : List D) : Bool := dint o 0 == id
set_option maxHeartbeats 2000000 in
theorem place_prog (F : Nat → Prop) (L : Nat) (cs : List Value) (ds : List D) (id : Int) (w : World) (h : RdL F L w kState cs ds) (hL : L ≤ 140737488355328) :
  Calls Try.prog 49 #[.agg cs.toArray, .int .i64 id] w fun e w' => e = .returned (.int .i64 (fidx (fun o => dint o 0 == id) (dxs ds 1))) ∧ Below w.heap.size w w' := by
 obtain ⟨v1, hv1, _, r1⟩ := h.sl 1 _ _ rfl
 obtain ⟨W0, hW0⟩ : ∃ W, W = (w.alloc (.cells cs.toArray 30)).alloc (.cells #[.int .i64 id] 3) := ⟨_, rfl⟩
 have hsz : (w.alloc (.cells cs.toArray 30)).heap.size = w.heap.size + 1 := by simp
 have bx : Bx W0 w.heap.size 30 cs := by rw [hW0]; exact (Bx.new _ _ _).old ((Below.refl _ _).alloc (Nat.le_refl _) _)
 have B0 := Lib.hid (show Below w.heap.size w W0 by rw [hW0]; exact ((Below.refl w.heap.size w).alloc (Nat.le_refl _) _).alloc (by rw [hsz]; omega) _)
 have c0 := bx.cell 1 v1 hv1
 have ci : W0.cell? ⟨w.heap.size + 1, 0, none⟩ = some (.int .i64 id) := by
  rw [hW0, ← hsz]
  exact cell_of_row _ _ 0 _ _ _ (heap_alloc_new _ _)
 have HI := Lib.hid (idx_place F L v1 (dxs ds 1) id (w.heap.size + 1) W0 (r1.old B0.out) hL ci)
 have HW0 := Lib.hid hW0
 rw [hW0] at c0
 clear hW0 bx ci r1 hsz h
 go_enter Try.func49, Try.ntmps49
 go_wp2_with fail
 rw [← HW0.out]
 refine HI.out.mono ?_
 rintro e w1 ⟨rfl, b1⟩
 have B1 := Lib.hid b1
 clear b1
 go_wp2_with fail
 go_ret
 exact ⟨rfl, B0.out.trans (B1.out.mono B0.out.size)⟩
def zD : List D := zObjC.1.map .lit
/-- The object with an id, or a blank one. -/
def findO (id : Int) (xs : List (List D)) : List D := (xs.find? (fun o => dint o 0 == id)).getD zD
def hasO (id : Int) (xs : List (List D)) : Bool := (xs.find? (fun o => dint o 0 == id)).isSome
theorem fidx_find {α : Type} (p : α → Bool) (xs : List α) : (fidx p xs = -1 ∧ xs.find? p = none) ∨ ∃ i : Nat, fidx p xs = i ∧ ∃ h : i < xs.length, xs.find? p = some xs[i] := by
 unfold fidx
 cases h : xs.findIdx? p with
 | none => exact .inl ⟨rfl, List.find?_eq_none.2 (fun x hx => by rw [List.findIdx?_eq_none_iff.1 h x hx]; simp)⟩
 | some i =>
  obtain ⟨h1, h2, h3⟩ := List.findIdx?_eq_some_iff_getElem.1 h
  refine .inr ⟨i, rfl, h1, ?_⟩
  rw [List.find?_eq_some_iff_append]
  refine ⟨h2, xs.take i, xs.drop (i + 1), by rw [List.getElem_cons_drop, List.take_append_drop], fun a ha => ?_⟩
  obtain ⟨j, hj, rfl⟩ := List.getElem_of_mem ha
  rw [List.length_take] at hj
  have := h3 j (by omega)
  rw [List.getElem_take]
  simpa using this
theorem zObj_rd (w : World) : RdL (fun _ => False) 0 w kObject zObjC.1 zD := by
 have key : ∀ (ks : List K) (vs : List Value), (List.zip ks vs).all (fun p => match p.1, p.2 with
   | .lit .int, .int .i64 _ => true
   | .lit .bool, .bool _ => true
   | _, _ => false) = true → ks.length = vs.length → RdL (fun _ => False) 0 w ks vs (vs.map .lit) := by
  intro ks
  induction ks with
  | nil => intro vs _ hl; match vs, hl with
   | [], _ => exact .nil
  | cons k ks ih =>
   intro vs hall hl
   match vs, hl with
   | v :: vs, hl =>
    simp only [List.zip_cons_cons, List.all_cons, Bool.and_eq_true] at hall
    refine .cons ?_ (ih vs hall.2 (by simpa using hl))
    have h1 := hall.1
    match k, v, h1 with
    | .lit .int, .int .i64 n, _ => exact .lit ⟨n, rfl⟩
    | .lit .bool, .bool b, _ => exact .lit ⟨b, rfl⟩
 exact key kObject zObjC.1 (by decide) (by decide)
/-- Two results: a struct's variable and a slot. -/
theorem results_cs2 {fn : Func} {t u : Tmp} {ty : TypeId} (hr : fn.results = #[.cell t ty, .tmp u]) {tmps : Array Value} {w : World} (b : Nat) (ht : tmps.getD t undef = .pointer (some ⟨b, 0, none⟩)) (v : Value) (hv : tmps.getD u undef = v) (cs : List Value) (d : TypeDesc) (hc : w.rangeAt b 0 cs) (hu : Try.prog.underlying ty = some d) (hd : d.isRow = true) (hi : (Try.prog.info? ty).map (·.size) = some cs.length) :
  (results fn tmps).run Try.prog w = .ok (.tuple #[.agg cs.toArray, v]) w := by
 unfold results
 rw [hr]
 rw [Array.getD_eq_getD_getElem?] at ht hv
 simp [ht, hv, asAddr, run_loadVar_mid w b 0 ty cs d hc hu hd hi]
set_option maxRecDepth 100000 in
set_option maxHeartbeats 4000000 in
theorem find_prog (F : Nat → Prop) (L : Nat) (cs : List Value) (ds : List D) (id : Int) (w : World) (h : RdL F L w kState cs ds) (hL : L ≤ 140737488355328) :
  Calls Try.prog 20 #[.agg cs.toArray, .int .i64 id] w fun e w' => ∃ oc, e = .returned (.tuple #[.agg oc.toArray, .bool (hasO id (dxs ds 1))]) ∧ RdL (fun _ => False) 0 w' kObject oc (findO id (dxs ds 1)) ∧ Below w.heap.size w w' := by
 have hl := h.len.1
 rw [kState_len] at hl
 obtain ⟨v1, hv1, _, r1⟩ := h.sl 1 _ _ rfl
 obtain ⟨W0, hW0⟩ : ∃ W, W = (w.alloc (.cells cs.toArray 30)).alloc (.cells zObjC.1.toArray 47) := ⟨_, rfl⟩
 have hsz : (w.alloc (.cells cs.toArray 30)).heap.size = w.heap.size + 1 := by simp
 have bx : Bx W0 w.heap.size 30 cs := by rw [hW0]; exact (Bx.new _ _ _).old ((Below.refl _ _).alloc (Nat.le_refl _) _)
 have br : Bx W0 (w.heap.size + 1) 47 zObjC.1 := by rw [hW0, ← hsz]; exact Bx.new _ _ _
 have B0 := Lib.hid (show Below w.heap.size w W0 by rw [hW0]; exact ((Below.refl w.heap.size w).alloc (Nat.le_refl _) _).alloc (by rw [hsz]; omega) _)
 have RG := Lib.hid (show ((w.alloc (.cells cs.toArray 30)).alloc (.cells #[.int .i64 0, .int .i64 0, .int .i64 0, .int .i64 0, .int .i64 0, .bool false, .bool false, .bool false, .bool false, .int .i64 0, .int .i64 0, .int .i64 0, .int .i64 0, .int .i64 0, .int .i64 0, .int .i64 0, .bool false, .int .i64 0, .int .i64 0] 47)).rangeAt w.heap.size 0 cs from (by rw [hW0] at bx; exact bx.range))
 have HI := Lib.hid (show (Try.prog.info? 30).map (·.size) = some cs.length by rw [infoState, hl])
 have HP := Lib.hid (place_prog F L cs ds id W0 (h.old B0.out) hL)
 have BX := Lib.hid bx
 have BR := Lib.hid br
 have R1 := Lib.hid r1
 have HV1 := Lib.hid hv1
 have HW0 := Lib.hid (show W0 = (w.alloc (.cells cs.toArray 30)).alloc (.cells #[.int .i64 0, .int .i64 0, .int .i64 0, .int .i64 0, .int .i64 0, .bool false, .bool false, .bool false, .bool false, .int .i64 0, .int .i64 0, .int .i64 0, .int .i64 0, .int .i64 0, .int .i64 0, .int .i64 0, .bool false, .int .i64 0, .int .i64 0] 47) from hW0)
 clear hW0 bx br r1 hsz h hv1 hl
 rcases fidx_find (fun o => dint o 0 == id) (dxs ds 1) with ⟨hm, hf⟩ | ⟨i, hm, hi, hf⟩
 ·rw [hm] at HP
  have hv : hasO id (dxs ds 1) = false ∧ findO id (dxs ds 1) = zD := by unfold hasO findO; rw [hf]; exact ⟨rfl, rfl⟩
  rw [hv.1, hv.2]
  clear hm hf hv
  go_enter Try.func20, Try.ntmps20
  go_wp2_with (with_reducible refine wpList_load_mid rfl 30 (.tmp 2) rfl w.heap.size 0 ?_ cs _ RG.out Try.underlying30 rfl HI.out ?_; simp [Act.eval])
  rw [← HW0.out]
  refine HP.out.mono ?_
  rintro e w1 ⟨rfl, b1⟩
  have B1 := Lib.hid b1
  have br1 := BR.out.old b1
  have HT := Lib.hid (show w1.there (w.heap.size + 1) 0 zObjC.1.toArray.size from br1.there)
  have HZ := Lib.hid (show (Try.prog.info? 47).map (·.size) = some zObjC.1.toArray.size from infoObject)
  have HO := Lib.hid (show zObjC.1.toArray.all (·.oneCell') = true from all_oneCell_toArray zObjC.one)
  have BR2 := Lib.hid (br1.setAll zObjC.1 rfl)
  clear b1 br1
  go_wp2_with (refine wpList_store_mid rfl 47 (.tmp 4) (.tmp 12) rfl (w.heap.size + 1) 0 zObjC.1.toArray ?_ ?_ HT.out HZ.out HO.out ?_; rfl; rfl)
  refine bodyPost_ret (results_cs2 Try.results20 (w.heap.size + 1) ?_ (.bool false) ?_ zObjC.1 _ (Bx.range BR2.out) Try.underlying47 rfl infoObject) rfl ?_
  ·rfl
  ·rfl
  ·exact ⟨zObjC.1, rfl, zObj_rd _, below_sets zObjC.1 0 w1 (B0.out.trans (B1.out.mono B0.out.size)) (w.heap.size + 1) (by omega)⟩
 ·rw [hm] at HP
  have hv : hasO id (dxs ds 1) = true ∧ findO id (dxs ds 1) = (dxs ds 1)[i] := by unfold hasO findO; rw [hf]; exact ⟨rfl, rfl⟩
  rw [hv.1, hv.2]
  obtain ⟨ao, cap, rfl, hcap, hby, hnn, hx⟩ := R1.out.form
  rcases hx with hx | ⟨b, o, rfl, hF, hbl, hE⟩
  ·rw [hx] at hi; simp at hi
  have hi63 : (dxs ds 1).length ≤ 1000000000000000000 := by omega
  clear hm hf hv hcap hnn
  go_enter Try.func20, Try.ntmps20
  go_wp2_with (with_reducible refine wpList_load_mid rfl 30 (.tmp 2) rfl w.heap.size 0 ?_ cs _ RG.out Try.underlying30 rfl HI.out ?_; simp [Act.eval])
  rw [← HW0.out]
  refine HP.out.mono ?_
  rintro e w1 ⟨rfl, b1⟩
  have B1 := Lib.hid b1
  have br1 := BR.out.old b1
  have c1 := (BX.out.old b1).cell 1 _ HV1.out
  have bel1 := B0.out.trans (b1.mono B0.out.size)
  obtain ⟨vs, hvs, hrd⟩ := (hE.frame (Nat.le_refl _) bel1.size (fun b _ hlt => bel1.block b hlt) (fun _ h _ => h) hF hbl).get i _ (List.getElem?_eq_getElem hi)
  rw [kObject_len] at hvs
  have hvl := hrd.len.1
  rw [kObject_len] at hvl
  have RV := Lib.hid (show w1.rangeAt b (o + i * 19) vs from hvs)
  have HIV := Lib.hid (show (Try.prog.info? 47).map (·.size) = some vs.length by rw [infoObject, hvl])
  have hst := store_cs w1 (w.heap.size + 1) vs (by rw [hvl]; exact br1.there) hrd.one
  have BR2 := Lib.hid (br1.setAll vs (by rw [hvl]; rfl))
  have HRD := Lib.hid hrd
  have HVL := Lib.hid hvl
  have HBL := Lib.hid bel1
  clear b1 br1 hrd hvs hvl hE bel1
  go_wp2_with (with_reducible refine wpList_load_mid rfl 47 (.tmp 16) rfl b (o + i * 19) ?_ vs _ RV.out Try.underlying47 rfl HIV.out ?_; simp [Act.eval]; have hvl := HVL.out)
  refine bodyPost_ret (results_cs2 Try.results20 (w.heap.size + 1) ?_ (.bool true) ?_ vs _ (Bx.range BR2.out) Try.underlying47 rfl HIV.out) rfl ?_
  ·rfl
  ·rfl
  ·have hb := below_sets vs 0 w1 HBL.out (w.heap.size + 1) (by omega)
   exact ⟨vs, rfl, HRD.out.any flatObject, hb⟩
end Go.Proofs.Ytiebjkbofoppaaa
end
section
namespace Go.Proofs.Ytiebjkbofoppaaa
open Go Go.RowKit Go.Sort Cg
theorem dxs_self (ds : List D) (i : Nat) (xs : List (List D)) (h : i < ds.length) : dxs (ds.set i (.sl xs)) i = xs := by
 unfold dxs
 rw [List.getElem?_set_self h]
theorem dxs_ne (ds : List D) (i j : Nat) (d : D) (h : j ≠ i) : dxs (ds.set i d) j = dxs ds j := by
 unfold dxs
 rw [List.getElem?_set_ne (fun e => h e.symm)]
/-- What a change of a state leaves alone, of the blocks below n. -/
structure Upd (ρ ρ' : Nat → Role) (B n : Nat) (w w' : World) : Prop where
 os : w'.os = w.os
 tape : w'.tape = w.tape
 output : w'.output = w.output
 size : w.heap.size ≤ w'.heap.size
 keep : ∀ b, b < n → (b < B ∨ ρ b = .none ∨ ρ b = .cold) → w'.heap[b]? = w.heap[b]?
 role : ∀ b, b < n → ρ' b = ρ b
theorem Upd.refl (ρ : Nat → Role) (B n : Nat) (w : World) : Upd ρ ρ B n w w := ⟨rfl, rfl, rfl, Nat.le_refl _, fun _ _ _ => rfl, fun _ _ => rfl⟩
theorem Upd.trans {ρ ρ1 ρ2 : Nat → Role} {B n m : Nat} {w w1 w2 : World} (h : Upd ρ ρ1 B n w w1) (k : Upd ρ1 ρ2 B m w1 w2) (hn : n ≤ m) : Upd ρ ρ2 B n w w2 :=
 ⟨k.os.trans h.os, k.tape.trans h.tape, k.output.trans h.output, Nat.le_trans h.size k.size, fun b hb hr => (k.keep b (Nat.lt_of_lt_of_le hb hn) (by rw [h.role b hb]; exact hr)).trans (h.keep b hb hr), fun b hb => (k.role b (Nat.lt_of_lt_of_le hb hn)).trans (h.role b hb)⟩
theorem Upd.below {ρ ρ' : Nat → Role} {B n A : Nat} {w0 w w' : World} (h : Upd ρ ρ' B n w w') (hb : Below A w0 w) (hA : A ≤ B) (hn : A ≤ n) : Below A w0 w' :=
 ⟨h.os.trans hb.os, h.tape.trans hb.tape, h.output.trans hb.output, Nat.le_trans hb.size h.size, fun k hk => (h.keep k (by omega) (.inl (by omega))).trans (hb.block k hk)⟩
theorem Upd.of_below {ρ ρ' : Nat → Role} {B n : Nat} {w w' : World} (hb : Below n w w') (hr : ∀ b, b < n → ρ' b = ρ b) : Upd ρ ρ' B n w w' := ⟨hb.os, hb.tape, hb.output, hb.size, fun b h _ => hb.block b h, hr⟩
theorem OwnS.frame {ρ ρ' : Nat → Role} {L L' B : Nat} {w w' : World} {cs : List Value} {ds : List D} (h : OwnS ρ L B w cs ds) (hL : L ≤ L') (hs : w.heap.size ≤ w'.heap.size) (hb : ∀ b, b < w.heap.size → ρ b ≠ .none → w'.heap[b]? = w.heap[b]?) (hr : ∀ b, b < w.heap.size → ρ' b = ρ b) : OwnS ρ' L' B w' cs ds := by
 refine ⟨h.len, ?_, fun c h1 h5 => ?_, h.rest.frame hL hs (fun b hc hlt => hb b hlt (by rw [hc]; simp)) (fun b hc hlt => (hr b hlt).trans hc)⟩
 ·obtain ⟨v, a, b, c⟩ := h.ply
  exact ⟨v, a, b, c.frame hL hs (fun b hlt hc => hb b hlt (by rcases hc with ⟨j, i, _, e⟩ | e | e <;> rw [e] <;> simp)) hr⟩
 ·obtain ⟨v, a, b, d⟩ := h.row c h1 h5
  exact ⟨v, a, b, d.frame hL hs (fun b hlt hc => hb b hlt (by rcases hc with e | e <;> rw [e] <;> simp)) hr⟩
open Classical in
/-- New memory plays no part. -/
theorem OwnS.new {ρ : Nat → Role} {L B : Nat} {w w' : World} {cs : List Value} {ds : List D} (h : OwnS ρ L B w cs ds) (hb : Below w.heap.size w w') : ∃ ρ', OwnS ρ' L B w' cs ds ∧ (∀ b, w.heap.size ≤ b → ρ' b = .none) ∧ ∀ b, b < w.heap.size → ρ' b = ρ b := by
 obtain ⟨ρ', hρ⟩ : ∃ ρ' : Nat → Role, ρ' = fun b => if b < w.heap.size then ρ b else .none := ⟨_, rfl⟩
 have h1 : ∀ b, b < w.heap.size → ρ' b = ρ b := fun b hb => by rw [hρ]; simp only [if_pos hb]
 exact ⟨ρ', h.frame (Nat.le_refl _) hb.size (fun b hlt _ => hb.block b hlt) h1, fun b hge => by rw [hρ]; simp only [if_neg (Nat.not_lt.2 hge)], h1⟩
/-- A store into a block that plays no part. -/
theorem OwnS.aside {ρ : Nat → Role} {L B : Nat} {w : World} {cs : List Value} {ds : List D} (h : OwnS ρ L B w cs ds) (b i : Nat) (u : Value) (hb : ρ b = .none) : OwnS ρ L B (w.setCell ⟨b, i, none⟩ u) cs ds :=
 h.frame (Nat.le_refl _) (by simp [World.setCell]) (fun k _ hk => Below.heap_setCell _ _ _ _ (fun e => hk (by rw [e]; exact hb))) (fun _ _ => rfl)
theorem OwnS.asides {ρ : Nat → Role} {L B : Nat} {w : World} {cs : List Value} {ds : List D} (h : OwnS ρ L B w cs ds) (b i : Nat) (us : List Value) (hb : ρ b = .none) : OwnS ρ L B (w.setCells b i us) cs ds :=
 h.frame (Nat.le_refl _) (by rw [sets_size]; exact Nat.le_refl _) (fun k _ hk => heap_sets _ _ _ _ _ (fun e => hk (by rw [e]; exact hb))) (fun _ _ => rfl)
/-- A number of the state. -/
theorem OwnS.setLit {ρ : Nat → Role} {L B : Nat} {w : World} {cs : List Value} {ds : List D} (h : OwnS ρ L B w cs ds) (c : Nat) (hc : 5 ≤ c) (l : Lk) (hk : kState[c]? = some (.lit l)) (u : Value) (hu : isLit l u) : OwnS ρ L B w (cs.set c u) (ds.set c (.lit u)) := by
 refine ⟨by simp only [List.length_set]; exact h.len, ?_, fun i h1 h5 => ?_, ?_⟩
 ·obtain ⟨v, a, b, d⟩ := h.ply
  have e : dxs (ds.set c (.lit u)) 0 = dxs ds 0 := by unfold dxs; rw [List.getElem?_set_ne (by omega)]
  rw [e]
  exact ⟨v, by rw [List.getElem?_set_ne (by omega)]; exact a, by rw [List.getElem?_set_ne (by omega)]; exact b, d⟩
 ·obtain ⟨v, a, b, d⟩ := h.row i h1 h5
  have e : dxs (ds.set c (.lit u)) i = dxs ds i := by unfold dxs; rw [List.getElem?_set_ne (by omega)]
  rw [e]
  exact ⟨v, by rw [List.getElem?_set_ne (by omega)]; exact a, by rw [List.getElem?_set_ne (by omega)]; exact b, d⟩
 ·have := h.rest.set (c - 5) (.lit l) u (.lit u) (by rw [List.getElem?_drop, show 5 + (c - 5) = c by omega]; exact hk) (.lit hu)
  rw [List.drop_set, List.drop_set, if_neg (by omega), if_neg (by omega)]
  exact this
open Classical in
/-- One of the rows changed. -/
theorem OwnS.setRow {ρ : Nat → Role} {L L' B : Nat} {w w' : World} {cs : List Value} {ds : List D} (h : OwnS ρ L B w cs ds) (c : Nat) (h1 : 1 ≤ c) (h5 : c < 5) (v v' : Value) (hv : cs[c]? = some v) (hL : L ≤ L') (gr : w.grownBy w' v.ownBlock) (xs' : List (List D))
  (row : ∃ es : List (Cl (kk c)), w'.ownsRow B (tt c) (kk c) v' es.length (es.flatMap Subtype.val) ∧ Es (fun b => ρ b = .cold) L' w (ee c) es xs') (hby : xs'.length * bb c ≤ L') (hsame : ∀ g, v'.ownBlock = some g → v.ownBlock = some g ∨ w.heap.size ≤ g) :
  ∃ ρ', OwnS ρ' L' B w' (cs.set c v') (ds.set c (.sl xs')) ∧ Upd ρ ρ' B w.heap.size w w' := by
 obtain ⟨ρ', hρ⟩ : ∃ ρ' : Nat → Role, ρ' = fun b => if b < w.heap.size then ρ b else .row c := ⟨_, rfl⟩
 have hr : ∀ b, b < w.heap.size → ρ' b = ρ b := fun b hb => by rw [hρ]; simp only [if_pos hb]
 obtain ⟨v0, hv0, _, ow⟩ := h.row c h1 h5
 obtain rfl : v0 = v := Option.some.inj (hv0.symm.trans hv)
 have hkeep : ∀ b, b < w.heap.size → ρ b ≠ .row c → w'.heap[b]? = w.heap[b]? := fun b hb hne => gr.block b hb (fun e => hne (ow.role b e.symm))
 refine ⟨ρ', ⟨by simp only [List.length_set]; exact h.len, ?_, fun i hi1 hi5 => ?_, ?_⟩, ⟨gr.os, gr.tape, gr.output, gr.size, fun b hb hc => gr.block b hb (fun e => ?_), hr⟩⟩
 ·obtain ⟨u, a, b, d⟩ := h.ply
  have e : dxs (ds.set c (.sl xs')) 0 = dxs ds 0 := by unfold dxs; rw [List.getElem?_set_ne (by omega)]
  rw [e]
  exact ⟨u, by rw [List.getElem?_set_ne (by omega)]; exact a, by rw [List.getElem?_set_ne (by omega)]; exact b, d.frame hL gr.size (fun b hb hc => hkeep b hb (by rcases hc with ⟨j, i, _, e⟩ | e | e <;> rw [e] <;> simp)) hr⟩
 ·by_cases hic : i = c
  ·subst hic
   have hds := h.len
   have e : dxs (ds.set i (.sl xs')) i = xs' := by unfold dxs; rw [List.getElem?_set_self (by omega)]
   rw [e]
   obtain ⟨es, o1, o2⟩ := row
   refine ⟨v', List.getElem?_set_self (by omega), List.getElem?_set_self (by omega), ⟨⟨es, o1, o2.frame (Nat.le_refl _) gr.size (fun b hc hb => hkeep b hb (by rw [hc]; simp)) (fun b hc hb => (hr b hb).trans hc)⟩, fun g hg => ?_, hby⟩⟩
   rcases hsame g hg with e | e
   ·exact (hr g (ow.lt g e).2).trans (ow.role g e)
   ·rw [hρ]; simp only [if_neg (Nat.not_lt.2 e)]
  ·obtain ⟨u, a, b, d⟩ := h.row i hi1 hi5
   have e : dxs (ds.set c (.sl xs')) i = dxs ds i := by unfold dxs; rw [List.getElem?_set_ne (fun e => hic e.symm)]
   rw [e]
   exact ⟨u, by rw [List.getElem?_set_ne (fun e => hic e.symm)]; exact a, by rw [List.getElem?_set_ne (fun e => hic e.symm)]; exact b, d.frame hL gr.size (fun b hb hc => hkeep b hb (by rcases hc with e | e <;> rw [e] <;> simp [hic])) hr⟩
 ·rw [List.drop_set, List.drop_set, if_pos h5, if_pos h5]
  exact h.rest.frame hL gr.size (fun b hc hb => hkeep b hb (by rw [hc]; simp)) (fun b hc hb => (hr b hb).trans hc)
 ·have h2 := ow.role b e.symm
  have h3 := (ow.lt b e.symm).1
  rcases hc with hc | hc | hc
  ·omega
  ·rw [h2] at hc; cases hc
  ·rw [h2] at hc; cases hc
open Classical in
/-- One of a player's lists changed: the new row, and the cell of the players' block that holds it. -/
theorem OwnS.setPly {ρ : Nat → Role} {L L' B : Nat} {w w' : World} {cs : List Value} {ds : List D} (h : OwnS ρ L B w cs ds) (p i : Nat) (hi : i < 3) (hp : p < (dxs ds 0).length) : ∃ g m c v, cs[0]? = some (.slice (some ⟨g, 0, none⟩) m c) ∧ m = (dxs ds 0).length ∧ ρ g = .ply ∧ g < w.heap.size ∧ B ≤ g ∧
  w.cell? ⟨g, p * 14 + (11 + i), none⟩ = some v ∧ w.frozen? ⟨g, p * 14 + (11 + i), none⟩ = false ∧ OwnR ρ (.lst p i) L B 1 3 (kI 1) 8 w v (dxs (dxs ds 0)[p] (11 + i)) ∧
  ∀ (v' : Value) (xs' : List (List D)), L ≤ L' → w.grownBy w' v.ownBlock → (∃ es : List (Cl 1), w'.ownsRow B 3 1 v' es.length (es.flatMap Subtype.val) ∧ Es (fun b => ρ b = .cold) L' w (kI 1) es xs') → xs'.length * 8 ≤ L' → (∀ g, v'.ownBlock = some g → v.ownBlock = some g ∨ w.heap.size ≤ g) →
  ∃ ρ', OwnS ρ' L' B (w'.setCell ⟨g, p * 14 + (11 + i), none⟩ v') cs (ds.set 0 (.sl ((dxs ds 0).set p ((dxs ds 0)[p].set (11 + i) (.sl xs'))))) ∧ Upd ρ ρ' B w.heap.size w (w'.setCell ⟨g, p * 14 + (11 + i), none⟩ v') := by
 obtain ⟨v0, hv0, hd0, pl⟩ := h.ply
 obtain ⟨es, o1, o2, o3⟩ := pl.row
 have hdl := h.len
 have hm : es.length ≠ 0 := by rw [o2]; omega
 rcases o1.2 with ⟨_, h0⟩ | ⟨g, cap, cur, rfl, hB, hg, hcap, hmax, hsz, htake⟩
 ·exact absurd h0 hm
 have hown := o1
 have hgl : g < w.heap.size := (o1.lt g rfl).2
 have hblk : BlkC 14 59 w g es := own_blkC hown rfl
 have hhd := hdC_of hown
 have hpe : p < es.length := by rw [o2]; exact hp
 have P := o3 p es[p] (dxs ds 0)[p] (List.getElem?_eq_getElem hpe) (List.getElem?_eq_getElem hp)
 obtain ⟨v, hv, hdv, ov⟩ := P.lst i hi
 have hρg : ρ g = .ply := pl.role g rfl
 refine ⟨g, es.length, cap, v, hv0, o2, hρg, hgl, hB, hblk.cell p _ (List.getElem?_eq_getElem hpe) (11 + i) v hv, hblk.frozen _, ov, fun v' xs' hL gr ⟨ns, n1, n2⟩ hby hsame => ?_⟩
 obtain ⟨ρ', hρ⟩ : ∃ ρ' : Nat → Role, ρ' = fun b => if b < w.heap.size then ρ b else .lst p i := ⟨_, rfl⟩
 have hr : ∀ b, b < w.heap.size → ρ' b = ρ b := fun b hb => by rw [hρ]; simp only [if_pos hb]
 obtain ⟨W', hW⟩ : ∃ W', W' = w'.setCell ⟨g, p * 14 + (11 + i), none⟩ v' := ⟨_, rfl⟩
 rw [← hW]
 have hsz : w.heap.size ≤ W'.heap.size := by rw [hW]; simpa [World.setCell] using gr.size
 have hkeep : ∀ b, b < w.heap.size → ρ b ≠ .lst p i → ρ b ≠ .ply → W'.heap[b]? = w.heap[b]? := fun b hb h1 h2 => by
  rw [hW, Below.heap_setCell _ _ _ _ (fun e => h2 (by rw [e]; exact hρg))]
  exact gr.block b hb (fun e => h1 (ov.role b e.symm))
 have hvg : v.ownBlock ≠ some g := fun e => by have := ov.role g e; rw [hρg] at this; cases this
 have hg' : w'.heap[g]? = w.heap[g]? := gr.block g hgl (fun e => hvg e.symm)
 have h1v : v'.oneCell' = true := by
  rcases n1.2 with ⟨rfl, _⟩ | ⟨_, _, _, rfl, _⟩ <;> rfl
 obtain ⟨y, hy⟩ : ∃ y : Cl 14, y.1 = es[p].1.set (11 + i) v' := ⟨⟨es[p].1.set (11 + i) v', by rw [List.length_set]; exact Cl.len _, fun u hu => by
  rcases List.mem_or_eq_of_mem_set hu with h | rfl
  ·exact Cl.one _ u h
  ·exact h1v⟩, rfl⟩
 have hpl : es[p].1.length = 14 := Cl.len _
 have hblk' : BlkC 14 59 W' g (es.set p y) := by
  rw [hW]
  refine BlkK.setCell Cl.len (hblk.same hg') p _ (List.getElem?_eq_getElem hpe) (11 + i) (by omega) v' y (fun k => ?_)
  show y.1[k]? = _
  rw [hy]
  by_cases hk : k = 11 + i
  ·subst hk; rw [List.getElem?_set_self (by omega), if_pos rfl]
  ·rw [List.getElem?_set_ne (fun e => hk e.symm), if_neg hk]
 have hhd' : HdC B 59 14 W' g cap := by rw [hW]; exact (hhd.same hg').set _ _
 have hds0 : dxs (ds.set 0 (.sl ((dxs ds 0).set p ((dxs ds 0)[p].set (11 + i) (.sl xs'))))) 0 = (dxs ds 0).set p ((dxs ds 0)[p].set (11 + i) (.sl xs')) := by unfold dxs; rw [List.getElem?_set_self (by omega)]
 have hdsc : ∀ c, 1 ≤ c → dxs (ds.set 0 (.sl ((dxs ds 0).set p ((dxs ds 0)[p].set (11 + i) (.sl xs'))))) c = dxs ds c := fun c hc => by unfold dxs; rw [List.getElem?_set_ne (by omega)]
 refine ⟨ρ', ⟨⟨hdl.1, by rw [List.length_set]; exact hdl.2⟩, ?_, fun c hc1 hc5 => ?_, ?_⟩, ⟨?_, ?_, ?_, hsz, fun b hb hc => ?_, hr⟩⟩
 ·rw [hds0]
  refine ⟨_, hv0, List.getElem?_set_self (by omega), ⟨⟨es.set p y, ?_, by rw [List.length_set, List.length_set]; exact o2, fun j vs dj e1 e2 => ?_⟩, fun g' hg' => ?_, ?_⟩⟩
  ·have := own_of hblk' hhd' (by rw [List.length_set]; exact hcap)
   rw [List.length_set] at this
   rw [List.length_set]
   exact this
  ·by_cases hj : j = p
   ·subst hj
    rw [List.getElem?_set_self hpe] at e1
    rw [List.getElem?_set_self hp] at e2
    obtain rfl := Option.some.inj e1
    obtain rfl := Option.some.inj e2
    rw [hy]
    refine ⟨?_, ⟨by rw [List.length_set]; exact P.len.1, by rw [List.length_set]; exact P.len.2⟩, fun k hk => ?_⟩
    ·rw [List.take_set_of_le (by omega), List.take_set_of_le (by omega)]
     exact P.rd.any flat11
    ·have hl2 := P.len
     by_cases hki : k = i
     ·subst hki
      have e : dxs ((dxs ds 0)[j].set (11 + k) (.sl xs')) (11 + k) = xs' := dxs_self _ _ _ (by omega)
      rw [e]
      refine ⟨v', List.getElem?_set_self (by omega), List.getElem?_set_self (by omega), ⟨⟨ns, ?_, n2.frame (Nat.le_refl _) hsz (fun b hc hb => hkeep b hb (by rw [hc]; simp) (by rw [hc]; simp)) (fun b hc hb => (hr b hb).trans hc)⟩, fun g2 hg2 => ?_, hby⟩⟩
      ·rw [hW]
       refine ownsRow_same n1 (fun g2 hg2 => Below.heap_setCell _ _ _ _ (fun e => ?_))
       rcases hsame g2 hg2 with e2 | e2
       ·have := ov.role g2 e2
        rw [e] at this
        rw [hρg] at this
        cases this
       ·have : g2 = g := e
        omega
      ·rcases hsame g2 hg2 with e2 | e2
       ·exact (hr g2 (ov.lt g2 e2).2).trans (ov.role g2 e2)
       ·rw [hρ]; simp only [if_neg (Nat.not_lt.2 e2)]
     ·obtain ⟨u, f1, f2, f3⟩ := P.lst k hk
      have e : dxs ((dxs ds 0)[j].set (11 + i) (.sl xs')) (11 + k) = dxs (dxs ds 0)[j] (11 + k) := dxs_ne _ _ _ _ (by omega)
      rw [e]
      exact ⟨u, by rw [List.getElem?_set_ne (by omega)]; exact f1, by rw [List.getElem?_set_ne (by omega)]; exact f2, f3.frame hL hsz (fun b hb hc => hkeep b hb (by rcases hc with e | e <;> rw [e] <;> simp [hki]) (by rcases hc with e | e <;> rw [e] <;> simp)) hr⟩
   ·rw [List.getElem?_set_ne (fun e => hj e.symm)] at e1 e2
    exact (o3 j vs dj e1 e2).frame hL hsz (fun b hb hc => hkeep b hb (by rcases hc with ⟨k, _, e⟩ | e <;> rw [e] <;> simp [hj]) (by rcases hc with ⟨k, _, e⟩ | e <;> rw [e] <;> simp)) hr
  ·cases hg'
   exact (hr g hgl).trans hρg
  ·rw [List.length_set]
   exact Nat.le_trans pl.bytes hL
 ·obtain ⟨u, f1, f2, f3⟩ := h.row c hc1 hc5
  rw [hdsc c hc1]
  exact ⟨u, f1, by rw [List.getElem?_set_ne (by omega)]; exact f2, f3.frame hL hsz (fun b hb hc => hkeep b hb (by rcases hc with e | e <;> rw [e] <;> simp) (by rcases hc with e | e <;> rw [e] <;> simp)) hr⟩
 ·rw [List.drop_set, if_pos (by omega)]
  exact h.rest.frame hL hsz (fun b hc hb => hkeep b hb (by rw [hc]; simp) (by rw [hc]; simp)) (fun b hc hb => (hr b hb).trans hc)
 ·rw [hW]; exact gr.os
 ·rw [hW]; exact gr.tape
 ·rw [hW]; exact gr.output
 ·rw [hW, Below.heap_setCell _ _ _ _ (fun e => ?_)]
  ·refine gr.block b hb (fun e => ?_)
   have h2 := ov.role b e.symm
   have h3 := (ov.lt b e.symm).1
   rcases hc with hc | hc | hc
   ·omega
   ·rw [h2] at hc; cases hc
   ·rw [h2] at hc; cases hc
  ·have e : b = g := e
   subst e
   rcases hc with hc | hc | hc
   ·omega
   ·rw [hρg] at hc; cases hc
   ·rw [hρg] at hc; cases hc
end Go.Proofs.Ytiebjkbofoppaaa
end
section
namespace Go.Proofs.Ytiebjkbofoppaaa
open Go Go.RowKit Go.Sort Cg
/-- Which field of a player holds the list of a zone. -/
def kof (z : Int) : Option Nat := if z == 1 then some 12 else if z == 2 then some 11 else if z == 3 then some 13 else none
def listT (ds : List D) (z p : Int) : List (List D) :=
 if z == 0 then dxs ds 2 else if z == 4 then dxs ds 3 else if p < 0 ∨ ((dxs ds 0).length : Int) ≤ p then [] else
  match kof z with
  | some k => dxs ((dxs ds 0).getD p.toNat []) k
  | none => []
def setT (ds : List D) (z p : Int) (l : List (List D)) : List D :=
 if z == 0 then ds.set 2 (.sl l) else if z == 4 then ds.set 3 (.sl l) else if p < 0 ∨ ((dxs ds 0).length : Int) ≤ p then ds else
  match kof z with
  | some k => ds.set 0 (.sl ((dxs ds 0).set p.toNat (((dxs ds 0).getD p.toNat []).set k (.sl l))))
  | none => ds
theorem Upd.mono {ρ ρ' : Nat → Role} {B n m : Nat} {w w' : World} (h : Upd ρ ρ' B n w w') (hm : m ≤ n) : Upd ρ ρ' B m w w' := ⟨h.os, h.tape, h.output, h.size, fun b hb => h.keep b (by omega), fun b hb => h.role b (by omega)⟩
theorem Upd.store {ρ ρ' : Nat → Role} {B n : Nat} {w w' : World} (h : Upd ρ ρ' B n w w') (b i : Nat) (u : Value) (hb : n ≤ b) : Upd ρ ρ' B n w (w'.setCell ⟨b, i, none⟩ u) :=
 ⟨h.os, h.tape, h.output, by have := h.size; simpa [World.setCell] using this, fun k hk hc => (Below.heap_setCell _ _ _ _ (fun e => by have : k = b := e; omega)).trans (h.keep k hk hc), h.role⟩
theorem Upd.stores {ρ ρ' : Nat → Role} {B n : Nat} {w w' : World} (h : Upd ρ ρ' B n w w') (b i : Nat) (us : List Value) (hb : n ≤ b) : Upd ρ ρ' B n w (w'.setCells b i us) :=
 ⟨(below_sets us i w' (Below.refl 0 w') b (Nat.zero_le _)).os.trans h.os, (below_sets us i w' (Below.refl 0 w') b (Nat.zero_le _)).tape.trans h.tape, (below_sets us i w' (Below.refl 0 w') b (Nat.zero_le _)).output.trans h.output, by rw [sets_size]; exact h.size, fun k hk hc => (heap_sets _ _ _ _ _ (fun e => by have : k = b := e; omega)).trans (h.keep k hk hc), h.role⟩
/-- What the pointer to the list of a zone is good for. -/
structure AtL (ρ : Nat → Role) (L B : Nat) (w : World) (b : Nat) (cs : List Value) (ds : List D) (z p : Int) (ab oo : Nat) (v : Value) : Prop where
 cell : w.cell? ⟨ab, oo, none⟩ = some v
 apart : ∀ k, ρ k = .none → k ≠ b → k ≠ ab
 nb : ∀ k, ρ k = .none → v.ownBlock ≠ some k
 own : ∃ r, OwnR ρ r L B 1 3 (kI 1) 8 w v (listT ds z p)
 there : ∀ w', w.grownBy w' v.ownBlock → w'.cell? ⟨ab, oo, none⟩ = some v ∧ w'.frozen? ⟨ab, oo, none⟩ = false
 put : ∀ (w' : World) (L' : Nat) (v' : Value) (xs' : List (List D)), L ≤ L' → w.grownBy w' v.ownBlock → (∃ es : List (Cl 1), w'.ownsRow B 3 1 v' es.length (es.flatMap Subtype.val) ∧ Es (fun b => ρ b = .cold) L' w (kI 1) es xs') → xs'.length * 8 ≤ L' → (∀ g, v'.ownBlock = some g → v.ownBlock = some g ∨ w.heap.size ≤ g) →
  ∃ ρ' cs', OwnS ρ' L' B (w'.setCell ⟨ab, oo, none⟩ v') cs' (setT ds z p xs') ∧ Bx (w'.setCell ⟨ab, oo, none⟩ v') b 30 cs' ∧ (∀ k, k < w.heap.size → ρ' k = ρ k) ∧ (∀ k, k < w.heap.size → k ≠ b → ρ k = .none → (w'.setCell ⟨ab, oo, none⟩ v').heap[k]? = w.heap[k]?) ∧ ∀ n, n ≤ w.heap.size → n ≤ b → Upd ρ ρ' B n w (w'.setCell ⟨ab, oo, none⟩ v')
theorem frozen_of_block {w w' : World} {b o : Nat} (h : w'.heap[b]? = w.heap[b]?) : w'.frozen? ⟨b, o, none⟩ = w.frozen? ⟨b, o, none⟩ := by
 unfold World.frozen?
 simp only [h]
theorem OwnS.atBox {ρ : Nat → Role} {L B : Nat} {w : World} {cs : List Value} {ds : List D} (h : OwnS ρ L B w cs ds) (b : Nat) (X : Bx w b 30 cs) (hb : ρ b = .none) (c : Nat) (h1 : 2 ≤ c) (h3 : c < 4) (z p : Int) (hl : listT ds z p = dxs ds c) (hs : ∀ l, setT ds z p l = ds.set c (.sl l)) : ∃ v, AtL ρ L B w b cs ds z p b c v := by
 obtain ⟨v, hv, hd, ov⟩ := h.row c (by omega) (by omega)
 have hk : kk c = 1 ∧ tt c = 3 ∧ ee c = kI 1 ∧ bb c = 8 := by
  rcases c with _ | _ | _ | _ | c
  ·omega
  ·omega
  ·exact ⟨rfl, rfl, rfl, rfl⟩
  ·exact ⟨rfl, rfl, rfl, rfl⟩
  ·omega
 have hvb : v.ownBlock ≠ some b := fun e => by have := ov.role b e; rw [hb] at this; cases this
 have same : ∀ w', w.grownBy w' v.ownBlock → w'.heap[b]? = w.heap[b]? := fun w' g => g.block b X.lt (fun e => hvb e.symm)
 have ov' : OwnR ρ (.row c) L B 1 3 (kI 1) 8 w v (dxs ds c) := by
  rcases c with _ | _ | _ | _ | c
  ·omega
  ·omega
  ·exact ov
  ·exact ov
  ·omega
 refine ⟨v, X.cell c v hv, fun k _ hne => hne, (fun k hk e => by have := ov.role k e; rw [hk] at this; cases this), ⟨.row c, by rw [hl]; exact ov'⟩, fun w' g => ⟨(X.same (same w' g)).cell c v hv, (X.same (same w' g)).frozen c⟩, fun w' L' v' xs' hL gr row hby hsame => ?_⟩
 have row' : ∃ es : List (Cl (kk c)), w'.ownsRow B (tt c) (kk c) v' es.length (es.flatMap Subtype.val) ∧ Es (fun b => ρ b = .cold) L' w (ee c) es xs' := by
  rcases c with _ | _ | _ | _ | c
  ·omega
  ·omega
  ·exact row
  ·exact row
  ·omega
 obtain ⟨ρ', o, u⟩ := h.setRow c (by omega) (by omega) v v' hv hL gr xs' row' (by rw [hk.2.2.2]; exact hby) hsame
 have hb' : ρ' b = .none := (u.role b X.lt).trans hb
 refine ⟨ρ', cs.set c v', ?_, (X.same (same w' gr)).set c v', u.role, fun k hk hne hn => ?_, fun n hn hnb => (u.mono hn).store _ _ _ hnb⟩
 ·rw [hs]
  exact o.aside b c v' hb'
 ·rw [Below.heap_setCell _ _ _ _ hne]
  exact u.keep k hk (.inr (.inl hn))
theorem OwnS.atPly {ρ : Nat → Role} {L B : Nat} {w : World} {cs : List Value} {ds : List D} (h : OwnS ρ L B w cs ds) (b : Nat) (X : Bx w b 30 cs) (hb : ρ b = .none) (p i : Nat) (hi : i < 3) (hp : p < (dxs ds 0).length) (z q : Int) (hl : listT ds z q = dxs (dxs ds 0)[p] (11 + i)) (hs : ∀ l, setT ds z q l = ds.set 0 (.sl ((dxs ds 0).set p ((dxs ds 0)[p].set (11 + i) (.sl l))))) : ∃ g m c v, cs[0]? = some (.slice (some ⟨g, 0, none⟩) m c) ∧ m = (dxs ds 0).length ∧ AtL ρ L B w b cs ds z q g (p * 14 + (11 + i)) v := by
 obtain ⟨g, m, c, v, hv0, hm, hg, hgl, hB, hcell, hfz, ov, _⟩ := h.setPly (w' := w) (L' := L) p i hi hp
 have hvg : v.ownBlock ≠ some g := fun e => by have := ov.role g e; rw [hg] at this; cases this
 have hgb : g ≠ b := fun e => by rw [e, hb] at hg; cases hg
 refine ⟨g, m, c, v, hv0, hm, hcell, (fun k hk _ e => by rw [e, hg] at hk; cases hk), (fun k hk e => by have := ov.role k e; rw [hk] at this; cases this), ⟨_, by rw [hl]; exact ov⟩, fun w' gr => ?_, fun w' L' v' xs' hL gr row hby hsame => ?_⟩
 ·have e := gr.block g hgl (fun e => hvg e.symm)
  exact ⟨(World.cell?_of_block (a := ⟨_, _, none⟩) e).trans hcell, (frozen_of_block e).trans hfz⟩
 ·obtain ⟨g', m', c', v2, hv0', _, _, _, _, hcell', _, _, H⟩ := h.setPly (w' := w') (L' := L') p i hi hp
  rw [hv0] at hv0'
  simp only [Option.some.injEq, Value.slice.injEq, Addr.mk.injEq, and_true] at hv0'
  obtain ⟨rfl, rfl, rfl⟩ := hv0'
  rw [hcell] at hcell'
  obtain rfl := Option.some.inj hcell'
  obtain ⟨ρ', o, u⟩ := H v' xs' hL gr row hby hsame
  have hvb : v.ownBlock ≠ some b := fun e => by have := ov.role b e; rw [hb] at this; cases this
  refine ⟨ρ', cs, by rw [hs]; exact o, (X.same (gr.block b X.lt (fun e => hvb e.symm))).other _ _ hgb, u.role, fun k hk _ hn => u.keep k hk (.inr (.inl hn)), fun n hn _ => u.mono hn⟩
theorem OwnS.at_list {ρ : Nat → Role} {L B : Nat} {w : World} {cs : List Value} {ds : List D} (h : OwnS ρ L B w cs ds) (b : Nat) (X : Bx w b 30 cs) (hb : ρ b = .none) (z p : Int) : ∃ ao n c, cs[0]? = some (.slice ao n c) ∧ (0 < n → ∃ g o, ao = some ⟨g, o, none⟩) ∧ n = (dxs ds 0).length ∧
  ((listPtr b ao n z p = none ∧ listT ds z p = [] ∧ ∀ l, setT ds z p l = ds) ∨ ∃ ab oo v, listPtr b ao n z p = some ⟨ab, oo, none⟩ ∧ AtL ρ L B w b cs ds z p ab oo v) := by
 obtain ⟨v0, hv0, hd0, pl⟩ := h.ply
 obtain ⟨ao, c, hva, hn⟩ : ∃ ao c, v0 = .slice ao (dxs ds 0).length c ∧ (0 < (dxs ds 0).length → ∃ g o, ao = some ⟨g, o, none⟩) := by
  obtain ⟨es, o1, o2, _⟩ := pl.row
  rcases o1.2 with ⟨rfl, h0⟩ | ⟨g, cap, cur, rfl, _⟩
  ·rw [o2] at h0
   exact ⟨none, 0, by rw [h0], fun h => by omega⟩
  ·rw [o2]
   exact ⟨_, _, rfl, fun _ => ⟨_, _, rfl⟩⟩
 rw [hva] at hv0
 refine ⟨ao, _, c, hv0, hn, rfl, ?_⟩
 cases h0 : z == 0
 ·cases h4 : z == 4
  ·by_cases hp : p < 0 ∨ ((dxs ds 0).length : Int) ≤ p
   ·exact .inl ⟨by unfold listPtr; simp [h0, h4, hp], by unfold listT; simp [h0, h4, hp], fun l => by unfold setT; simp [h0, h4, hp]⟩
   ·have hp2 : p.toNat < (dxs ds 0).length := by omega
    have hgd : (dxs ds 0).getD p.toNat [] = (dxs ds 0)[p.toNat] := by rw [List.getD_eq_getElem?_getD, List.getElem?_eq_getElem hp2]; rfl
    have key : ∀ i, i < 3 → kof z = some (11 + i) → (∀ g o, listPtr b (some ⟨g, o, none⟩) (dxs ds 0).length z p = some ⟨g, o + p.toNat * 14 + (11 + i), none⟩) → ∃ ab oo v, listPtr b ao (dxs ds 0).length z p = some ⟨ab, oo, none⟩ ∧ AtL ρ L B w b cs ds z p ab oo v := fun i hi hk hptr => by
     obtain ⟨g, m, c', v, hv0', hm, A⟩ := h.atPly b X hb p.toNat i hi hp2 z p (by unfold listT; simp only [h0, h4, hp, hk, hgd]; simp) (fun l => by unfold setT; simp only [h0, h4, hp, hk, hgd]; simp)
     rw [hv0] at hv0'
     simp only [Option.some.injEq, Value.slice.injEq] at hv0'
     obtain ⟨rfl, _, _⟩ := hv0'
     exact ⟨g, _, v, by rw [hptr]; simp, A⟩
    cases h1 : z == 1
    ·cases h2 : z == 2
     ·cases h3 : z == 3
      ·left
       refine ⟨?_, by unfold listT kof; simp [h0, h4, h1, h2, h3], fun l => by unfold setT kof; simp [h0, h4, h1, h2, h3]⟩
       obtain ⟨g, o, rfl⟩ := hn (by omega)
       unfold listPtr; simp [h0, h4, hp, h1, h2, h3]
      ·exact .inr (key 2 (by omega) (by unfold kof; simp [h1, h2, h3]) (fun g o => by unfold listPtr; simp [h0, h4, hp, h1, h2, h3]))
     ·exact .inr (key 0 (by omega) (by unfold kof; simp [h1, h2]) (fun g o => by unfold listPtr; simp [h0, h4, hp, h1, h2]))
    ·exact .inr (key 1 (by omega) (by unfold kof; simp [h1]) (fun g o => by unfold listPtr; simp [h0, h4, hp, h1]))
  ·obtain ⟨v, A⟩ := h.atBox b X hb 3 (by omega) (by omega) z p (by unfold listT; simp [h0, h4]) (fun l => by unfold setT; simp [h0, h4])
   exact .inr ⟨b, 3, v, by unfold listPtr; simp [h0, h4], A⟩
 ·obtain ⟨v, A⟩ := h.atBox b X hb 2 (by omega) (by omega) z p (by unfold listT; simp [h0]) (fun l => by unfold setT; simp [h0])
  exact .inr ⟨b, 2, v, by unfold listPtr; simp [h0], A⟩
end Go.Proofs.Ytiebjkbofoppaaa
end
