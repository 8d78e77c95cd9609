/- Chapter 25: copyPlayer. -/
import Derived.Test.YtiebjkbofoppaaaZnD
namespace Go.Proofs.Ytiebjkbofoppaaa
open Go Go.RowKit Go.Sort Cg
set_option maxRecDepth 100000 in
set_option maxHeartbeats 2000000 in
theorem copyPlayer (F : Nat → Prop) (L : Nat) (cs : List Value) (ds : List D) (w : World) (h : RdL F L w kPlayer cs ds) (hL : L ≤ 140737488355328) :
    Calls Try.prog 52 #[.agg cs.toArray] w fun e w' => ∃ cs', e = .returned (.agg cs'.toArray) ∧ ∃ v1 v2 v3, cs' = ((cs.set 11 v1).set 12 v2).set 13 v3 ∧ OwnP w.heap.size w' v1 v2 v3 ds ∧ Below w.heap.size w w' := by
  have hl := h.len.1
  rw [kPlayer_len] at hl
  have HOC := Lib.hid h.one
  obtain ⟨u1, h1, _, r1⟩ := h.sl 11 _ _ rfl
  obtain ⟨u2, h2, _, r2⟩ := h.sl 12 _ _ rfl
  obtain ⟨u3, h3, _, r3⟩ := h.sl 13 _ _ rfl
  have e1 : cs[11] = u1 := (List.getElem?_eq_some_iff.1 h1).2
  obtain ⟨zs, hzs⟩ : ∃ zs : List Value, zs = [.int .i64 0, .int .i64 0, .int .i64 0, .int .i64 0, .int .i64 0, .int .i64 0, .int .i64 0, .int .i64 0, .int .i64 0, .bool false, .bool false, .slice none 0 0, .slice none 0 0, .slice none 0 0] := ⟨_, rfl⟩
  obtain ⟨W0, hW0⟩ : ∃ W, W = (w.alloc (.cells cs.toArray 59)).alloc (.cells zs.toArray 59) := ⟨_, rfl⟩
  have hsz : (w.alloc (.cells cs.toArray 59)).heap.size = w.heap.size + 1 := by simp
  have Y0 := Lib.hid (show Bx W0 w.heap.size 59 cs by rw [hW0]; exact (Bx.new _ _ _).old ((Below.refl _ _).alloc (Nat.le_refl _) _))
  have Z0 := Lib.hid (show Bx W0 (w.heap.size + 1) 59 zs by rw [hW0, ← hsz]; exact Bx.new _ _ _)
  have B0 := Lib.hid (show Below w.heap.size w W0 by rw [hW0]; exact ((Below.refl w.heap.size w).alloc (Nat.le_refl _) _).alloc (by rw [hsz]; omega) _)
  have S0 := Lib.hid (show w.heap.size + 2 ≤ W0.heap.size by rw [hW0]; simp)
  have HW0 := Lib.hid (show W0 = _ by rw [hW0, hzs])
  have R1 := Lib.hid r1
  have R2 := Lib.hid r2
  have R3 := Lib.hid r3
  have H1 := Lib.hid h1
  have H2 := Lib.hid h2
  have H3 := Lib.hid h3
  have HZ := Lib.hid (show zs.length = 14 by rw [hzs]; rfl)
  clear r1 r2 r3 hzs hW0 hsz h h1 h2 h3
  go_enter Try.func52, Try.ntmps52
  go_wp2_with fail
  rw [← HW0.out]
  refine (clone_own F L u1 _ W0 (R1.out.old B0.out) hL).mono ?_
  rintro e w1 ⟨v1, rfl, o1, b1⟩
  obtain ⟨p1, n1, k1, rfl⟩ := o1.form
  have X1 := Lib.hid (Y0.out.old b1)
  have c11 := X1.out.cell 11 u1 H1.out
  have c12 := X1.out.cell 12 u2 H2.out
  have f11 := X1.out.frozen 11
  obtain ⟨W1, hW1, y1, sz1, sm1, bl1⟩ := box_store X1.out 11 (.slice p1 n1 k1)
  have Y1 := Lib.hid y1
  have Z1 := Lib.hid ((Z0.out.old b1).same (sm1 _ (by omega)))
  have B1 := Lib.hid (bl1 _ w (Nat.le_refl _) (B0.out.trans (b1.mono B0.out.size)))
  have S1 := Lib.hid (show w.heap.size + 2 ≤ W1.heap.size by rw [sz1]; exact Nat.le_trans S0.out b1.size)
  have O1 := Lib.hid (OwnI.same o1 (fun g hg => sm1 g (by have := (o1.lt g hg).1; have := S0.out; omega)))
  have O1 := Lib.hid (show OwnI (w.heap.size + 2) W1 (.slice p1 n1 k1) (dxs ds 11) from O1.out.low (by have := S0.out; omega))
  have HW1 := Lib.hid hW1
  clear o1 b1 hW1 y1 sz1 sm1 bl1 e1
  go_wp2_with fail
  rw [← HW1.out]
  refine (clone_own F L u2 _ W1 (R2.out.old B1.out) hL).mono ?_
  rintro e w2 ⟨v2, rfl, o2, b2⟩
  obtain ⟨p2, n2, k2, rfl⟩ := o2.form
  have X2 := Lib.hid (Y1.out.old b2)
  have c12 := X2.out.cell 12 u2 (by simp only [List.getElem?_set]; simp; exact H2.out)
  have c13 := X2.out.cell 13 u3 (by simp only [List.getElem?_set]; simp; exact H3.out)
  have f12 := X2.out.frozen 12
  obtain ⟨W2, hW2, y2, sz2, sm2, bl2⟩ := box_store X2.out 12 (.slice p2 n2 k2)
  have Y2 := Lib.hid y2
  have Z2 := Lib.hid ((Z1.out.old b2).same (sm2 _ (by omega)))
  have B2 := Lib.hid (bl2 _ w (Nat.le_refl _) (B1.out.trans (b2.mono B1.out.size)))
  have S2 := Lib.hid (show w.heap.size + 2 ≤ W2.heap.size by rw [sz2]; exact Nat.le_trans S1.out b2.size)
  have O2 := Lib.hid (OwnI.same o2 (fun g hg => sm2 g (by have := (o2.lt g hg).1; have := S1.out; omega)))
  have A12 := Lib.hid (Apart.of (w := W1) (O1.out.low (Nat.zero_le _)) o2)
  have O1 := Lib.hid (OwnI.same (O1.out.old b2) (fun g hg => sm2 g (by have := (O1.out.lt g hg).1; have := S0.out; omega)))
  have O2 := Lib.hid (show OwnI (w.heap.size + 2) W2 (.slice p2 n2 k2) (dxs ds 12) from O2.out.low (by have := S1.out; omega))
  have HW2 := Lib.hid hW2
  clear o2 b2 hW2 y2 sz2 sm2 bl2
  go_wp2_with fail
  rw [← HW2.out]
  refine (clone_own F L u3 _ W2 (R3.out.old B2.out) hL).mono ?_
  rintro e w3 ⟨v3, rfl, o3, b3⟩
  obtain ⟨p3, n3, k3, rfl⟩ := o3.form
  have X3 := Lib.hid (Y2.out.old b3)
  have c13 := X3.out.cell 13 u3 (by simp only [List.getElem?_set]; simp; exact H3.out)
  have f13 := X3.out.frozen 13
  obtain ⟨W3, hW3, y3, sz3, sm3, bl3⟩ := box_store X3.out 13 (.slice p3 n3 k3)
  have Y3 := Lib.hid y3
  have Z3 := Lib.hid ((Z2.out.old b3).same (sm3 _ (by omega)))
  have B3 := Lib.hid (bl3 _ w (Nat.le_refl _) (B2.out.trans (b3.mono B2.out.size)))
  have S3 := Lib.hid (show w.heap.size + 2 ≤ W3.heap.size by rw [sz3]; exact Nat.le_trans S2.out b3.size)
  have O3 := Lib.hid (OwnI.same o3 (fun g hg => sm3 g (by have := (o3.lt g hg).1; have := S2.out; omega)))
  have A13 := Lib.hid (Apart.of (w := W2) (O1.out.low (Nat.zero_le _)) o3)
  have O1 := Lib.hid (OwnI.same (O1.out.old b3) (fun g hg => sm3 g (by have := (O1.out.lt g hg).1; have := S0.out; omega)))
  have A23 := Lib.hid (Apart.of (w := W2) (O2.out.low (Nat.zero_le _)) o3)
  have O2 := Lib.hid (OwnI.same (O2.out.old b3) (fun g hg => sm3 g (by have := (O2.out.lt g hg).1; have := S0.out; omega)))
  have O3 := Lib.hid (show OwnI (w.heap.size + 2) W3 (.slice p3 n3 k3) (dxs ds 13) from O3.out.low (by have := S2.out; omega))
  have HW3 := Lib.hid hW3
  obtain ⟨cs3, hcs3⟩ : ∃ l, l = (((cs.set 11 (.slice p1 n1 k1)).set 12 (.slice p2 n2 k2)).set 13 (.slice p3 n3 k3)) := ⟨_, rfl⟩
  have hl3 : cs3.length = 14 := by rw [hcs3]; simp only [List.length_set]; exact hl
  rw [← hcs3] at Y3
  have RG := Lib.hid (show W3.rangeAt w.heap.size 0 cs3 from Y3.out.range)
  have HI := Lib.hid (show (Try.prog.info? 59).map (·.size) = some cs3.length by rw [infoPlayer, hl3])
  have OC := Lib.hid (show ∀ u ∈ cs3, u.oneCell' = true from fun u hu => by
    rw [hcs3] at hu
    rcases List.mem_or_eq_of_mem_set hu with hu | rfl
    · rcases List.mem_or_eq_of_mem_set hu with hu | rfl
      · rcases List.mem_or_eq_of_mem_set hu with hu | rfl
        · exact HOC.out u hu
        · rfl
      · rfl
    · rfl)
  have hst := store_cs W3 (w.heap.size + 1) cs3 (by
    have e : cs3.length = zs.length := by rw [hl3, HZ.out]
    rw [e]
    exact Z3.out.there) OC.out
  have HC3 := Lib.hid hcs3
  have Z4 := Lib.hid (Z3.out.setAll cs3 (by rw [hl3, HZ.out]))
  clear o3 b3 hW3 y3 sz3 sm3 bl3 hcs3
  rw [HW3.out] at RG hst
  go_wp2_with (first
    | (with_reducible refine wpList_load_mid rfl 59 (.tmp 1) rfl w.heap.size 0 ?_ cs3 _ RG.out Try.underlying59 rfl HI.out ?_; simp [Act.eval]))
  rw [← HW3.out]
  have bl4 : Below w.heap.size w (W3.setCells (w.heap.size + 1) 0 cs3) := below_sets _ _ _ B3.out _ (by omega)
  have ot : ∀ (k : Nat), k ≠ w.heap.size + 1 → (W3.setCells (w.heap.size + 1) 0 cs3).heap[k]? = W3.heap[k]? := fun k hk => heap_sets _ _ _ _ k hk
  refine bodyPost_ret (results_cs Try.results52 (w.heap.size + 1) ?_ cs3 _ (Bx.range Z4.out) Try.underlying59 rfl HI.out) rfl ?_
  · rfl
  · exact ⟨cs3, rfl, _, _, _, HC3.out, ⟨(OwnI.same O1.out (fun g hg => ot g (by have := (O1.out.lt g hg).1; omega))).low (by omega), (OwnI.same O2.out (fun g hg => ot g (by have := (O2.out.lt g hg).1; omega))).low (by omega), (OwnI.same O3.out (fun g hg => ot g (by have := (O3.out.lt g hg).1; omega))).low (by omega), A12.out, A13.out, A23.out⟩, bl4⟩
end Go.Proofs.Ytiebjkbofoppaaa
