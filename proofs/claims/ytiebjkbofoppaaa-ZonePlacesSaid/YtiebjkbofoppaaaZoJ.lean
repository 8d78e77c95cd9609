/- Chapter 25: law ZonePlaces. -/
import Derived.Test.YtiebjkbofoppaaaZoI
namespace Go.Proofs.Ytiebjkbofoppaaa
open Go Go.RowKit Go.Sort Cg
set_option maxRecDepth 100000 in
set_option maxHeartbeats 8000000 in
theorem law_places (F : Nat → Prop) (L : Nat) (cs : List Value) (ds : List D) (id : Int) (w : World) (h : RdL F L w kState cs ds) (hL : L ≤ 140737488355328) :
    Calls Try.prog 3 #[.agg cs.toArray, .int .i64 id] w fun e w' => e = .returned (.bool true) ∧ Below w.heap.size w w' := by
  have hl := h.len.1
  rw [kState_len] at hl
  obtain ⟨W0, hW0⟩ : ∃ W, W = w.alloc (.cells cs.toArray 30) := ⟨_, rfl⟩
  have bx : Bx W0 w.heap.size 30 cs := by rw [hW0]; exact Bx.new _ _ _
  have b0 : Below w.heap.size w W0 := by rw [hW0]; exact (Below.refl w.heap.size w).alloc (Nat.le_refl _) _
  have rg := bx.range
  rw [hW0] at rg
  have RG0 := Lib.hid rg
  have HI := Lib.hid (show (Try.prog.info? 30).map (·.size) = some cs.length by rw [infoState, hl])
  have HF := Lib.hid (fair_prog F L cs ds W0 (h.old b0) hL)
  have R0 := Lib.hid (h.old b0)
  have B0 := Lib.hid b0
  have BX := Lib.hid bx
  have HW0 := Lib.hid hW0
  clear hl bx b0 rg hW0 h
  cases hf : decide (fairP ds)
  · rw [hf] at HF
    clear hf
    go_enter Try.func3, Try.ntmps3
    go_wp2_with ((with_reducible refine wpList_load_mid rfl 30 (.tmp 2) rfl w.heap.size 0 ?_ cs _ RG0.out Try.underlying30 rfl HI.out ?_); rfl)
    rw [← HW0.out]
    refine HF.out.mono ?_
    rintro e w1 ⟨rfl, b1⟩
    have B1 := Lib.hid (B0.out.trans (b1.mono B0.out.size))
    have bb1 := b1
    have BB1 := Lib.hid bb1
    clear b1 bb1
    go_wp2_with fail
    refine (alive_prog w1).mono ?_
    rintro e w2 ⟨rfl, b2⟩
    have B2 := Lib.hid (B1.out.trans (b2.mono B1.out.size))
    clear b2
    go_wp2_with fail
    go_ret
    exact ⟨rfl, B2.out⟩
  · rw [hf] at HF
    clear hf
    go_enter Try.func3, Try.ntmps3
    go_wp2_with ((with_reducible refine wpList_load_mid rfl 30 (.tmp 2) rfl w.heap.size 0 ?_ cs _ RG0.out Try.underlying30 rfl HI.out ?_); rfl)
    rw [← HW0.out]
    refine HF.out.mono ?_
    rintro e w1 ⟨rfl, b1⟩
    have B1 := Lib.hid (B0.out.trans (b1.mono B0.out.size))
    have bb1 := b1
    have BB1 := Lib.hid bb1
    clear b1 bb1
    have RG1 := Lib.hid (BX.out.old BB1.out).range
    go_wp2_with ((with_reducible refine wpList_load_mid rfl 30 (.tmp 2) rfl w.heap.size 0 ?_ cs _ RG1.out Try.underlying30 rfl HI.out ?_); rfl)
    refine (where_prog F L cs ds id w1 (R0.out.old BB1.out) hL).mono ?_
    rintro e w2 ⟨rfl, b2⟩
    have BB2 := Lib.hid (BB1.out.trans (b2.mono BB1.out.size))
    clear b2
    have RG2 := Lib.hid (BX.out.old BB2.out).range
    go_wp2_with ((with_reducible refine wpList_load_mid rfl 30 (.tmp 2) rfl w.heap.size 0 ?_ cs _ RG2.out Try.underlying30 rfl HI.out ?_); rfl)
    refine (where_ref F L cs ds id w2 (R0.out.old BB2.out) hL).mono ?_
    rintro e w3 ⟨rfl, b3⟩
    have BB3 := Lib.hid (BB2.out.trans (b3.mono BB2.out.size))
    clear b3
    go_wp2_with fail
    refine (alive_prog w3).mono ?_
    rintro e w4 ⟨rfl, b4⟩
    have BB4 := Lib.hid (BB3.out.trans (b4.mono BB3.out.size))
    clear b4
    go_wp2_with fail
    go_ret
    exact ⟨rfl, B0.out.trans (BB4.out.mono B0.out.size)⟩
end Go.Proofs.Ytiebjkbofoppaaa
