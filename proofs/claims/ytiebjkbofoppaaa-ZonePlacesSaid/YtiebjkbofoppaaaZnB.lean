/- Chapter 25: place, Find (both). -/
import Derived.Test.YtiebjkbofoppaaaZnA
import Derived.Shelf.Abstract
namespace Go.Proofs.Ytiebjkbofoppaaa
open Go Go.RowKit Go.Sort Cg
theorem box_cs (w : World) (cs : List Value) (t : TypeId) : Below w.heap.size w (w.alloc (.cells cs.toArray t)) ∧ ∀ (i : Nat) u, cs[i]? = some u → (w.alloc (.cells cs.toArray t)).cell? ⟨w.heap.size, i, none⟩ = some u :=
  ⟨(Below.refl w.heap.size w).alloc (Nat.le_refl _) _, fun i u hu => by
    rw [cell_of_row _ _ i _ _ _ (heap_alloc_new w _), List.getElem?_toArray]
    exact hu⟩
set_option maxHeartbeats 1000000 in
theorem place1 (cs : List Value) (z id : Int) (bi : Nat) (w : World) (h0 : cs[0]? = some (.int .i64 z)) (hi : w.cell? ⟨bi, 0, none⟩ = some (.int .i64 id)) :
    Calls Try.prog 74 #[.agg cs.toArray, .pointer (some ⟨bi, 0, none⟩)] w fun e w' => e = .returned (.bool (z == id)) ∧ Below w.heap.size w w' := by
  obtain ⟨bx, hc⟩ := box_cs w cs 47
  have c0 := hc 0 _ h0
  have ci := (bx.cell (p := ⟨bi, 0, none⟩) (block_lt_of_cell hi)).trans hi
  have BX := Lib.hid bx
  clear hc bx hi h0
  go_enter Try.func74, Try.ntmps74
  go_wp2_with fail
  go_ret
  exact ⟨rfl, BX.out⟩
/-- A struct in memory, loaded whole. -/
theorem load_cs (w : World) (b o : Nat) (t : TypeId) (vs : List Value) (d : TypeDesc) (hu : Try.prog.underlying t = some d) (hd : d.isRow = true) (hi : (Try.prog.info? t).map (·.size) = some vs.length) (hc : ∀ (i : Nat) u, vs[i]? = some u → w.cell? ⟨b, o + i, none⟩ = some u) :
    (Instr.loadAt t (.pointer (some ⟨b, o, none⟩))).run Try.prog w = .ok (.agg vs.toArray) w := run_loadAt_mid w b o t vs d hc hu hd hi
theorem infoObject : (Try.prog.info? 47).map (·.size) = some 19 := by kernel_rfl
def obId (o : List D) : Int := dint o 0
set_option maxHeartbeats 4000000 in
theorem idx_objects (F : Nat → Prop) (L : Nat) (v : Value) (xs : List (List D)) (id : Int) (bi : Nat) (w : World) (h : RdC F L w (.sl kObject 128) v (.sl xs)) (hn : xs.length ≤ 1000000) (hi : w.cell? ⟨bi, 0, none⟩ = some (.int .i64 id)) :
    Calls Try.prog 66 #[v, .func (.func 74) #[] #[.pointer (some ⟨bi, 0, none⟩)]] w fun e w' => e = .returned (.int .i64 (fidx (fun o => obId o == id) xs)) ∧ Below w.heap.size w w' := by
  have eg : ∀ args w, (callFunc 74 args).run Try.prog w = .ok (.enter 74 args) w := enters_of Try.func74 (by kernel_rfl) rfl
  obtain ⟨ao, cap, rfl, _, _, _, hx⟩ := h.form
  have HX := Lib.hid hx
  have HI := Lib.hid hi
  clear hx hi h
  go_enter Try.func66, Try.ntmps66
  go_wp2_with fail
  go_loopw [8] (fun i wr => ∃ k : Nat, k ≤ xs.length ∧ i = .int .i64 k ∧ Hid (∀ j (h : j < xs.length), j < k → (obId xs[j] == id) = false) ∧ Below w.heap.size w wr) (fun i _ => xs.length - (intOf i).toNat)
  case atStart => exact ⟨0, by omega, rfl, Lib.hid fun j hj _ => by omega, Below.refl _ _⟩
  case round =>
    obtain ⟨k, hk, rfl, HK, bw⟩ := hrel
    have BW := Lib.hid bw
    clear bw
    by_cases hlt : k < xs.length
    · rcases HX.out with hh | ⟨b, o, rfl, hF, hb, hE⟩
      · rw [hh] at hlt; simp at hlt
      obtain ⟨vs, hvs, hrd⟩ := (hE.frame (Nat.le_refl _) BW.out.size (fun b _ hlt => BW.out.block b hlt) (fun _ h _ => h) hF hb).get k _ (List.getElem?_eq_getElem hlt)
      rw [kObject_len] at hvs
      have hl := hrd.len.1
      rw [kObject_len] at hl
      have HIN := Lib.hid (show (Try.prog.info? 47).map (·.size) = some vs.length by rw [infoObject, hl])
      have HVS := Lib.hid (show wr.rangeAt b (o + k * 19) vs from hvs)
      have ci := (BW.out.cell (p := ⟨bi, 0, none⟩) (block_lt_of_cell HI.out)).trans HI.out
      have HP := Lib.hid (place1 vs (obId xs[k]) id bi wr (hrd.int 0 rfl).1 ci)
      obtain ⟨pb, hpb⟩ : ∃ pb, pb = (obId xs[k] == id) := ⟨_, rfl⟩
      rw [← hpb] at HP
      have HPB := Lib.hid hpb
      clear hE hvs hrd hl ci hpb
      cases pb
      · go_wp2_with (first | (with_reducible refine wpList_load_mid rfl 47 (.tmp 14) rfl b (o + k * 19) ?_ vs _ HVS.out Try.underlying47 rfl HIN.out ?_; simp [Act.eval]) | (go_at_fn 74; refine HP.out.mono ?_; rintro e w' ⟨rfl, b2⟩))
        go_round
        case rel => exact ⟨k + 1, by omega, by go_num, Lib.hid fun j hj hjk => (by
          by_cases e : j = k
          · subst e; exact HPB.out.symm
          · exact HK.out j hj (by omega)), BW.out.trans (b2.mono BW.out.size)⟩
        case measure => simp [intOf]; omega
      · have HE := Lib.hid (show fidx (fun o => obId o == id) xs = k from fidx_hit _ xs k hlt HPB.out.symm HK.out)
        go_wp2_with (first | (with_reducible refine wpList_load_mid rfl 47 (.tmp 14) rfl b (o + k * 19) ?_ vs _ HVS.out Try.underlying47 rfl HIN.out ?_; simp [Act.eval]) | (go_at_fn 74; refine HP.out.mono ?_; rintro e w' ⟨rfl, b2⟩))
        go_ret
        exact ⟨by rw [HE.out] <;> rfl, BW.out.trans (b2.mono BW.out.size)⟩
    · obtain rfl : k = xs.length := by omega
      have HE := Lib.hid (show fidx (fun o => obId o == id) xs = -1 from fidx_miss _ xs (fun j hj => HK.out j hj hj))
      go_wp2_with fail
      go_ret
      exact ⟨by rw [HE.out] <;> rfl, BW.out⟩
end Go.Proofs.Ytiebjkbofoppaaa
