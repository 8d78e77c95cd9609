/- Chapter 25: closures; slices.IndexFunc at them; slices.Index at ints. -/
import Derived.Test.YtiebjkbofoppaaaZnQ
namespace Go.Proofs.Ytiebjkbofoppaaa
open Go Go.RowKit Go.Sort Cg
set_option maxHeartbeats 1000000 in
theorem put1 (cs : List Value) (z id : Int) (bi : Nat) (w : World) (h0 : cs[0]? = some (.int .i64 z)) (hi : w.cell? ⟨bi, 0, none⟩ = some (.int .i64 id)) :
    Calls Try.prog 67 #[.agg cs.toArray, .pointer (some ⟨bi, 0, none⟩)] w fun e w' => e = .returned (.bool (decide (id < z))) ∧ Below w.heap.size w w' := by
  obtain ⟨bx, hc⟩ := box_cs w cs 47
  have c0 := hc 0 _ h0
  have ci := (bx.cell (p := ⟨bi, 0, none⟩) (block_lt_of_cell hi)).trans hi
  have BX := Lib.hid bx
  clear hc bx hi h0
  go_enter Try.func67, Try.ntmps67
  go_wp2_with fail
  go_ret
  exact ⟨rfl, BX.out⟩
set_option maxHeartbeats 1000000 in
theorem where1 (cs : List Value) (z kd id : Int) (bi : Nat) (w : World) (h0 : cs[0]? = some (.int .i64 z)) (h1 : cs[1]? = some (.int .i64 kd)) (hi : w.cell? ⟨bi, 0, none⟩ = some (.int .i64 id)) :
    Calls Try.prog 32 #[.agg cs.toArray, .pointer (some ⟨bi, 0, none⟩)] w fun e w' => e = .returned (.bool (z == id && kd == 1)) ∧ Below w.heap.size w w' := by
  obtain ⟨bx, hc⟩ := box_cs w cs 83
  have c0 := hc 0 _ h0
  have c1 := hc 1 _ h1
  have ci := (bx.cell (p := ⟨bi, 0, none⟩) (block_lt_of_cell hi)).trans hi
  have BX := Lib.hid bx
  clear hc bx hi h0 h1
  obtain ⟨b1, hb1⟩ : ∃ b, (z == id) = b := ⟨_, rfl⟩
  obtain ⟨b2, hb2⟩ : ∃ b, (kd == 1) = b := ⟨_, rfl⟩
  rw [hb1, hb2]
  cases b1 <;> cases b2 <;>
  · go_enter Try.func32, Try.ntmps32
    go_wp2_with fail
    go_ret
    exact ⟨rfl, BX.out⟩
set_option maxHeartbeats 1000000 in
theorem remove1 (cs : List Value) (z kd id : Int) (bi : Nat) (w : World) (h0 : cs[0]? = some (.int .i64 z)) (h1 : cs[1]? = some (.int .i64 kd)) (hi : w.cell? ⟨bi, 0, none⟩ = some (.int .i64 id)) :
    Calls Try.prog 65 #[.agg cs.toArray, .pointer (some ⟨bi, 0, none⟩)] w fun e w' => e = .returned (.bool (z == id && kd == 1)) ∧ Below w.heap.size w w' := by
  obtain ⟨bx, hc⟩ := box_cs w cs 83
  have c0 := hc 0 _ h0
  have c1 := hc 1 _ h1
  have ci := (bx.cell (p := ⟨bi, 0, none⟩) (block_lt_of_cell hi)).trans hi
  have BX := Lib.hid bx
  clear hc bx hi h0 h1
  obtain ⟨b1, hb1⟩ : ∃ b, (z == id) = b := ⟨_, rfl⟩
  obtain ⟨b2, hb2⟩ : ∃ b, (kd == 1) = b := ⟨_, rfl⟩
  rw [hb1, hb2]
  cases b1 <;> cases b2 <;>
  · go_enter Try.func65, Try.ntmps65
    go_wp2_with fail
    go_ret
    exact ⟨rfl, BX.out⟩
set_option maxHeartbeats 1000000 in
theorem without1 (z n : Int) (bi : Nat) (w : World) (hi : w.cell? ⟨bi, 0, none⟩ = some (.int .i64 n)) :
    Calls Try.prog 78 #[.int .i64 z, .pointer (some ⟨bi, 0, none⟩)] w fun e w' => e = .returned (.bool (z == n)) ∧ w' = w := by
  go_enter Try.func78, Try.ntmps78
  go_wp2_with fail
  go_ret
  exact ⟨rfl, rfl⟩
set_option maxHeartbeats 4000000 in
theorem idx_place (F : Nat → Prop) (L : Nat) (v : Value) (xs : List (List D)) (id : Int) (bi : Nat) (w : World) (h : RdC F L w (.sl kObject 128) v (.sl xs)) (hL : L ≤ 140737488355328) (hi : w.cell? ⟨bi, 0, none⟩ = some (.int .i64 id)) :
    Calls Try.prog 66 #[v, .func (.func 74) #[] #[.pointer (some ⟨bi, 0, none⟩)]] w fun e w' => e = .returned (.int .i64 (fidx (fun o => dint o 0 == id) xs)) ∧ Below w.heap.size w w' := by
  have eg : ∀ args w, (callFunc 74 args).run Try.prog w = .ok (.enter 74 args) w := enters_of Try.func74 (by kernel_rfl) rfl
  obtain ⟨p, hp⟩ : ∃ p : List D → Bool, p = (fun o => dint o 0 == id) := ⟨_, rfl⟩
  obtain ⟨ao, cap, rfl, _, hby, _, hx⟩ := h.form
  have hn : xs.length ≤ 1000000000000000 := by omega
  have HX := Lib.hid hx
  have HI := Lib.hid hi
  have HPP := Lib.hid hp
  rw [← hp]
  clear hx hi h hby hL hp
  go_enter Try.func66, Try.ntmps66
  go_wp2_with fail
  go_loopw [8] (fun i wr => ∃ k : Nat, k ≤ xs.length ∧ i = .int .i64 k ∧ Hid (∀ j (h : j < xs.length), j < k → p xs[j] = false) ∧ Below w.heap.size w wr) (fun i _ => xs.length - (intOf i).toNat)
  case atStart => exact ⟨0, by omega, rfl, Lib.hid fun j hj _ => by omega, Below.refl _ _⟩
  case round =>
    obtain ⟨k, hk, rfl, HK, bw⟩ := hrel
    have BW := Lib.hid bw
    clear bw
    by_cases hlt : k < xs.length
    · rcases HX.out with hh | ⟨b, o, rfl, hF, hb, hE⟩
      · rw [hh] at hlt; simp at hlt
      obtain ⟨vs, hvs, hrd⟩ := (hE.frame (Nat.le_refl _) BW.out.size (fun b _ hlt => BW.out.block b hlt) (fun _ h _ => h) hF hb).get k _ (List.getElem?_eq_getElem hlt)
      rw [kObject_len] at hvs
      have hl := hrd.len.1
      rw [kObject_len] at hl
      have HIN := Lib.hid (show (Try.prog.info? 47).map (·.size) = some vs.length by rw [infoObject, hl])
      have HVS := Lib.hid (show wr.rangeAt b (o + k * 19) vs from hvs)
      have ci := (BW.out.cell (p := ⟨bi, 0, none⟩) (block_lt_of_cell HI.out)).trans HI.out
      have HP0 := place1 vs (dint xs[k] 0) id bi wr (hrd.int 0 rfl).1 ci
      obtain ⟨pb, hpb⟩ : ∃ pb, pb = p xs[k] := ⟨_, rfl⟩
      have HP := Lib.hid (show Calls Try.prog 74 #[.agg vs.toArray, .pointer (some ⟨bi, 0, none⟩)] wr fun e w' => e = .returned (.bool pb) ∧ Below wr.heap.size wr w' by
        rw [hpb, HPP.out]
        exact HP0)
      have HPB := Lib.hid hpb
      clear hE hvs hrd hl ci hpb HP0
      cases pb
      · go_wp2_with (first | (with_reducible refine wpList_load_mid rfl 47 (.tmp 14) rfl b (o + k * 19) ?_ vs _ HVS.out Try.underlying47 rfl HIN.out ?_; simp [Act.eval]) | (go_at_fn 74; refine HP.out.mono ?_; rintro e w' ⟨rfl, b2⟩))
        go_round
        case rel => exact ⟨k + 1, by omega, by go_num, Lib.hid fun j hj hjk => (by
          by_cases e : j = k
          · subst e; exact HPB.out.symm
          · exact HK.out j hj (by omega)), BW.out.trans (b2.mono BW.out.size)⟩
        case measure => simp [intOf]; omega
      · have HE := Lib.hid (show fidx p xs = k from fidx_hit _ xs k hlt HPB.out.symm HK.out)
        go_wp2_with (first | (with_reducible refine wpList_load_mid rfl 47 (.tmp 14) rfl b (o + k * 19) ?_ vs _ HVS.out Try.underlying47 rfl HIN.out ?_; simp [Act.eval]) | (go_at_fn 74; refine HP.out.mono ?_; rintro e w' ⟨rfl, b2⟩))
        go_ret
        exact ⟨by rw [HE.out] <;> rfl, BW.out.trans (b2.mono BW.out.size)⟩
    · obtain rfl : k = xs.length := by omega
      have HE := Lib.hid (show fidx p xs = -1 from fidx_miss _ xs (fun j hj => HK.out j hj hj))
      go_wp2_with fail
      go_ret
      exact ⟨by rw [HE.out] <;> rfl, BW.out⟩
set_option maxHeartbeats 4000000 in
theorem idx_put (F : Nat → Prop) (L : Nat) (v : Value) (xs : List (List D)) (id : Int) (bi : Nat) (w : World) (h : RdC F L w (.sl kObject 128) v (.sl xs)) (hL : L ≤ 140737488355328) (hi : w.cell? ⟨bi, 0, none⟩ = some (.int .i64 id)) :
    Calls Try.prog 66 #[v, .func (.func 67) #[] #[.pointer (some ⟨bi, 0, none⟩)]] w fun e w' => e = .returned (.int .i64 (fidx (fun o => decide (id < dint o 0)) xs)) ∧ Below w.heap.size w w' := by
  have eg : ∀ args w, (callFunc 67 args).run Try.prog w = .ok (.enter 67 args) w := enters_of Try.func67 (by kernel_rfl) rfl
  obtain ⟨p, hp⟩ : ∃ p : List D → Bool, p = (fun o => decide (id < dint o 0)) := ⟨_, rfl⟩
  obtain ⟨ao, cap, rfl, _, hby, _, hx⟩ := h.form
  have hn : xs.length ≤ 1000000000000000 := by omega
  have HX := Lib.hid hx
  have HI := Lib.hid hi
  have HPP := Lib.hid hp
  rw [← hp]
  clear hx hi h hby hL hp
  go_enter Try.func66, Try.ntmps66
  go_wp2_with fail
  go_loopw [8] (fun i wr => ∃ k : Nat, k ≤ xs.length ∧ i = .int .i64 k ∧ Hid (∀ j (h : j < xs.length), j < k → p xs[j] = false) ∧ Below w.heap.size w wr) (fun i _ => xs.length - (intOf i).toNat)
  case atStart => exact ⟨0, by omega, rfl, Lib.hid fun j hj _ => by omega, Below.refl _ _⟩
  case round =>
    obtain ⟨k, hk, rfl, HK, bw⟩ := hrel
    have BW := Lib.hid bw
    clear bw
    by_cases hlt : k < xs.length
    · rcases HX.out with hh | ⟨b, o, rfl, hF, hb, hE⟩
      · rw [hh] at hlt; simp at hlt
      obtain ⟨vs, hvs, hrd⟩ := (hE.frame (Nat.le_refl _) BW.out.size (fun b _ hlt => BW.out.block b hlt) (fun _ h _ => h) hF hb).get k _ (List.getElem?_eq_getElem hlt)
      rw [kObject_len] at hvs
      have hl := hrd.len.1
      rw [kObject_len] at hl
      have HIN := Lib.hid (show (Try.prog.info? 47).map (·.size) = some vs.length by rw [infoObject, hl])
      have HVS := Lib.hid (show wr.rangeAt b (o + k * 19) vs from hvs)
      have ci := (BW.out.cell (p := ⟨bi, 0, none⟩) (block_lt_of_cell HI.out)).trans HI.out
      have HP0 := put1 vs (dint xs[k] 0) id bi wr (hrd.int 0 rfl).1 ci
      obtain ⟨pb, hpb⟩ : ∃ pb, pb = p xs[k] := ⟨_, rfl⟩
      have HP := Lib.hid (show Calls Try.prog 67 #[.agg vs.toArray, .pointer (some ⟨bi, 0, none⟩)] wr fun e w' => e = .returned (.bool pb) ∧ Below wr.heap.size wr w' by
        rw [hpb, HPP.out]
        exact HP0)
      have HPB := Lib.hid hpb
      clear hE hvs hrd hl ci hpb HP0
      cases pb
      · go_wp2_with (first | (with_reducible refine wpList_load_mid rfl 47 (.tmp 14) rfl b (o + k * 19) ?_ vs _ HVS.out Try.underlying47 rfl HIN.out ?_; simp [Act.eval]) | (go_at_fn 67; refine HP.out.mono ?_; rintro e w' ⟨rfl, b2⟩))
        go_round
        case rel => exact ⟨k + 1, by omega, by go_num, Lib.hid fun j hj hjk => (by
          by_cases e : j = k
          · subst e; exact HPB.out.symm
          · exact HK.out j hj (by omega)), BW.out.trans (b2.mono BW.out.size)⟩
        case measure => simp [intOf]; omega
      · have HE := Lib.hid (show fidx p xs = k from fidx_hit _ xs k hlt HPB.out.symm HK.out)
        go_wp2_with (first | (with_reducible refine wpList_load_mid rfl 47 (.tmp 14) rfl b (o + k * 19) ?_ vs _ HVS.out Try.underlying47 rfl HIN.out ?_; simp [Act.eval]) | (go_at_fn 67; refine HP.out.mono ?_; rintro e w' ⟨rfl, b2⟩))
        go_ret
        exact ⟨by rw [HE.out] <;> rfl, BW.out.trans (b2.mono BW.out.size)⟩
    · obtain rfl : k = xs.length := by omega
      have HE := Lib.hid (show fidx p xs = -1 from fidx_miss _ xs (fun j hj => HK.out j hj hj))
      go_wp2_with fail
      go_ret
      exact ⟨by rw [HE.out] <;> rfl, BW.out⟩
set_option maxHeartbeats 4000000 in
theorem idx_where (F : Nat → Prop) (L : Nat) (v : Value) (xs : List (List D)) (id : Int) (bi : Nat) (w : World) (h : RdC F L w (.sl kItem 824) v (.sl xs)) (hL : L ≤ 140737488355328) (hi : w.cell? ⟨bi, 0, none⟩ = some (.int .i64 id)) :
    Calls Try.prog 31 #[v, .func (.func 32) #[] #[.pointer (some ⟨bi, 0, none⟩)]] w fun e w' => e = .returned (.int .i64 (fidx (fun o => dint o 0 == id && dint o 1 == 1) xs)) ∧ Below w.heap.size w w' := by
  have eg : ∀ args w, (callFunc 32 args).run Try.prog w = .ok (.enter 32 args) w := enters_of Try.func32 (by kernel_rfl) rfl
  obtain ⟨p, hp⟩ : ∃ p : List D → Bool, p = (fun o => dint o 0 == id && dint o 1 == 1) := ⟨_, rfl⟩
  obtain ⟨ao, cap, rfl, _, hby, _, hx⟩ := h.form
  have hn : xs.length ≤ 1000000000000000 := by omega
  have HX := Lib.hid hx
  have HI := Lib.hid hi
  have HPP := Lib.hid hp
  rw [← hp]
  clear hx hi h hby hL hp
  go_enter Try.func31, Try.ntmps31
  go_wp2_with fail
  go_loopw [8] (fun i wr => ∃ k : Nat, k ≤ xs.length ∧ i = .int .i64 k ∧ Hid (∀ j (h : j < xs.length), j < k → p xs[j] = false) ∧ Below w.heap.size w wr) (fun i _ => xs.length - (intOf i).toNat)
  case atStart => exact ⟨0, by omega, rfl, Lib.hid fun j hj _ => by omega, Below.refl _ _⟩
  case round =>
    obtain ⟨k, hk, rfl, HK, bw⟩ := hrel
    have BW := Lib.hid bw
    clear bw
    by_cases hlt : k < xs.length
    · rcases HX.out with hh | ⟨b, o, rfl, hF, hb, hE⟩
      · rw [hh] at hlt; simp at hlt
      obtain ⟨vs, hvs, hrd⟩ := (hE.frame (Nat.le_refl _) BW.out.size (fun b _ hlt => BW.out.block b hlt) (fun _ h _ => h) hF hb).get k _ (List.getElem?_eq_getElem hlt)
      rw [kItem_len] at hvs
      have hl := hrd.len.1
      rw [kItem_len] at hl
      have HIN := Lib.hid (show (Try.prog.info? 83).map (·.size) = some vs.length by rw [infoItem, hl])
      have HVS := Lib.hid (show wr.rangeAt b (o + k * 94) vs from hvs)
      have ci := (BW.out.cell (p := ⟨bi, 0, none⟩) (block_lt_of_cell HI.out)).trans HI.out
      have HP0 := where1 vs (dint xs[k] 0) (dint xs[k] 1) id bi wr (hrd.int 0 rfl).1 (hrd.int 1 rfl).1 ci
      obtain ⟨pb, hpb⟩ : ∃ pb, pb = p xs[k] := ⟨_, rfl⟩
      have HP := Lib.hid (show Calls Try.prog 32 #[.agg vs.toArray, .pointer (some ⟨bi, 0, none⟩)] wr fun e w' => e = .returned (.bool pb) ∧ Below wr.heap.size wr w' by
        rw [hpb, HPP.out]
        exact HP0)
      have HPB := Lib.hid hpb
      clear hE hvs hrd hl ci hpb HP0
      cases pb
      · go_wp2_with (first | (with_reducible refine wpList_load_mid rfl 83 (.tmp 14) rfl b (o + k * 94) ?_ vs _ HVS.out Try.underlying83 rfl HIN.out ?_; simp [Act.eval]) | (go_at_fn 32; refine HP.out.mono ?_; rintro e w' ⟨rfl, b2⟩))
        go_round
        case rel => exact ⟨k + 1, by omega, by go_num, Lib.hid fun j hj hjk => (by
          by_cases e : j = k
          · subst e; exact HPB.out.symm
          · exact HK.out j hj (by omega)), BW.out.trans (b2.mono BW.out.size)⟩
        case measure => simp [intOf]; omega
      · have HE := Lib.hid (show fidx p xs = k from fidx_hit _ xs k hlt HPB.out.symm HK.out)
        go_wp2_with (first | (with_reducible refine wpList_load_mid rfl 83 (.tmp 14) rfl b (o + k * 94) ?_ vs _ HVS.out Try.underlying83 rfl HIN.out ?_; simp [Act.eval]) | (go_at_fn 32; refine HP.out.mono ?_; rintro e w' ⟨rfl, b2⟩))
        go_ret
        exact ⟨by rw [HE.out] <;> rfl, BW.out.trans (b2.mono BW.out.size)⟩
    · obtain rfl : k = xs.length := by omega
      have HE := Lib.hid (show fidx p xs = -1 from fidx_miss _ xs (fun j hj => HK.out j hj hj))
      go_wp2_with fail
      go_ret
      exact ⟨by rw [HE.out] <;> rfl, BW.out⟩
set_option maxHeartbeats 4000000 in
theorem idx_remove (F : Nat → Prop) (L : Nat) (v : Value) (xs : List (List D)) (id : Int) (bi : Nat) (w : World) (h : RdC F L w (.sl kItem 824) v (.sl xs)) (hL : L ≤ 140737488355328) (hi : w.cell? ⟨bi, 0, none⟩ = some (.int .i64 id)) :
    Calls Try.prog 31 #[v, .func (.func 65) #[] #[.pointer (some ⟨bi, 0, none⟩)]] w fun e w' => e = .returned (.int .i64 (fidx (fun o => dint o 0 == id && dint o 1 == 1) xs)) ∧ Below w.heap.size w w' := by
  have eg : ∀ args w, (callFunc 65 args).run Try.prog w = .ok (.enter 65 args) w := enters_of Try.func65 (by kernel_rfl) rfl
  obtain ⟨p, hp⟩ : ∃ p : List D → Bool, p = (fun o => dint o 0 == id && dint o 1 == 1) := ⟨_, rfl⟩
  obtain ⟨ao, cap, rfl, _, hby, _, hx⟩ := h.form
  have hn : xs.length ≤ 1000000000000000 := by omega
  have HX := Lib.hid hx
  have HI := Lib.hid hi
  have HPP := Lib.hid hp
  rw [← hp]
  clear hx hi h hby hL hp
  go_enter Try.func31, Try.ntmps31
  go_wp2_with fail
  go_loopw [8] (fun i wr => ∃ k : Nat, k ≤ xs.length ∧ i = .int .i64 k ∧ Hid (∀ j (h : j < xs.length), j < k → p xs[j] = false) ∧ Below w.heap.size w wr) (fun i _ => xs.length - (intOf i).toNat)
  case atStart => exact ⟨0, by omega, rfl, Lib.hid fun j hj _ => by omega, Below.refl _ _⟩
  case round =>
    obtain ⟨k, hk, rfl, HK, bw⟩ := hrel
    have BW := Lib.hid bw
    clear bw
    by_cases hlt : k < xs.length
    · rcases HX.out with hh | ⟨b, o, rfl, hF, hb, hE⟩
      · rw [hh] at hlt; simp at hlt
      obtain ⟨vs, hvs, hrd⟩ := (hE.frame (Nat.le_refl _) BW.out.size (fun b _ hlt => BW.out.block b hlt) (fun _ h _ => h) hF hb).get k _ (List.getElem?_eq_getElem hlt)
      rw [kItem_len] at hvs
      have hl := hrd.len.1
      rw [kItem_len] at hl
      have HIN := Lib.hid (show (Try.prog.info? 83).map (·.size) = some vs.length by rw [infoItem, hl])
      have HVS := Lib.hid (show wr.rangeAt b (o + k * 94) vs from hvs)
      have ci := (BW.out.cell (p := ⟨bi, 0, none⟩) (block_lt_of_cell HI.out)).trans HI.out
      have HP0 := remove1 vs (dint xs[k] 0) (dint xs[k] 1) id bi wr (hrd.int 0 rfl).1 (hrd.int 1 rfl).1 ci
      obtain ⟨pb, hpb⟩ : ∃ pb, pb = p xs[k] := ⟨_, rfl⟩
      have HP := Lib.hid (show Calls Try.prog 65 #[.agg vs.toArray, .pointer (some ⟨bi, 0, none⟩)] wr fun e w' => e = .returned (.bool pb) ∧ Below wr.heap.size wr w' by
        rw [hpb, HPP.out]
        exact HP0)
      have HPB := Lib.hid hpb
      clear hE hvs hrd hl ci hpb HP0
      cases pb
      · go_wp2_with (first | (with_reducible refine wpList_load_mid rfl 83 (.tmp 14) rfl b (o + k * 94) ?_ vs _ HVS.out Try.underlying83 rfl HIN.out ?_; simp [Act.eval]) | (go_at_fn 65; refine HP.out.mono ?_; rintro e w' ⟨rfl, b2⟩))
        go_round
        case rel => exact ⟨k + 1, by omega, by go_num, Lib.hid fun j hj hjk => (by
          by_cases e : j = k
          · subst e; exact HPB.out.symm
          · exact HK.out j hj (by omega)), BW.out.trans (b2.mono BW.out.size)⟩
        case measure => simp [intOf]; omega
      · have HE := Lib.hid (show fidx p xs = k from fidx_hit _ xs k hlt HPB.out.symm HK.out)
        go_wp2_with (first | (with_reducible refine wpList_load_mid rfl 83 (.tmp 14) rfl b (o + k * 94) ?_ vs _ HVS.out Try.underlying83 rfl HIN.out ?_; simp [Act.eval]) | (go_at_fn 65; refine HP.out.mono ?_; rintro e w' ⟨rfl, b2⟩))
        go_ret
        exact ⟨by rw [HE.out] <;> rfl, BW.out.trans (b2.mono BW.out.size)⟩
    · obtain rfl : k = xs.length := by omega
      have HE := Lib.hid (show fidx p xs = -1 from fidx_miss _ xs (fun j hj => HK.out j hj hj))
      go_wp2_with fail
      go_ret
      exact ⟨by rw [HE.out] <;> rfl, BW.out⟩
set_option maxHeartbeats 4000000 in
theorem idx_without (F : Nat → Prop) (L : Nat) (v : Value) (xs : List (List D)) (id : Int) (bi : Nat) (w : World) (h : RdC F L w (.sl (kI 1) 8) v (.sl xs)) (hL : L ≤ 140737488355328) (hi : w.cell? ⟨bi, 0, none⟩ = some (.int .i64 id)) :
    Calls Try.prog 83 #[v, .func (.func 78) #[] #[.pointer (some ⟨bi, 0, none⟩)]] w fun e w' => e = .returned (.int .i64 (fidx (fun x => dint x 0 == id) xs)) ∧ w' = w := by
  have eg : ∀ args w, (callFunc 78 args).run Try.prog w = .ok (.enter 78 args) w := enters_of Try.func78 (by kernel_rfl) rfl
  obtain ⟨p, hp⟩ : ∃ p : List D → Bool, p = fun x => dint x 0 == id := ⟨_, rfl⟩
  obtain ⟨ao, cap, rfl, _, hby, _, hx⟩ := h.form
  have hn : xs.length ≤ 1000000000000000000 := by omega
  have HX := Lib.hid hx
  have HPP := Lib.hid hp
  rw [← hp]
  clear hx h hby hL hp
  go_enter Try.func83, Try.ntmps83
  go_wp2_with fail
  go_loopw [8] (fun i wr => ∃ k : Nat, k ≤ xs.length ∧ i = .int .i64 k ∧ Hid (∀ j (h : j < xs.length), j < k → p xs[j] = false) ∧ wr = w) (fun i _ => xs.length - (intOf i).toNat)
  case atStart => exact ⟨0, by omega, rfl, Lib.hid fun j hj _ => by omega, rfl⟩
  case round =>
    obtain ⟨k, hk, rfl, HK, rfl⟩ := hrel
    by_cases hlt : k < xs.length
    · rcases HX.out with hh | ⟨b, o, rfl, hF, hb, hE⟩
      · rw [hh] at hlt; simp at hlt
      obtain ⟨vs, hvs, hrd⟩ := hE.get k _ (List.getElem?_eq_getElem hlt)
      have c0 := hvs 0 _ (hrd.int 0 rfl).1
      rw [show (kI 1).length = 1 from rfl, Nat.mul_one, Nat.add_zero] at c0
      obtain ⟨pb, hpb⟩ : ∃ pb, pb = p xs[k] := ⟨_, rfl⟩
      have HP0 := without1 (dint xs[k] 0) id bi wr hi
      have HP := Lib.hid (show Calls Try.prog 78 #[.int .i64 (dint xs[k] 0), .pointer (some ⟨bi, 0, none⟩)] wr fun e w' => e = .returned (.bool pb) ∧ w' = wr by
        rw [hpb, HPP.out]
        exact HP0)
      clear HP0
      have HPB := Lib.hid hpb
      clear hE hvs hrd hpb
      cases pb
      · go_wp2_with (go_at_fn 78; refine HP.out.mono ?_; rintro e w' ⟨rfl, rfl⟩)
        go_round
        case rel => exact ⟨k + 1, by omega, by go_num, Lib.hid fun j hj hjk => (by
          by_cases e : j = k
          · subst e; exact HPB.out.symm
          · exact HK.out j hj (by omega)), trivial⟩
        case measure => simp [intOf]; omega
      · have HE := Lib.hid (show fidx p xs = k from fidx_hit _ xs k hlt HPB.out.symm HK.out)
        go_wp2_with (go_at_fn 78; refine HP.out.mono ?_; rintro e w' ⟨rfl, rfl⟩)
        go_ret
        exact ⟨by rw [HE.out] <;> rfl, rfl⟩
    · obtain rfl : k = xs.length := by omega
      have HE := Lib.hid (show fidx p xs = -1 from fidx_miss _ xs (fun j hj => HK.out j hj hj))
      go_wp2_with fail
      go_ret
      exact ⟨by rw [HE.out] <;> rfl, rfl⟩
set_option maxHeartbeats 4000000 in
theorem index_int (F : Nat → Prop) (L : Nat) (v : Value) (xs : List (List D)) (id : Int) (w : World) (h : RdC F L w (.sl (kI 1) 8) v (.sl xs)) (hL : L ≤ 140737488355328) :
    Calls Try.prog 34 #[v, .int .i64 id] w fun e w' => e = .returned (.int .i64 (fidx (fun x => dint x 0 == id) xs)) ∧ w' = w := by
  obtain ⟨p, hp⟩ : ∃ p : List D → Bool, p = fun x => dint x 0 == id := ⟨_, rfl⟩
  obtain ⟨ao, cap, rfl, _, hby, _, hx⟩ := h.form
  have hn : xs.length ≤ 1000000000000000000 := by omega
  have HX := Lib.hid hx
  have HPP := Lib.hid hp
  rw [← hp]
  clear hx h hby hL hp
  go_enter Try.func34, Try.ntmps34
  go_wp2_with fail
  go_loopw [8] (fun i wr => ∃ k : Nat, k ≤ xs.length ∧ i = .int .i64 k ∧ Hid (∀ j (h : j < xs.length), j < k → p xs[j] = false) ∧ wr = w) (fun i _ => xs.length - (intOf i).toNat)
  case atStart => exact ⟨0, by omega, rfl, Lib.hid fun j hj _ => by omega, rfl⟩
  case round =>
    obtain ⟨k, hk, rfl, HK, rfl⟩ := hrel
    by_cases hlt : k < xs.length
    · rcases HX.out with hh | ⟨b, o, rfl, hF, hb, hE⟩
      · rw [hh] at hlt; simp at hlt
      obtain ⟨vs, hvs, hrd⟩ := hE.get k _ (List.getElem?_eq_getElem hlt)
      have c0 := hvs 0 _ (hrd.int 0 rfl).1
      rw [show (kI 1).length = 1 from rfl, Nat.mul_one, Nat.add_zero] at c0
      obtain ⟨pb, hpb⟩ : ∃ pb, pb = p xs[k] := ⟨_, rfl⟩
      have hq : (id == dint xs[k] 0) = pb := by rw [hpb, HPP.out]; exact BEq.comm
      have HPB := Lib.hid hpb
      clear hE hvs hrd hpb
      cases pb
      · go_wp2_with fail
        go_round
        case rel => exact ⟨k + 1, by omega, by go_num, Lib.hid fun j hj hjk => (by
          by_cases e : j = k
          · subst e; exact HPB.out.symm
          · exact HK.out j hj (by omega)), trivial⟩
        case measure => simp [intOf]; omega
      · have HE := Lib.hid (show fidx p xs = k from fidx_hit _ xs k hlt HPB.out.symm HK.out)
        go_wp2_with fail
        go_ret
        exact ⟨by rw [HE.out] <;> rfl, rfl⟩
    · obtain rfl : k = xs.length := by omega
      have HE := Lib.hid (show fidx p xs = -1 from fidx_miss _ xs (fun j hj => HK.out j hj hj))
      go_wp2_with fail
      go_ret
      exact ⟨by rw [HE.out] <;> rfl, rfl⟩
end Go.Proofs.Ytiebjkbofoppaaa
