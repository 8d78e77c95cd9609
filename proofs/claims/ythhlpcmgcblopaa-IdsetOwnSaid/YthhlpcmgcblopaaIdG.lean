/- Chapter 03: the walks of the laws IdsetSplits and IdsetOwn. -/
import Derived.Test.YthhlpcmgcblopaaIdF
namespace Go.Proofs.Ythhlpcmgcblopaa
open Go Go.RowKit Go.Sort Cg
theorem mem_fmeet (xs ys : List Int) (x : Int) : x ∈ fmeet xs ys ↔ x ∈ xs ∧ x ∈ ys := by rw [fmeet, mem_insAll]; simp
theorem mem_fminus (xs ys : List Int) (x : Int) : x ∈ fminus xs ys ↔ x ∈ xs ∧ ¬ x ∈ ys := by rw [fminus, mem_insAll]; simp
theorem splits_eq (xs ys : List Int) : osort (fmeet xs ys ++ fminus xs ys) = osort xs :=
  (osort_si _).1.ext ltZ_ord (osort_si _).1 fun x => by
    rw [(osort_si _).2, (osort_si _).2, List.mem_append, mem_fmeet, mem_fminus]
    by_cases h : x ∈ ys <;> simp [h]
set_option maxHeartbeats 400000 in
theorem law_idsetSplits (v u : Value) (xs ys : List Int) (w : World) (hX : RowAt (Value.int .i64) w v xs) (hY : RowAt (Value.int .i64) w u ys) : Calls Try.prog 5 #[v, u] w fun e w' => e = .returned (.bool true) ∧ Below w.heap.size w w' := by
  have G := Lib.hid (Below.refl w.heap.size w)
  have RX := Lib.hid hX
  obtain ⟨aX, cX, rfl⟩ := hX.form
  clear hX
  have RY := Lib.hid hY
  obtain ⟨aY, cY, rfl⟩ := hY.form
  clear hY
  by_cases hs : xs.length ≤ 200 ∧ ys.length ≤ 200
  · have F0 := Lib.hid (decide_eq_true hs)
    obtain ⟨s1, s2⟩ := hs
    have HM := Lib.hid (fun x (h : x ∈ fmeet xs ys) => (mem_fmeet xs ys x).1 h)
    have HN := Lib.hid (mem_fminus xs ys)
    have l1 := fmeet_len xs ys
    have l2 := fminus_len xs ys
    have HE := Lib.hid (splits_eq xs ys)
    obtain ⟨ms, hms⟩ : ∃ ms, ms = fmeet xs ys := ⟨_, rfl⟩
    obtain ⟨ns, hns⟩ : ∃ ns, ns = fminus xs ys := ⟨_, rfl⟩
    have EM := Lib.hid hms
    have EN := Lib.hid hns
    rw [← hms] at HM l1 HE
    rw [← hns] at HN l2 HE
    clear hms hns
    go_enter Try.func5, Try.ntmps5
    go_wp2_with fail
    refine (few_b _ _ _ _ _ _ _).mono ?_
    rintro e w1 ⟨rfl, b1⟩
    rw [F0.out]
    have B := Lib.hid b1
    have RX := Lib.hid (RX.out.below B.out)
    have RY := Lib.hid (RY.out.below B.out)
    have G := Lib.hid (G.out.trans (B.out.mono G.out.size))
    clear b1
    go_wp2_with fail
    refine (fmeet_prog _ _ xs ys _ RX.out RY.out (by omega) (by omega)).mono ?_
    rintro e w2 ⟨v2, rfl, o2, b2⟩
    rw [← EM.out] at o2
    have B := Lib.hid b2
    have RX := Lib.hid (RX.out.below B.out)
    have RY := Lib.hid (RY.out.below B.out)
    have RM := Lib.hid (rowAt_own o2)
    have G := Lib.hid (G.out.trans (B.out.mono G.out.size))
    clear o2 b2
    obtain ⟨a2, c2, rfl⟩ := RM.out.form
    go_wp2_with fail
    refine (fminus_prog _ _ xs ys _ RX.out RY.out (by omega) (by omega)).mono ?_
    rintro e w3 ⟨v3, rfl, o3, b3⟩
    rw [← EN.out] at o3
    have B := Lib.hid b3
    have RX := Lib.hid (RX.out.below B.out)
    have RY := Lib.hid (RY.out.below B.out)
    have RM := Lib.hid (RM.out.below B.out)
    have RN := Lib.hid (rowAt_own o3)
    have G := Lib.hid (G.out.trans (B.out.mono G.out.size))
    clear o3 b3
    obtain ⟨a3, c3, rfl⟩ := RN.out.form
    go_wp2_with fail
    go_loopw [7] (fun i wr => ∃ k : Nat, k ≤ ms.length ∧ i = .int .i64 k ∧ Below w3.heap.size w3 wr) (fun i _ => ms.length - (intOf i).toNat)
    case atStart => exact ⟨0, by omega, rfl, Below.refl _ _⟩
    case round =>
      obtain ⟨k, hk, rfl, hnx⟩ := hrel
      have HNX := Lib.hid hnx
      by_cases hlt : k < ms.length
      · have RM2 := RM.out.below hnx
        obtain ⟨ao, cap, he, hcap, hx⟩ := RM2
        simp only [Value.slice.injEq, true_and] at he
        obtain ⟨rfl, rfl⟩ := he
        rcases hx with e | ⟨b, o, rfl, hb, hc⟩
        · rw [e] at hlt; simp at hlt
        have hcell := hc k ms[k] (by simp)
        have hm := HM.out ms[k] (List.getElem_mem _)
        obtain ⟨x, hxx⟩ : ∃ x, x = ms[k] := ⟨_, rfl⟩
        rw [← hxx] at hcell hm
        have F1 := Lib.hid (show decide (x ∈ ns) = false from decide_eq_false fun e => ((HN.out x).1 e).2 hm.2)
        have F2 := Lib.hid (show decide (x ∈ ys) = true from decide_eq_true hm.2)
        clear hc hxx hm hnx hcap
        go_wp2_with fail
        refine (has_ref _ ns x _ (RN.out.below HNX.out) (by omega)).mono ?_
        rintro e w4 ⟨rfl, rfl⟩
        rw [F1.out]
        go_wp2_with fail
        refine (has_ref _ ys x _ (RY.out.below HNX.out) (by omega)).mono ?_
        rintro e w4 ⟨rfl, rfl⟩
        rw [F2.out]
        go_wp2_with fail
        go_roundw
        case rel => exact ⟨k + 1, by omega, by go_num, HNX.out⟩
        case measure => simp [intOf]; omega
      · clear hnx
        go_wp2_with fail
        refine (union_prog _ _ ms ns _ (RM.out.below HNX.out) (RN.out.below HNX.out) (by omega) (by omega)).mono ?_
        rintro e w4 ⟨v4, rfl, o4, b4⟩
        rw [HE.out] at o4
        have R4 := Lib.hid (rowAt_own o4)
        have B4 := Lib.hid b4
        clear o4 b4
        have RX := Lib.hid ((RX.out.below HNX.out).below B4.out)
        have G := Lib.hid (G.out.trans ((HNX.out.trans (B4.out.mono HNX.out.size)).mono G.out.size))
        go_wp2_with fail
        refine (of_prog _ xs _ RX.out (by omega)).mono ?_
        rintro e w5 ⟨v5, rfl, o5, b5⟩
        have R5 := Lib.hid (rowAt_own o5)
        have R4 := Lib.hid (R4.out.below b5)
        have G := Lib.hid (G.out.trans (b5.mono G.out.size))
        have NL := Lib.hid (osort_len xs)
        clear o5 b5
        go_wp2_with fail
        refine (same_b _ _ (osort xs) (osort xs) _ R4.out R5.out (Nat.le_trans NL.out (by omega))).mono ?_
        rintro e w6 ⟨rfl, b6⟩
        rw [show decide (osort xs = osort xs) = true from decide_eq_true rfl]
        have G := Lib.hid (G.out.trans (b6.mono G.out.size))
        clear b6
        go_wp2_with fail
        refine (alive03 w _ G.out).mono ?_
        rintro e w99 ⟨rfl, g99⟩
        have G := Lib.hid g99
        clear g99
        go_wp2_with fail
        go_ret
        exact ⟨rfl, G.out⟩
  · have F0 := Lib.hid (decide_eq_false hs)
    clear hs
    go_enter Try.func5, Try.ntmps5
    go_wp2_with fail
    refine (few_b _ _ _ _ _ _ _).mono ?_
    rintro e w1 ⟨rfl, b1⟩
    rw [F0.out]
    have G := Lib.hid (G.out.trans (b1.mono G.out.size))
    clear b1
    go_wp2_with fail
    refine (alive03 w _ G.out).mono ?_
    rintro e w99 ⟨rfl, g99⟩
    have G := Lib.hid g99
    clear g99
    go_wp2_with fail
    go_ret
    exact ⟨rfl, G.out⟩
/-- The slice is the call's own and holds some ints. -/
def Owned (B : Nat) (w : World) (v : Value) (n : Nat) : Prop := ∃ zs : List Int, zs.length = n ∧ w.ownsRow B 3 1 v n (zs.map (Value.int .i64))
theorem Owned.below {B n : Nat} {w w' : World} {v : Value} (h : Owned B w v n) (hb : Below w.heap.size w w') : Owned B w' v n := by
  obtain ⟨zs, hl, h⟩ := h
  exact ⟨zs, hl, own_block h hb⟩
theorem Owned.other {B n : Nat} {w : World} {v : Value} (h : Owned B w v n) {a : Addr} (ha : a.block < B) (u : Value) : Owned B (w.setCell a u) v n := by
  obtain ⟨zs, hl, h⟩ := h
  exact ⟨zs, hl, ownsRow_setCell_below h ha u⟩
theorem Owned.cell {B n : Nat} {w : World} {v : Value} (h : Owned B w v n) (k : Nat) (hk : k < n) : ∃ g cap z, v = .slice (some ⟨g, 0, none⟩) n cap ∧ B ≤ g ∧ n ≤ cap ∧ w.cell? ⟨g, k, none⟩ = some (.int .i64 z) ∧ w.frozen? ⟨g, k, none⟩ = false ∧ ∀ y, Owned B (w.setCell ⟨g, k, none⟩ (.int .i64 y)) v n := by
  obtain ⟨zs, hl, h⟩ := h
  obtain ⟨g, cap, rfl, hg, _, hc, hx⟩ := own_nil_or h (by omega)
  refine ⟨g, cap, zs[k]'(by omega), rfl, hg, hc, hx k _ (by simp), ?_, fun y => ⟨zs.set k y, by simpa using hl, ?_⟩⟩
  · rcases h.2 with ⟨h0, _⟩ | ⟨g', cap', cur, h0, _, hgg, _⟩
    · cases h0
    · cases h0
      simp [World.frozen?, hgg]
  · have := (h.stored k (.int .i64 y)).1
    rwa [List.map_set]
set_option maxHeartbeats 1000000 in
theorem law_idsetOwn (v : Value) (xs : List Int) (n : Int) (w : World) (hX : RowAt (Value.int .i64) w v xs) : Calls Try.prog 7 #[v, .int .i64 n] w fun e w' => e = .returned (.bool true) ∧ Below w.heap.size w w' := by
  have G := Lib.hid (Below.refl w.heap.size w)
  have RX := Lib.hid hX
  obtain ⟨aX, cX, rfl⟩ := hX.form
  clear hX
  by_cases hs : xs.length ≤ 200 ∧ 0 ≤ 200
  · have F0 := Lib.hid (decide_eq_true hs)
    obtain ⟨s1, s2⟩ := hs
    have l1 := wout_len xs n
    have l2 := osort_len xs
    have l3 := osort_len (xs ++ [])
    rw [List.append_nil] at l3
    have EU := Lib.hid (show osort (xs ++ []) = osort xs by rw [List.append_nil])
    obtain ⟨ws, hws⟩ : ∃ ws, ws = wout xs n := ⟨_, rfl⟩
    obtain ⟨os, hos⟩ : ∃ os, os = osort xs := ⟨_, rfl⟩
    have EW := Lib.hid hws
    have EO := Lib.hid hos
    rw [← hws] at l1
    rw [← hos] at l2 l3 EU
    clear hws hos s2
    go_enter Try.func7, Try.ntmps7
    go_wp2_with fail
    refine (few_b _ _ _ _ _ _ _).mono ?_
    rintro e w1 ⟨rfl, b1⟩
    rw [F0.out]
    have RX := Lib.hid (RX.out.below b1)
    have G := Lib.hid (G.out.trans (b1.mono G.out.size))
    clear b1
    go_wp2_with (at_builtin; refine wpList_append_row rfl (.tmp 16) (.tmp 17) 22 rfl w1.heap.size intsElem _ 0 [] rfl (World.ownsRow_nil _ _ _ _) (Value.int .i64) (fun _ => rfl) xs _ rfl RX.out (by omega) (by omega) (Nat.le_refl _) ?_; intro vb w2 ob bb; have RX := Lib.hid (RX.out.below bb); have G := Lib.hid (G.out.trans (bb.mono G.out.size)); have RB := Lib.hid (show RowAt (Value.int .i64) w2 vb xs from rowAt_own (by simpa using ob)); clear ob bb; obtain ⟨ab, cb, rfl⟩ := RB.out.form)
    refine (without_prog _ xs n _ RX.out (by omega)).mono ?_
    rintro e w3 ⟨v3, rfl, o3, b3⟩
    rw [← EW.out] at o3
    have BB := Lib.hid b3
    have RX3 := Lib.hid (RX.out.below b3)
    have O3 := Lib.hid (show Owned w2.heap.size w3 v3 ws.length from ⟨ws, rfl, o3⟩)
    have R3 := rowAt_own o3
    obtain ⟨a3, c3, rfl⟩ := R3.form
    have HB3 := Lib.hid (fun g c (h : Value.slice a3 ws.length c3 = .slice (some ⟨g, 0, none⟩) ws.length c) => (o3.lt g (by rw [h]; rfl)).2)
    clear o3 R3 b3
    go_wp2_with fail
    refine (of_prog _ xs _ RX3.out (by omega)).mono ?_
    rintro e w4 ⟨v4, rfl, o4, b4⟩
    rw [← EO.out] at o4
    have RX4 := Lib.hid (RX3.out.below b4)
    have O3 := Lib.hid (O3.out.below b4)
    have O4 := Lib.hid (show Owned w3.heap.size w4 v4 os.length from ⟨os, rfl, o4⟩)
    have R4 := rowAt_own o4
    obtain ⟨a4, c4, rfl⟩ := R4.form
    have HB4 := Lib.hid (fun g c (h : Value.slice a4 os.length c4 = .slice (some ⟨g, 0, none⟩) os.length c) => (o4.lt g (by rw [h]; rfl)).2)
    have HSZ := Lib.hid (show w2.heap.size ≤ w3.heap.size ∧ w3.heap.size ≤ w4.heap.size from ⟨BB.out.size, b4.size⟩)
    have BB := Lib.hid (BB.out.trans (b4.mono BB.out.size))
    clear o4 R4 b4
    go_wp2_with fail
    refine (union_prog _ _ xs [] _ RX4.out (rowAt_nil _ _) (by omega) (by decide)).mono ?_
    rintro e w5 ⟨v5, rfl, o5, b5⟩
    rw [EU.out] at o5
    have O3 := Lib.hid (O3.out.below b5)
    have O4 := Lib.hid (O4.out.below b5)
    have O5 := Lib.hid (show Owned w4.heap.size w5 v5 os.length from ⟨os, rfl, o5⟩)
    have R5 := rowAt_own o5
    obtain ⟨a5, c5, rfl⟩ := R5.form
    have BB := Lib.hid (BB.out.trans (b5.mono BB.out.size))
    clear o5 R5 b5
    go_wp2_with fail
    go_loopw [9] (fun i wr => ∃ k : Nat, k ≤ ws.length ∧ i = .int .i64 k ∧ Hid (Owned w2.heap.size wr (.slice a3 ws.length c3) ws.length ∧ Owned w3.heap.size wr (.slice a4 os.length c4) os.length ∧ Owned w4.heap.size wr (.slice a5 os.length c5) os.length ∧ Below w2.heap.size w2 wr)) (fun i _ => ws.length - (intOf i).toNat)
    case atStart => exact ⟨0, by omega, rfl, Lib.hid ⟨O3.out, O4.out, O5.out, BB.out⟩⟩
    case round =>
      obtain ⟨k, hk, rfl, HR⟩ := hrel
      by_cases hlt : k < ws.length
      · obtain ⟨h3, h4, h5, hbel⟩ := HR.out
        obtain ⟨g, cap, z, he, hg, hcap, hcell, hfz, hset⟩ := h3.cell k hlt
        simp only [Value.slice.injEq, true_and] at he
        obtain ⟨rfl, rfl⟩ := he
        have hb : w2.heap.size ≤ g ∧ g < w3.heap.size ∧ g < w4.heap.size := by have := HSZ.out; have := HB3.out g _ rfl; omega
        have HS := Lib.hid (fun y => (⟨hset y, h4.other (a := ⟨g, k, none⟩) hb.2.1 (.int .i64 y), h5.other (a := ⟨g, k, none⟩) hb.2.2 (.int .i64 y), hbel.setCell (p := ⟨g, k, none⟩) hb.1 (.int .i64 y)⟩ : _ ∧ _ ∧ _ ∧ _))
        clear h3 h4 h5 hbel hset HR hg
        have i0 : (0 : Int) ≤ (k : Int) := by omega
        have i1 : (k : Int) < (ws.length : Int) := by omega
        go_wp2_with fail
        go_roundw
        case rel => exact ⟨k + 1, by omega, by go_num, Lib.hid (HS.out _)⟩
        case measure => simp [intOf]; omega
      · clear hk
        have HY := Lib.hid HR.out.2
        clear HR
        go_wp2_with fail
        go_loopw [10] (fun i wr => ∃ k : Nat, k ≤ os.length ∧ i = .int .i64 k ∧ Hid (Owned w3.heap.size wr (.slice a4 os.length c4) os.length ∧ Owned w4.heap.size wr (.slice a5 os.length c5) os.length ∧ Below w2.heap.size w2 wr)) (fun i _ => os.length - (intOf i).toNat)
        case atStart => exact ⟨0, by omega, rfl, Lib.hid ⟨HY.out.1, HY.out.2.1, HY.out.2.2⟩⟩
        case round =>
          obtain ⟨k, hk, rfl, HR⟩ := hrel
          by_cases hlt : k < os.length
          · obtain ⟨h4, h5, hbel⟩ := HR.out
            obtain ⟨g, cap, z, he, hg, hcap, hcell, hfz, hset⟩ := h4.cell k hlt
            simp only [Value.slice.injEq, true_and] at he
            obtain ⟨rfl, rfl⟩ := he
            have hb : w2.heap.size ≤ g ∧ g < w4.heap.size := by have := HSZ.out; have := HB4.out g _ rfl; omega
            have HS := Lib.hid (fun y => (⟨hset y, h5.other (a := ⟨g, k, none⟩) hb.2 (.int .i64 y), hbel.setCell (p := ⟨g, k, none⟩) hb.1 (.int .i64 y)⟩ : _ ∧ _ ∧ _))
            clear h4 h5 hbel hset HR hg
            have i0 : (0 : Int) ≤ (k : Int) := by omega
            have i1 : (k : Int) < (os.length : Int) := by omega
            go_wp2_with fail
            go_roundw
            case rel => exact ⟨k + 1, by omega, by go_num, Lib.hid (HS.out _)⟩
            case measure => simp [intOf]; omega
          · clear hk
            have HZ := Lib.hid HR.out.2
            clear HR
            go_wp2_with fail
            go_loopw [11] (fun i wr => ∃ k : Nat, k ≤ os.length ∧ i = .int .i64 k ∧ Hid (Owned w4.heap.size wr (.slice a5 os.length c5) os.length ∧ Below w2.heap.size w2 wr)) (fun i _ => os.length - (intOf i).toNat)
            case atStart => exact ⟨0, by omega, rfl, Lib.hid ⟨HZ.out.1, HZ.out.2⟩⟩
            case round =>
              obtain ⟨k, hk, rfl, HR⟩ := hrel
              by_cases hlt : k < os.length
              · obtain ⟨h5, hbel⟩ := HR.out
                obtain ⟨g, cap, z, he, hg, hcap, hcell, hfz, hset⟩ := h5.cell k hlt
                simp only [Value.slice.injEq, true_and] at he
                obtain ⟨rfl, rfl⟩ := he
                have hb : w2.heap.size ≤ g := by have := HSZ.out; omega
                have HS := Lib.hid (fun y => (⟨hset y, hbel.setCell (p := ⟨g, k, none⟩) hb (.int .i64 y)⟩ : _ ∧ _))
                clear h5 hbel hset HR hg
                have i0 : (0 : Int) ≤ (k : Int) := by omega
                have i1 : (k : Int) < (os.length : Int) := by omega
                go_wp2_with fail
                go_roundw
                case rel => exact ⟨k + 1, by omega, by go_num, Lib.hid (HS.out _)⟩
                case measure => simp [intOf]; omega
              · clear hk
                obtain ⟨_, hbel⟩ := HR.out
                have RX := Lib.hid (RX.out.below hbel)
                have RB := Lib.hid (RB.out.below hbel)
                have G := Lib.hid (G.out.trans (hbel.mono G.out.size))
                clear hbel HR
                go_wp2_with fail
                refine (same_b _ _ xs xs _ RX.out RB.out (by omega)).mono ?_
                rintro e w6 ⟨rfl, b6⟩
                rw [show decide (xs = xs) = true from decide_eq_true rfl]
                have RX := Lib.hid (RX.out.below b6)
                have RB := Lib.hid (RB.out.below b6)
                have G := Lib.hid (G.out.trans (b6.mono G.out.size))
                clear b6
                go_wp2_with fail
                refine (of_prog _ xs _ RX.out (by omega)).mono ?_
                rintro e w7 ⟨v7, rfl, o7, b7⟩
                rw [← EO.out] at o7
                have R7 := Lib.hid (rowAt_own o7)
                have RB := Lib.hid (RB.out.below b7)
                have G := Lib.hid (G.out.trans (b7.mono G.out.size))
                clear o7 b7
                obtain ⟨a7, c7, rfl⟩ := R7.out.form
                go_wp2_with fail
                refine (of_ref _ xs _ RB.out (by omega)).mono ?_
                rintro e w8 ⟨v8, rfl, o8, b8⟩
                rw [← osort_ins, ← EO.out] at o8
                have R8 := Lib.hid (rowAt_own o8)
                have R7 := Lib.hid (R7.out.below b8)
                have G := Lib.hid (G.out.trans (b8.mono G.out.size))
                clear o8 b8
                obtain ⟨a8, c8, rfl⟩ := R8.out.form
                go_wp2_with fail
                refine (same_b _ _ os os _ R7.out R8.out (by omega)).mono ?_
                rintro e w9 ⟨rfl, b9⟩
                rw [show decide (os = os) = true from decide_eq_true rfl]
                have G := Lib.hid (G.out.trans (b9.mono G.out.size))
                clear b9
                go_wp2_with fail
                refine (alive03 w _ G.out).mono ?_
                rintro e w99 ⟨rfl, g99⟩
                have G := Lib.hid g99
                clear g99
                go_wp2_with fail
                go_ret
                exact ⟨rfl, G.out⟩
  · have F0 := Lib.hid (decide_eq_false hs)
    clear hs
    go_enter Try.func7, Try.ntmps7
    go_wp2_with fail
    refine (few_b _ _ _ _ _ _ _).mono ?_
    rintro e w1 ⟨rfl, b1⟩
    rw [F0.out]
    have G := Lib.hid (G.out.trans (b1.mono G.out.size))
    clear b1
    go_wp2_with fail
    refine (alive03 w _ G.out).mono ?_
    rintro e w99 ⟨rfl, g99⟩
    have G := Lib.hid g99
    clear g99
    go_wp2_with fail
    go_ret
    exact ⟨rfl, G.out⟩
end Go.Proofs.Ythhlpcmgcblopaa
