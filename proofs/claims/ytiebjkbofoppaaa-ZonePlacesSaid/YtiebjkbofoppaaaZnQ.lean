/- Chapter 25: slices.Insert of one element. -/
import Derived.Test.YtiebjkbofoppaaaZnP
namespace Go.Proofs.Ytiebjkbofoppaaa
open Go Go.RowKit Go.Sort Go.Shelf Cg
theorem insSizeObject : (Try.prog.info? 47).map (·.size) = some 19 := by kernel_rfl
theorem ovlObject (w : World) (a b : Addr) (la ca lb cb : Nat) (hne : a.block ≠ b.block) (tA tB : TypeId) (kA kB : Nat)
    (hsa : w.shape? a.block = some (tA, kA)) (hsb : w.shape? b.block = some (tB, kB)) (hkB : kB ≠ 0)
    (hfa : w.frozen? a = false) (hfe : w.frozen? { block := a.block, off := kA } = false) : (callFunc 79 #[.slice (some a) la ca, .slice (some b) lb cb]).run Try.prog w = .ok (.value (.bool false)) w := by
  rw [run_callFunc_extern Try.func79 (by kernel_rfl) (by kernel_rfl) (by kernel_rfl) (e := Extern.SlicesOverlaps.overlaps #[23, 23] #[4]) (by kernel_rfl),
    Lib.run_overlaps_apart w 23 4 47 Try.underlying23 19 (fun w => by kernel_rfl) a b la ca lb cb hne tA tB kA kB hsa hsb hkB hfa hfe]
  rfl
set_option maxRecDepth 100000 in
set_option maxHeartbeats 2000000 in
theorem insShiftObject (base g n c i nb : Nat) (es : List (Cl 19)) (y : Cl 19) (w : World) (hb : BlkC 19 47 w g es) (hh : HdC base 47 19 w g c) (hl : es.length = n) (hi : i < n) (hroom : n + 1 ≤ c) (hnb : Bx w nb 47 y.1) (hne : nb ≠ g) :
    Calls Try.prog 68 #[.slice (some ⟨g, 0, none⟩) n c, .int .i64 i, .slice (some ⟨nb, 0, none⟩) 1 1] w fun e w' => e = .returned (.slice (some ⟨g, 0, none⟩) (n + 1) c) ∧ w' = (w.drew.setCells g ((i + 1) * 19) ((es.drop i).flatMap Subtype.val)).setCells g (i * 19) y.1 := by
  obtain ⟨h0, hc63, cur, hg, hcs⟩ := hh
  have hdl : ((es.drop i).flatMap Subtype.val).length = (n - i) * 19 := by rw [flat_len Cl.len, List.length_drop, hl]
  have hin : ∀ j, j < (n + 1) * 19 → (w.cell? ⟨g, j, none⟩).isSome = true := fun j hj => by
    rw [cell_of_row _ _ j _ _ _ hg, Array.getElem?_eq_getElem (by rw [hcs]; exact Nat.lt_of_lt_of_le hj (Nat.mul_le_mul_right _ hroom))]
    rfl
  have hfz : ∀ j, w.frozen? ⟨g, j, none⟩ = false := fun j => hb.frozen j
  have hov : ∀ lb cb, (callFunc 79 #[.slice (some ⟨nb, 0, none⟩) 1 1, .slice (some ⟨g, (i + 1) * 19, none⟩) lb cb]).run Try.prog w = .ok (.value (.bool false)) w := fun lb cb =>
    ovlObject w ⟨nb, 0, none⟩ ⟨g, (i + 1) * 19, none⟩ 1 1 lb cb hne 47 47 19 (c * 19) (by unfold Bx at hnb; simp [World.shape?, hnb, y.len]) (by simp [World.shape?, hg, hcs]) (by omega) (hnb.frozen 0) (hnb.frozen 19)
  obtain ⟨W1, hW1⟩ : ∃ W1, W1 = w.drew.setCells g ((i + 1) * 19) ((es.drop i).flatMap Subtype.val) := ⟨_, rfl⟩
  have hcp1 : ∀ ty dc sc, (Builtin.copy_ #[23, 23] ty #[.slice (some ⟨g, (i + 1) * 19, none⟩) (n - i) dc, .slice (some ⟨g, i * 19, none⟩) (n + 1 - i) sc]).run Try.prog w.drew = .ok (goInt (Nat.min (n + 1 - i) (n - i))) W1 := fun ty dc sc => by
    rw [hW1]
    refine run_copy_cellsK w.drew _ _ ty 47 19 g ((i + 1) * 19) (n - i) dc ⟨g, i * 19, none⟩ (n + 1 - i) sc _ Try.underlying23 insSizeObject (by rw [hdl]; simp only [Nat.min_def]; split <;> congr 1 <;> omega)
      (fun j v hj => ?_) (fun j hj => hin _ (by rw [hdl] at hj; omega)) (fun j hj => hfz _) (fun u hu => by
        obtain ⟨x, _, hx⟩ := List.mem_flatMap.1 hu
        exact Cl.one x u hx)
    rw [Addr.add_lit]
    have hj1 := (List.getElem?_eq_some_iff.1 hj).1
    rw [hdl] at hj1
    have hq : j / 19 < (es.drop i).length := by rw [List.length_drop, hl]; omega
    have hg2 := flat_get (enc := Subtype.val) Cl.len (es.drop i) (j / 19) _ (List.getElem?_eq_getElem hq) (j % 19) (Nat.mod_lt _ (by decide))
    rw [show j / 19 * 19 + j % 19 = j by omega, hj] at hg2
    rw [List.getElem_drop] at hg2
    have := hb.cell (i + j / 19) _ (List.getElem?_eq_getElem (by rw [List.length_drop] at hq; omega)) (j % 19) v hg2.symm
    rw [show (i + j / 19) * 19 + j % 19 = i * 19 + j by omega] at this
    exact this
  have hsp1 : ∀ j, j < (n + 1) * 19 → (W1.cell? ⟨g, j, none⟩).isSome = true := fun j hj => by
    rw [hW1]
    exact isSome_setCells g ((es.drop i).flatMap Subtype.val) ((i + 1) * 19) w.drew (fun t ht => hin ((i + 1) * 19 + t) (by rw [hdl] at ht; omega)) j (hin j hj)
  have hcp2 : ∀ (W : World), (∀ x, W.cell? x = W1.cell? x) → (∀ x, W.frozen? x = W1.frozen? x) → ∀ ty dc, (Builtin.copy_ #[23, 23] ty #[.slice (some ⟨g, i * 19, none⟩) (n + 1 - i) dc, .slice (some ⟨nb, 0, none⟩) 1 1]).run Try.prog W = .ok (goInt (Nat.min 1 (n + 1 - i))) (W.setCells g (i * 19) y.1) := fun W hWc hWf ty dc =>
    run_copy_cellsK W _ _ ty 47 19 g (i * 19) (n + 1 - i) dc ⟨nb, 0, none⟩ 1 1 y.1 Try.underlying23 insSizeObject (by rw [y.len, show Nat.min 1 (n + 1 - i) = 1 by simp only [Nat.min_def]; split <;> omega])
      (fun j v hj => by
        rw [Addr.add_lit, hWc, hW1, World.cell?_setCells_out g _ _ _ _ (fun h _ => absurd h hne), Nat.zero_add]
        exact hnb.cell j v hj)
      (fun j hj => by rw [hWc]; exact hsp1 _ (by rw [y.len] at hj; omega)) (fun j hj => by rw [hWf, hW1, World.frozen?_setCells]; exact hfz _) y.one
  rw [← hW1]
  have HCP1 := Lib.hid hcp1
  have HCP2 := Lib.hid hcp2
  have HOV := Lib.hid hov
  have hz2 : ((i : Int) == (n : Int)) = false := beq_eq_false_iff_ne.2 (by omega)
  have hz2' : ¬ ((i : Int) = (n : Int)) := by omega
  have hcm : c ≤ 9223372036854775807 := by have := hc63; simp only [maxLen] at this; omega
  have hz3 : ¬ ((c : Int) < (n : Int) + 1) := by omega
  have hw0 : (0 : Int) ≤ (i : Int) + 1 := by omega
  have hw1 : IntKind.i64.wrap ((i : Int) + 1) = (i : Int) + 1 := by rw [IntKind.wrap_i64]; omega
  have hw2 : IntKind.i64.wrap ((n : Int) + 1) = (n : Int) + 1 := by rw [IntKind.wrap_i64]; omega
  have hin2 : i ≤ n := by omega
  have hin3 : i + 1 ≤ n + 1 := by omega
  have hin4 : i ≤ n + 1 := by omega
  have hnc : n ≤ c := by omega
  have hb3 : (i : Int) ≤ (n : Int) + 1 := by omega
  have hb2 : ¬ (c = i + 1) := by omega
  have hb4 : ¬ (c = i) := by omega
  clear hin hfz hov hcp1 hcp2 hsp1 hW1 hdl hb hg hcs h0 hc63 hnb
  go_enter Try.func68, Try.ntmps68
  go_wp2_with (simp only [HOV.out])
  go_region_law (refine step_copy_runI rfl (.tmp 73) (.tmp 76) 23 23 rfl (.slice (some ⟨g, (i + 1) * 19, none⟩) (n - i) (c - (i + 1))) (.slice (some ⟨g, i * 19, none⟩) (n + 1 - i) (c - i)) (by simp [Act.eval, Act.put]) (by simp [Act.eval, Act.put]) (HCP1.out _ _ _) ?_)
  have hq2 := HCP2.out W1 (fun _ => rfl) (fun _ => rfl)
  go_wp2_with fail
  go_ret
  exact ⟨rfl, rfl⟩
set_option maxRecDepth 100000 in
set_option maxHeartbeats 2000000 in
theorem insGrowObject (base g n c i nb : Nat) (es : List (Cl 19)) (y : Cl 19) (w : World) (hb : BlkC 19 47 w g es) (hl : es.length = n) (hi : i < n) (hnc : n ≤ c) (hroom : c < n + 1) (hbig : (n + 1) * 128 ≤ 140737488355328) (hnb : Bx w nb 47 y.1) (hbase : base ≤ w.heap.size) :
    Calls Try.prog 68 #[.slice (some ⟨g, 0, none⟩) n c, .int .i64 i, .slice (some ⟨nb, 0, none⟩) 1 1] w fun e w' => ∃ G, e = .returned (.slice (some ⟨w.heap.size, 0, none⟩) (n + 1) G) ∧ w'.ownsRow base 47 19 (.slice (some ⟨w.heap.size, 0, none⟩) (n + 1) G) (n + 1) ((es.take i ++ y :: es.drop i).flatMap Subtype.val) ∧ Below w.heap.size w w' := by
  obtain ⟨z, ht, hzs, hsz, i0, hi0, hz0, hs0, hby0⟩ := elemObject
  have hgw := hb.lt
  have hnw := hnb.lt
  have hdl : ((es.drop i).flatMap Subtype.val).length = (n - i) * 19 := by rw [flat_len Cl.len, List.length_drop, hl]
  have htl : ((es.take i).flatMap Subtype.val).length = i * 19 := by rw [flat_len Cl.len, List.length_take, hl, Nat.min_eq_left (by omega)]
  have hkk : (n : Int) + 1 - (i : Int) = ((n + 1 - i : Nat) : Int) := by omega
  have hik : i + (n + 1 - i) = n + 1 := by omega
  have srcG : ∀ j v, (es.flatMap Subtype.val)[j]? = some v → w.cell? ⟨g, j, none⟩ = some v := fun j v hj => by
    have hj1 := (List.getElem?_eq_some_iff.1 hj).1
    rw [flat_len Cl.len, hl] at hj1
    have hq : j / 19 < es.length := by rw [hl]; omega
    have hg2 := flat_get (enc := Subtype.val) Cl.len es (j / 19) _ (List.getElem?_eq_getElem hq) (j % 19) (Nat.mod_lt _ (by decide))
    rw [show j / 19 * 19 + j % 19 = j by omega, hj] at hg2
    have := hb.cell (j / 19) _ (List.getElem?_eq_getElem hq) (j % 19) v hg2.symm
    rw [show j / 19 * 19 + j % 19 = j by omega] at this
    exact this
  have hsplit : es.flatMap Subtype.val = (es.take i).flatMap Subtype.val ++ (es.drop i).flatMap Subtype.val := by rw [← List.flatMap_append, List.take_append_drop]
  have hold : (Builtin.firstCells i0.size i (.slice (some ⟨g, 0, none⟩) i c)).run Try.prog w.drew = .ok ((es.take i).flatMap Subtype.val).toArray w.drew := by
    rw [hs0]
    exact run_firstCells_some w.drew 19 i ⟨g, 0, none⟩ i c _ htl (fun j v hj => by
      rw [Addr.add_lit, Nat.zero_add]
      refine srcG j v ?_
      rw [hsplit, List.getElem?_append_left (List.getElem?_eq_some_iff.1 hj).1]
      exact hj)
  have hrz : ∀ ty, (Builtin.append_ #[23, 3] ty #[.slice (some ⟨g, 0, none⟩) i c, .int .i64 ((n : Int) + 1 - (i : Int))]).run Try.prog w =
      .ok (.slice (some ⟨w.heap.size, 0, none⟩) (n + 1) (grownCap w (n + 1) c 47)) (w.drew.alloc (.cells (((es.take i).flatMap Subtype.val).toArray ++ Builtin.zeroCells z.cells (n + 1 - i) ++ Builtin.zeroCells z.cells (grownCap w (n + 1) c 47 - (n + 1))) 47)) := fun ty => by
    have h := Lib.run_append_grow_zeros w 23 3 ty 47 i0 _ .i64 .i64 ht Try.underlying3 hi0 hz0 (some ⟨g, 0, none⟩) i c _ hold (n + 1 - i) (by omega) (by omega) (by omega) (by omega) (by rw [hby0]; omega) (by rw [hby0, hik]; exact growslice_fits hroom hbig)
    rw [hik] at h
    rw [hkk]
    exact h
  obtain ⟨G, hG⟩ : ∃ G, G = grownCap w (n + 1) c 47 := ⟨_, rfl⟩
  have hGn : n + 1 ≤ G := by rw [hG]; exact grownCap_ge w _ _ _
  have hGm : G ≤ maxLen := by rw [hG]; exact grownCap_le_maxLen w (n + 1) c 47 (by unfold maxLen; omega)
  obtain ⟨ROW, hROW⟩ : ∃ ROW : Array Value, ROW = ((es.take i).flatMap Subtype.val).toArray ++ Builtin.zeroCells z.cells (n + 1 - i) ++ Builtin.zeroCells z.cells (G - (n + 1)) := ⟨_, rfl⟩
  rw [← hG, ← hROW] at hrz
  have hRl : ROW.size = G * 19 := by
    rw [hROW, Array.size_append, Array.size_append, size_zeroCells, size_zeroCells, hzs, List.size_toArray, htl]
    omega
  obtain ⟨W1, hW1⟩ : ∃ W1, W1 = w.drew.alloc (.cells ROW 47) := ⟨_, rfl⟩
  rw [← hW1] at hrz
  have hrow : W1.heap[w.heap.size]? = some (.cells ROW 47 (0, 0)) := by rw [hW1]; exact heap_alloc_new w.drew _
  have hN : ∀ j, j < (n + 1) * 19 → (W1.cell? ⟨w.heap.size, j, none⟩).isSome = true := fun j hj => by
    rw [cell_of_row _ _ j _ _ _ hrow, Array.getElem?_eq_getElem (by rw [hRl]; exact Nat.lt_of_lt_of_le hj (Nat.mul_le_mul_right _ hGn))]
    rfl
  have hNf : ∀ j, W1.frozen? ⟨w.heap.size, j, none⟩ = false := fun j => by simp [World.frozen?, hrow]
  have hOld : ∀ b, b < w.heap.size → W1.heap[b]? = w.heap[b]? := fun b hlt => by rw [hW1]; exact heap_alloc_old w.drew _ hlt
  have hcpA : ∀ ty dc, (Builtin.copy_ #[23, 23] ty #[.slice (some ⟨w.heap.size, i * 19, none⟩) (n + 1 - i) dc, .slice (some ⟨nb, 0, none⟩) 1 1]).run Try.prog W1 = .ok (goInt (Nat.min 1 (n + 1 - i))) (W1.setCells w.heap.size (i * 19) y.1) := fun ty dc =>
    run_copy_cellsK W1 _ _ ty 47 19 w.heap.size (i * 19) (n + 1 - i) dc ⟨nb, 0, none⟩ 1 1 y.1 Try.underlying23 insSizeObject (by rw [y.len, show Nat.min 1 (n + 1 - i) = 1 by simp only [Nat.min_def]; split <;> omega])
      (fun j v hj => by
        rw [Addr.add_lit, Nat.zero_add]
        exact (World.cell?_of_block (a := ⟨nb, j, none⟩) (hOld nb hnw)).trans (hnb.cell j v hj))
      (fun j hj => hN _ (by rw [y.len] at hj; omega)) (fun j hj => hNf _) y.one
  obtain ⟨W2, hW2⟩ : ∃ W2, W2 = W1.setCells w.heap.size (i * 19) y.1 := ⟨_, rfl⟩
  rw [← hW2] at hcpA
  have hcpB : ∀ ty dc sc, (Builtin.copy_ #[23, 23] ty #[.slice (some ⟨w.heap.size, (i + 1) * 19, none⟩) (n - i) dc, .slice (some ⟨g, i * 19, none⟩) (n - i) sc]).run Try.prog W2.drew = .ok (goInt (Nat.min (n - i) (n - i))) (W2.drew.setCells w.heap.size ((i + 1) * 19) ((es.drop i).flatMap Subtype.val)) := fun ty dc sc =>
    run_copy_cellsK W2.drew _ _ ty 47 19 w.heap.size ((i + 1) * 19) (n - i) dc ⟨g, i * 19, none⟩ (n - i) sc _ Try.underlying23 insSizeObject (by rw [hdl, show Nat.min (n - i) (n - i) = n - i from Nat.min_self _])
      (fun j v hj => by
        rw [Addr.add_lit]
        have e1 : W2.heap[g]? = w.heap[g]? := by rw [hW2, heap_sets _ _ _ _ g (by omega)]; exact hOld g hgw
        refine (World.cell?_of_block (w := w) (w' := W2.drew) (a := ⟨g, i * 19 + j, none⟩) e1).trans (srcG (i * 19 + j) v ?_)
        rw [hsplit, List.getElem?_append_right (by rw [htl]; omega), htl, show i * 19 + j - i * 19 = j by omega]
        exact hj)
      (fun j hj => by
        show (W2.cell? _).isSome = true
        rw [hW2]
        exact isSome_setCells w.heap.size y.1 (i * 19) W1 (fun t ht => hN (i * 19 + t) (by rw [y.len] at ht; omega)) _ (hN _ (by rw [hdl] at hj; omega)))
      (fun j hj => by
        show W2.frozen? _ = false
        rw [hW2, World.frozen?_setCells]
        exact hNf _) (fun u hu => by
        obtain ⟨x, _, hx⟩ := List.mem_flatMap.1 hu
        exact Cl.one x u hx)
  have HF := Lib.hid (show (W2.drew.setCells w.heap.size ((i + 1) * 19) ((es.drop i).flatMap Subtype.val)).ownsRow base 47 19 (.slice (some ⟨w.heap.size, 0, none⟩) (n + 1) G) (n + 1) ((es.take i ++ y :: es.drop i).flatMap Subtype.val) ∧ Below w.heap.size w (W2.drew.setCells w.heap.size ((i + 1) * 19) ((es.drop i).flatMap Subtype.val)) by
    have hd : HdC base 47 19 W1 w.heap.size G := ⟨hbase, hGm, ROW, hrow, hRl⟩
    have htl2 : (es.take i).length = i := by rw [List.length_take, hl, Nat.min_eq_left (by omega)]
    have b1 : BlkC 19 47 W1 w.heap.size (es.take i) := ⟨ROW, hrow, by rw [hRl, htl2]; exact Nat.mul_le_mul_right _ (by omega), fun j x hj q u hu => by
      have hq : q < 19 := by have := (List.getElem?_eq_some_iff.1 hu).1; rwa [Cl.len] at this
      have hjl := (List.getElem?_eq_some_iff.1 hj).1
      rw [htl2] at hjl
      have := flat_get (enc := Subtype.val) Cl.len (es.take i) j x hj q hq
      rw [hROW, Array.append_assoc, Array.getElem?_append_left (by rw [List.size_toArray, htl]; omega), List.getElem?_toArray, this]
      exact hu⟩
    obtain ⟨b2, d2⟩ := BlkC.write b1 hd i [y] (by rw [htl2]; exact Nat.le_refl _) (by rw [List.length_singleton]; omega)
    rw [List.flatMap_cons, List.flatMap_nil, List.append_nil] at b2 d2
    have e2 : (es.take i).take i ++ [y] ++ (es.take i).drop (i + [y].length) = es.take i ++ [y] := by
      rw [List.take_of_length_le (by omega), List.drop_eq_nil_of_le (by rw [htl2]; omega), List.append_nil]
    rw [e2] at b2
    have hl3 : (es.take i ++ [y]).length = i + 1 := by rw [List.length_append, htl2, List.length_singleton]
    obtain ⟨b3, d3⟩ := BlkC.write (w := W2.drew) (es := es.take i ++ [y]) (by rw [hW2]; exact b2) (by rw [hW2]; exact d2) (i + 1) (es.drop i) (by rw [hl3]; exact Nat.le_refl _) (by rw [List.length_drop, hl]; omega)
    have e3 : (es.take i ++ [y]).take (i + 1) ++ es.drop i ++ (es.take i ++ [y]).drop (i + 1 + (es.drop i).length) = es.take i ++ y :: es.drop i := by
      rw [show (es.take i ++ [y]).take (i + 1) = es.take i ++ [y] from List.take_of_length_le (by omega), show (es.take i ++ [y]).drop (i + 1 + (es.drop i).length) = [] from List.drop_eq_nil_of_le (by rw [hl3]; omega), List.append_nil, List.append_assoc, List.singleton_append]
    rw [e3] at b3
    have hl4 : (es.take i ++ y :: es.drop i).length = n + 1 := by rw [List.length_append, htl2, List.length_cons, List.length_drop, hl]; omega
    refine ⟨?_, ?_⟩
    · have := own_of b3 d3 (by rw [hl4]; exact hGn)
      rw [hl4] at this

      exact this
    · refine below_sets _ _ _ ?_ _ (Nat.le_refl _)
      show Below w.heap.size w W2.drew
      rw [hW2]
      refine Below.drew (below_sets _ _ _ ?_ _ (Nat.le_refl _))
      rw [hW1]
      exact ((Below.refl w.heap.size w).drew).alloc (Nat.le_refl _) _)
  have hGi : ¬ (G = i) := by omega
  have hGim : ¬ (G = i + 1) := by omega
  have hci : ¬ (c = i) := by omega
  have hG63 : G ≤ 9223372036854775807 := by have := hGm; simp only [maxLen] at this; omega
  have hz2 : ((i : Int) == (n : Int)) = false := beq_eq_false_iff_ne.2 (by omega)
  have hz2' : ¬ ((i : Int) = (n : Int)) := by omega
  have hz3 : (c : Int) < (n : Int) + 1 := by omega
  have hw0 : (0 : Int) ≤ (i : Int) + 1 := by omega
  have hw1 : IntKind.i64.wrap ((i : Int) + 1) = (i : Int) + 1 := by rw [IntKind.wrap_i64]; omega
  have hw2 : IntKind.i64.wrap ((n : Int) + 1) = (n : Int) + 1 := by rw [IntKind.wrap_i64]; omega
  have hw3 : IntKind.i64.wrap ((n : Int) + 1 - (i : Int)) = (n : Int) + 1 - (i : Int) := by rw [IntKind.wrap_i64]; omega
  have hin : i ≤ n := by omega
  have hic : i ≤ c := by omega
  have hin4 : i ≤ n + 1 := by omega
  have hin3 : i + 1 ≤ n + 1 := by omega
  have hb3 : (i : Int) ≤ (n : Int) + 1 := by omega
  have hb5 : (i : Int) ≤ (n : Int) := by omega
  have HRZ := Lib.hid hrz
  have HCPB := Lib.hid hcpB
  clear hrz hcpB hROW hRl hrow hN hNf hOld hW1 hW2 hdl htl hkk hik srcG hsplit hold hG hGm hb hnb hz0 hi0 ht hzs hsz hs0 hby0
  go_enter Try.func68, Try.ntmps68
  go_wp2_with (at_builtin; refine Lib.wpList_append_run _ rfl _ _ _ _ rfl _ _ rfl rfl _ _ (HRZ.out _) ?_)
  go_region_law (refine step_copy_runI rfl (.tmp 50) (.tmp 53) 23 23 rfl (.slice (some ⟨w.heap.size, (i + 1) * 19, none⟩) (n - i) (G - (i + 1))) (.slice (some ⟨g, i * 19, none⟩) (n - i) (c - i)) (by simp [Act.eval, Act.put]) (by simp [Act.eval, Act.put]) (HCPB.out _ _ _) ?_)
  go_wp2_with fail
  go_ret
  exact ⟨G, rfl, HF.out⟩
set_option maxRecDepth 100000 in
set_option maxHeartbeats 2000000 in
theorem insertObject (base : Nat) (v : Value) (es : List (Cl 19)) (i nb : Nat) (y : Cl 19) (w : World) (hown : w.ownsRow base 47 19 v es.length (es.flatMap Subtype.val)) (hi : i ≤ es.length) (hbig : (es.length + 1) * 128 ≤ 140737488355328) (hnb : Bx w nb 47 y.1) (hne : v.ownBlock ≠ some nb) (hbase : base ≤ w.heap.size) :
    Calls Try.prog 68 #[v, .int .i64 i, .slice (some ⟨nb, 0, none⟩) 1 1] w fun e w' => ∃ ao m c, e = .returned (.slice ao m c) ∧ w'.ownsRow base 47 19 (.slice ao m c) (es.length + 1) ((es.take i ++ y :: es.drop i).flatMap Subtype.val) ∧ w.grownBy w' v.ownBlock ∧ ((Value.slice ao m c).ownBlock = v.ownBlock ∨ (Value.slice ao m c).ownBlock = some w.heap.size) := by
  by_cases hend : i = es.length
  · obtain ⟨z, hE⟩ := elemObject
    have HE := Lib.hid hE
    have HOWN := Lib.hid hown
    have HNB := Lib.hid hnb
    obtain ⟨n, hn⟩ : ∃ n, n = es.length := ⟨_, rfl⟩
    obtain ⟨p, m, c, rfl⟩ := own_sl hown
    obtain ⟨hmn, hcn, hnil, hat⟩ := own_cap hown
    subst hmn
    rw [← hn] at HOWN hcn hbig hend ⊢
    subst hend
    have hyl : y.1.length = 1 * 19 := by rw [y.len]
    have hes : es.take i = es := List.take_of_length_le (by omega)
    have hes2 : es.drop i = [] := List.drop_eq_nil_of_le (by omega)
    rw [hes, hes2, List.flatMap_append, List.flatMap_cons, List.flatMap_nil, List.append_nil]
    obtain ⟨fs, hfs⟩ : ∃ fs, fs = es.flatMap Subtype.val := ⟨_, rfl⟩
    rw [← hfs] at HOWN ⊢
    have hc63 : c ≤ 9223372036854775807 := by
      rcases hown.2 with ⟨hv, _⟩ | ⟨g', cap', cur, hv, _, _, _, hm, _⟩
      · simp only [Value.slice.injEq] at hv; omega
      · simp only [Value.slice.injEq] at hv
        have := hm
        simp only [maxLen] at this
        omega
    rw [← hn] at hown
    obtain ⟨ob, hob⟩ : ∃ ob, ob = (Value.slice p i c).ownBlock := ⟨_, rfl⟩
    have HOB := Lib.hid hob
    rw [← hob]
    clear hes hes2 hnil hat hE hown hnb hfs hn hi hob hne
    go_enter Try.func68, Try.ntmps68
    go_wp2_with (at_builtin; refine wpList_append_own2 rfl (.tmp 23) (.tmp 24) 23 rfl base HE.out (.slice p i c) i fs rfl HOWN.out ⟨nb, 0, none⟩ 1 1 y.1 rfl hyl (fun j u hj => by rw [Addr.add_lit, Nat.zero_add]; exact HNB.out.cell j u hj) y.one (by simp only [maxLen]; omega) hbig hbase (by decide) ?_; intro v1 w1 own1 gr1 fr1; have O1 := Lib.hid own1; have G1 := Lib.hid gr1; have F1 := Lib.hid fr1; clear own1 gr1 fr1)
    all_goals
      go_ret
      obtain ⟨p1, m1, c1, rfl⟩ := own_sl O1.out
      exact ⟨_, _, _, rfl, O1.out, by rw [HOB.out]; exact G1.out, by rw [HOB.out]; exact F1.out⟩
  · have hlt : i < es.length := by omega
    rcases own_form hown with ⟨cap, rfl, h0⟩ | ⟨g, c, rfl⟩
    · omega
    · have hgb := (hown.lt g rfl)
      obtain ⟨_, hcn, _, _⟩ := own_cap hown
      have hne2 : nb ≠ g := fun e => hne (by rw [e]; rfl)
      have hb := own_blkC hown rfl
      have hd := hdC_of hown
      by_cases hroom : es.length + 1 ≤ c
      · refine (insShiftObject base g es.length c i nb es y w hb hd rfl hlt hroom hnb hne2).mono ?_
        rintro e w' ⟨rfl, rfl⟩
        refine ⟨_, _, _, rfl, ?_, ⟨?_, ?_, ?_, by rw [sets_size, sets_size]; exact Nat.le_refl _, fun q hq hr => ?_⟩, .inl rfl⟩
        · obtain ⟨b1, d1⟩ := BlkC.write (w := w.drew) hb hd (i + 1) (es.drop i) (by omega) (by rw [List.length_drop]; omega)
          have e1 : es.take (i + 1) ++ es.drop i ++ es.drop (i + 1 + (es.drop i).length) = es.take (i + 1) ++ es.drop i := by
            rw [show es.drop (i + 1 + (es.drop i).length) = [] from List.drop_eq_nil_of_le (by rw [List.length_drop]; omega), List.append_nil]
          rw [e1] at b1
          have l1 : (es.take (i + 1) ++ es.drop i).length = es.length + 1 := by rw [List.length_append, List.length_take, List.length_drop]; omega
          obtain ⟨b2, d2⟩ := BlkC.write b1 d1 i [y] (by omega) (by rw [List.length_singleton]; omega)
          have e2 : (es.take (i + 1) ++ es.drop i).take i ++ [y] ++ (es.take (i + 1) ++ es.drop i).drop (i + [y].length) = es.take i ++ y :: es.drop i := by
            rw [List.take_append_of_le_length (by rw [List.length_take]; omega), List.take_take, Nat.min_eq_left (by omega), List.length_singleton, List.drop_left' (by rw [List.length_take]; omega), List.append_assoc, List.singleton_append]
          rw [e2, List.flatMap_cons, List.flatMap_nil, List.append_nil] at b2
          rw [List.flatMap_cons, List.flatMap_nil, List.append_nil] at d2
          have l2 : (es.take i ++ y :: es.drop i).length = es.length + 1 := by rw [List.length_append, List.length_take, List.length_cons, List.length_drop]; omega
          have := own_of b2 d2 (by rw [l2]; exact hroom)
          rw [l2] at this

          exact this
        · have := below_sets y.1 (i * 19) _ (below_sets ((es.drop i).flatMap Subtype.val) ((i + 1) * 19) _ ((Below.refl base w).drew) g hgb.1) g hgb.1
          exact this.os
        · have := below_sets y.1 (i * 19) _ (below_sets ((es.drop i).flatMap Subtype.val) ((i + 1) * 19) _ ((Below.refl base w).drew) g hgb.1) g hgb.1
          exact this.tape
        · have := below_sets y.1 (i * 19) _ (below_sets ((es.drop i).flatMap Subtype.val) ((i + 1) * 19) _ ((Below.refl base w).drew) g hgb.1) g hgb.1
          exact this.output
        · have hqg : q ≠ g := fun e => hr (by rw [e]; rfl)
          rw [heap_sets _ _ _ _ q hqg, heap_sets _ _ _ _ q hqg]
          rfl
      · refine (insGrowObject base g es.length c i nb es y w hb rfl hlt hcn (by omega) hbig hnb hbase).mono ?_
        rintro e w' ⟨G, rfl, own, bel⟩
        exact ⟨_, _, _, rfl, own, ⟨bel.os, bel.tape, bel.output, bel.size, fun q hq _ => bel.block q hq⟩, .inr rfl⟩
theorem insSizeint : (Try.prog.info? 3).map (·.size) = some 1 := by kernel_rfl
theorem ovlint (w : World) (a b : Addr) (la ca lb cb : Nat) (hne : a.block ≠ b.block) (tA tB : TypeId) (kA kB : Nat)
    (hsa : w.shape? a.block = some (tA, kA)) (hsb : w.shape? b.block = some (tB, kB)) (hkB : kB ≠ 0)
    (hfa : w.frozen? a = false) (hfe : w.frozen? { block := a.block, off := kA } = false) : (callFunc 69 #[.slice (some a) la ca, .slice (some b) lb cb]).run Try.prog w = .ok (.value (.bool false)) w := by
  rw [run_callFunc_extern Try.func69 (by kernel_rfl) (by kernel_rfl) (by kernel_rfl) (e := Extern.SlicesOverlaps.overlaps #[24, 24] #[4]) (by kernel_rfl),
    Lib.run_overlaps_apart w 24 4 3 Try.underlying24 1 (fun w => by kernel_rfl) a b la ca lb cb hne tA tB kA kB hsa hsb hkB hfa hfe]
  rfl
set_option maxRecDepth 100000 in
set_option maxHeartbeats 2000000 in
theorem insShiftint (base g n c i nb : Nat) (es : List (Cl 1)) (y : Cl 1) (w : World) (hb : BlkC 1 3 w g es) (hh : HdC base 3 1 w g c) (hl : es.length = n) (hi : i < n) (hroom : n + 1 ≤ c) (hnb : Bx w nb 3 y.1) (hne : nb ≠ g) :
    Calls Try.prog 40 #[.slice (some ⟨g, 0, none⟩) n c, .int .i64 i, .slice (some ⟨nb, 0, none⟩) 1 1] w fun e w' => e = .returned (.slice (some ⟨g, 0, none⟩) (n + 1) c) ∧ w' = (w.drew.setCells g ((i + 1)) ((es.drop i).flatMap Subtype.val)).setCells g (i) y.1 := by
  obtain ⟨h0, hc63, cur, hg, hcs⟩ := hh
  have hdl : ((es.drop i).flatMap Subtype.val).length = (n - i) * 1 := by rw [flat_len Cl.len, List.length_drop, hl]
  have hin : ∀ j, j < (n + 1) * 1 → (w.cell? ⟨g, j, none⟩).isSome = true := fun j hj => by
    rw [cell_of_row _ _ j _ _ _ hg, Array.getElem?_eq_getElem (by rw [hcs]; exact Nat.lt_of_lt_of_le hj (Nat.mul_le_mul_right _ hroom))]
    rfl
  have hfz : ∀ j, w.frozen? ⟨g, j, none⟩ = false := fun j => hb.frozen j
  have hov : ∀ lb cb, (callFunc 69 #[.slice (some ⟨nb, 0, none⟩) 1 1, .slice (some ⟨g, (i + 1), none⟩) lb cb]).run Try.prog w = .ok (.value (.bool false)) w := fun lb cb =>
    ovlint w ⟨nb, 0, none⟩ ⟨g, (i + 1), none⟩ 1 1 lb cb hne 3 3 1 (c * 1) (by unfold Bx at hnb; simp [World.shape?, hnb, y.len]) (by simp [World.shape?, hg, hcs]) (by omega) (hnb.frozen 0) (hnb.frozen 1)
  obtain ⟨W1, hW1⟩ : ∃ W1, W1 = w.drew.setCells g ((i + 1)) ((es.drop i).flatMap Subtype.val) := ⟨_, rfl⟩
  have hcp1 : ∀ ty dc sc, (Builtin.copy_ #[24, 24] ty #[.slice (some ⟨g, (i + 1), none⟩) (n - i) dc, .slice (some ⟨g, i, none⟩) (n + 1 - i) sc]).run Try.prog w.drew = .ok (goInt (Nat.min (n + 1 - i) (n - i))) W1 := fun ty dc sc => by
    rw [hW1]
    refine run_copy_cellsK w.drew _ _ ty 3 1 g ((i + 1)) (n - i) dc ⟨g, i, none⟩ (n + 1 - i) sc _ Try.underlying24 insSizeint (by rw [hdl]; simp only [Nat.min_def]; split <;> congr 1 <;> omega)
      (fun j v hj => ?_) (fun j hj => hin _ (by rw [hdl] at hj; omega)) (fun j hj => hfz _) (fun u hu => by
        obtain ⟨x, _, hx⟩ := List.mem_flatMap.1 hu
        exact Cl.one x u hx)
    rw [Addr.add_lit]
    have hj1 := (List.getElem?_eq_some_iff.1 hj).1
    rw [hdl] at hj1
    have hq : j / 1 < (es.drop i).length := by rw [List.length_drop, hl]; omega
    have hg2 := flat_get (enc := Subtype.val) Cl.len (es.drop i) (j / 1) _ (List.getElem?_eq_getElem hq) (j % 1) (Nat.mod_lt _ (by decide))
    rw [show j / 1 * 1 + j % 1 = j by omega, hj] at hg2
    rw [List.getElem_drop] at hg2
    have := hb.cell (i + j / 1) _ (List.getElem?_eq_getElem (by rw [List.length_drop] at hq; omega)) (j % 1) v hg2.symm
    rw [show (i + j / 1) * 1 + j % 1 = i * 1 + j by omega] at this
    rw [Nat.mul_one] at this
    exact this
  have hsp1 : ∀ j, j < (n + 1) * 1 → (W1.cell? ⟨g, j, none⟩).isSome = true := fun j hj => by
    rw [hW1]
    exact isSome_setCells g ((es.drop i).flatMap Subtype.val) ((i + 1)) w.drew (fun t ht => hin ((i + 1) + t) (by rw [hdl] at ht; omega)) j (hin j hj)
  have hcp2 : ∀ (W : World), (∀ x, W.cell? x = W1.cell? x) → (∀ x, W.frozen? x = W1.frozen? x) → ∀ ty dc, (Builtin.copy_ #[24, 24] ty #[.slice (some ⟨g, i, none⟩) (n + 1 - i) dc, .slice (some ⟨nb, 0, none⟩) 1 1]).run Try.prog W = .ok (goInt (Nat.min 1 (n + 1 - i))) (W.setCells g (i) y.1) := fun W hWc hWf ty dc =>
    run_copy_cellsK W _ _ ty 3 1 g (i) (n + 1 - i) dc ⟨nb, 0, none⟩ 1 1 y.1 Try.underlying24 insSizeint (by rw [y.len, show Nat.min 1 (n + 1 - i) = 1 by simp only [Nat.min_def]; split <;> omega])
      (fun j v hj => by
        rw [Addr.add_lit, hWc, hW1, World.cell?_setCells_out g _ _ _ _ (fun h _ => absurd h hne), Nat.zero_add]
        exact hnb.cell j v hj)
      (fun j hj => by rw [hWc]; exact hsp1 _ (by rw [y.len] at hj; omega)) (fun j hj => by rw [hWf, hW1, World.frozen?_setCells]; exact hfz _) y.one
  rw [← hW1]
  have HCP1 := Lib.hid hcp1
  have HCP2 := Lib.hid hcp2
  have HOV := Lib.hid hov
  have hz2 : ((i : Int) == (n : Int)) = false := beq_eq_false_iff_ne.2 (by omega)
  have hz2' : ¬ ((i : Int) = (n : Int)) := by omega
  have hcm : c ≤ 9223372036854775807 := by have := hc63; simp only [maxLen] at this; omega
  have hz3 : ¬ ((c : Int) < (n : Int) + 1) := by omega
  have hw0 : (0 : Int) ≤ (i : Int) + 1 := by omega
  have hw1 : IntKind.i64.wrap ((i : Int) + 1) = (i : Int) + 1 := by rw [IntKind.wrap_i64]; omega
  have hw2 : IntKind.i64.wrap ((n : Int) + 1) = (n : Int) + 1 := by rw [IntKind.wrap_i64]; omega
  have hin2 : i ≤ n := by omega
  have hin3 : i + 1 ≤ n + 1 := by omega
  have hin4 : i ≤ n + 1 := by omega
  have hnc : n ≤ c := by omega
  have hb3 : (i : Int) ≤ (n : Int) + 1 := by omega
  have hb2 : ¬ (c = i + 1) := by omega
  have hb4 : ¬ (c = i) := by omega
  clear hin hfz hov hcp1 hcp2 hsp1 hW1 hdl hb hg hcs h0 hc63 hnb
  go_enter Try.func40, Try.ntmps40
  go_wp2_with (simp only [HOV.out])
  go_region_law (refine step_copy_runI rfl (.tmp 73) (.tmp 76) 24 24 rfl (.slice (some ⟨g, (i + 1), none⟩) (n - i) (c - (i + 1))) (.slice (some ⟨g, i, none⟩) (n + 1 - i) (c - i)) (by simp [Act.eval, Act.put]) (by simp [Act.eval, Act.put]) (HCP1.out _ _ _) ?_)
  have hq2 := HCP2.out W1 (fun _ => rfl) (fun _ => rfl)
  go_wp2_with fail
  go_ret
  exact ⟨rfl, rfl⟩
set_option maxRecDepth 100000 in
set_option maxHeartbeats 2000000 in
theorem insGrowint (base g n c i nb : Nat) (es : List (Cl 1)) (y : Cl 1) (w : World) (hb : BlkC 1 3 w g es) (hl : es.length = n) (hi : i < n) (hnc : n ≤ c) (hroom : c < n + 1) (hbig : (n + 1) * 8 ≤ 140737488355328) (hnb : Bx w nb 3 y.1) (hbase : base ≤ w.heap.size) :
    Calls Try.prog 40 #[.slice (some ⟨g, 0, none⟩) n c, .int .i64 i, .slice (some ⟨nb, 0, none⟩) 1 1] w fun e w' => ∃ G, e = .returned (.slice (some ⟨w.heap.size, 0, none⟩) (n + 1) G) ∧ w'.ownsRow base 3 1 (.slice (some ⟨w.heap.size, 0, none⟩) (n + 1) G) (n + 1) ((es.take i ++ y :: es.drop i).flatMap Subtype.val) ∧ Below w.heap.size w w' := by
  obtain ⟨z, ht, hzs, hsz, i0, hi0, hz0, hs0, hby0⟩ := elemint
  have hgw := hb.lt
  have hnw := hnb.lt
  have hdl : ((es.drop i).flatMap Subtype.val).length = (n - i) * 1 := by rw [flat_len Cl.len, List.length_drop, hl]
  have htl : ((es.take i).flatMap Subtype.val).length = i * 1 := by rw [flat_len Cl.len, List.length_take, hl, Nat.min_eq_left (by omega)]
  have hkk : (n : Int) + 1 - (i : Int) = ((n + 1 - i : Nat) : Int) := by omega
  have hik : i + (n + 1 - i) = n + 1 := by omega
  have srcG : ∀ j v, (es.flatMap Subtype.val)[j]? = some v → w.cell? ⟨g, j, none⟩ = some v := fun j v hj => by
    have hj1 := (List.getElem?_eq_some_iff.1 hj).1
    rw [flat_len Cl.len, hl] at hj1
    have hq : j / 1 < es.length := by rw [hl]; omega
    have hg2 := flat_get (enc := Subtype.val) Cl.len es (j / 1) _ (List.getElem?_eq_getElem hq) (j % 1) (Nat.mod_lt _ (by decide))
    rw [show j / 1 * 1 + j % 1 = j by omega, hj] at hg2
    have := hb.cell (j / 1) _ (List.getElem?_eq_getElem hq) (j % 1) v hg2.symm
    rw [show j / 1 * 1 + j % 1 = j by omega] at this
    exact this
  have hsplit : es.flatMap Subtype.val = (es.take i).flatMap Subtype.val ++ (es.drop i).flatMap Subtype.val := by rw [← List.flatMap_append, List.take_append_drop]
  have hold : (Builtin.firstCells i0.size i (.slice (some ⟨g, 0, none⟩) i c)).run Try.prog w.drew = .ok ((es.take i).flatMap Subtype.val).toArray w.drew := by
    rw [hs0]
    exact run_firstCells_some w.drew 1 i ⟨g, 0, none⟩ i c _ htl (fun j v hj => by
      rw [Addr.add_lit, Nat.zero_add]
      refine srcG j v ?_
      rw [hsplit, List.getElem?_append_left (List.getElem?_eq_some_iff.1 hj).1]
      exact hj)
  have hrz : ∀ ty, (Builtin.append_ #[24, 3] ty #[.slice (some ⟨g, 0, none⟩) i c, .int .i64 ((n : Int) + 1 - (i : Int))]).run Try.prog w =
      .ok (.slice (some ⟨w.heap.size, 0, none⟩) (n + 1) (grownCap w (n + 1) c 3)) (w.drew.alloc (.cells (((es.take i).flatMap Subtype.val).toArray ++ Builtin.zeroCells z.cells (n + 1 - i) ++ Builtin.zeroCells z.cells (grownCap w (n + 1) c 3 - (n + 1))) 3)) := fun ty => by
    have h := Lib.run_append_grow_zeros w 24 3 ty 3 i0 _ .i64 .i64 ht Try.underlying3 hi0 hz0 (some ⟨g, 0, none⟩) i c _ hold (n + 1 - i) (by omega) (by omega) (by omega) (by omega) (by rw [hby0]; omega) (by rw [hby0, hik]; exact growslice_fits hroom hbig)
    rw [hik] at h
    rw [hkk]
    exact h
  obtain ⟨G, hG⟩ : ∃ G, G = grownCap w (n + 1) c 3 := ⟨_, rfl⟩
  have hGn : n + 1 ≤ G := by rw [hG]; exact grownCap_ge w _ _ _
  have hGm : G ≤ maxLen := by rw [hG]; exact grownCap_le_maxLen w (n + 1) c 3 (by unfold maxLen; omega)
  obtain ⟨ROW, hROW⟩ : ∃ ROW : Array Value, ROW = ((es.take i).flatMap Subtype.val).toArray ++ Builtin.zeroCells z.cells (n + 1 - i) ++ Builtin.zeroCells z.cells (G - (n + 1)) := ⟨_, rfl⟩
  rw [← hG, ← hROW] at hrz
  have hRl : ROW.size = G * 1 := by
    rw [hROW, Array.size_append, Array.size_append, size_zeroCells, size_zeroCells, hzs, List.size_toArray, htl]
    omega
  obtain ⟨W1, hW1⟩ : ∃ W1, W1 = w.drew.alloc (.cells ROW 3) := ⟨_, rfl⟩
  rw [← hW1] at hrz
  have hrow : W1.heap[w.heap.size]? = some (.cells ROW 3 (0, 0)) := by rw [hW1]; exact heap_alloc_new w.drew _
  have hN : ∀ j, j < (n + 1) * 1 → (W1.cell? ⟨w.heap.size, j, none⟩).isSome = true := fun j hj => by
    rw [cell_of_row _ _ j _ _ _ hrow, Array.getElem?_eq_getElem (by rw [hRl]; exact Nat.lt_of_lt_of_le hj (Nat.mul_le_mul_right _ hGn))]
    rfl
  have hNf : ∀ j, W1.frozen? ⟨w.heap.size, j, none⟩ = false := fun j => by simp [World.frozen?, hrow]
  have hOld : ∀ b, b < w.heap.size → W1.heap[b]? = w.heap[b]? := fun b hlt => by rw [hW1]; exact heap_alloc_old w.drew _ hlt
  have hcpA : ∀ ty dc, (Builtin.copy_ #[24, 24] ty #[.slice (some ⟨w.heap.size, i, none⟩) (n + 1 - i) dc, .slice (some ⟨nb, 0, none⟩) 1 1]).run Try.prog W1 = .ok (goInt (Nat.min 1 (n + 1 - i))) (W1.setCells w.heap.size (i) y.1) := fun ty dc =>
    run_copy_cellsK W1 _ _ ty 3 1 w.heap.size (i) (n + 1 - i) dc ⟨nb, 0, none⟩ 1 1 y.1 Try.underlying24 insSizeint (by rw [y.len, show Nat.min 1 (n + 1 - i) = 1 by simp only [Nat.min_def]; split <;> omega])
      (fun j v hj => by
        rw [Addr.add_lit, Nat.zero_add]
        exact (World.cell?_of_block (a := ⟨nb, j, none⟩) (hOld nb hnw)).trans (hnb.cell j v hj))
      (fun j hj => hN _ (by rw [y.len] at hj; omega)) (fun j hj => hNf _) y.one
  obtain ⟨W2, hW2⟩ : ∃ W2, W2 = W1.setCells w.heap.size (i) y.1 := ⟨_, rfl⟩
  rw [← hW2] at hcpA
  have hcpB : ∀ ty dc sc, (Builtin.copy_ #[24, 24] ty #[.slice (some ⟨w.heap.size, (i + 1), none⟩) (n - i) dc, .slice (some ⟨g, i, none⟩) (n - i) sc]).run Try.prog W2.drew = .ok (goInt (Nat.min (n - i) (n - i))) (W2.drew.setCells w.heap.size ((i + 1)) ((es.drop i).flatMap Subtype.val)) := fun ty dc sc =>
    run_copy_cellsK W2.drew _ _ ty 3 1 w.heap.size ((i + 1)) (n - i) dc ⟨g, i, none⟩ (n - i) sc _ Try.underlying24 insSizeint (by rw [hdl, show Nat.min (n - i) (n - i) = n - i from Nat.min_self _])
      (fun j v hj => by
        rw [Addr.add_lit]
        have e1 : W2.heap[g]? = w.heap[g]? := by rw [hW2, heap_sets _ _ _ _ g (by omega)]; exact hOld g hgw
        refine (World.cell?_of_block (w := w) (w' := W2.drew) (a := ⟨g, i + j, none⟩) e1).trans (srcG (i + j) v ?_)
        rw [hsplit, List.getElem?_append_right (by rw [htl]; omega), htl, show i + j - i * 1 = j by omega]
        exact hj)
      (fun j hj => by
        show (W2.cell? _).isSome = true
        rw [hW2]
        exact isSome_setCells w.heap.size y.1 (i) W1 (fun t ht => hN (i + t) (by rw [y.len] at ht; omega)) _ (hN _ (by rw [hdl] at hj; omega)))
      (fun j hj => by
        show W2.frozen? _ = false
        rw [hW2, World.frozen?_setCells]
        exact hNf _) (fun u hu => by
        obtain ⟨x, _, hx⟩ := List.mem_flatMap.1 hu
        exact Cl.one x u hx)
  have HF := Lib.hid (show (W2.drew.setCells w.heap.size ((i + 1)) ((es.drop i).flatMap Subtype.val)).ownsRow base 3 1 (.slice (some ⟨w.heap.size, 0, none⟩) (n + 1) G) (n + 1) ((es.take i ++ y :: es.drop i).flatMap Subtype.val) ∧ Below w.heap.size w (W2.drew.setCells w.heap.size ((i + 1)) ((es.drop i).flatMap Subtype.val)) by
    have hd : HdC base 3 1 W1 w.heap.size G := ⟨hbase, hGm, ROW, hrow, hRl⟩
    have htl2 : (es.take i).length = i := by rw [List.length_take, hl, Nat.min_eq_left (by omega)]
    have b1 : BlkC 1 3 W1 w.heap.size (es.take i) := ⟨ROW, hrow, by rw [hRl, htl2]; exact Nat.mul_le_mul_right _ (by omega), fun j x hj q u hu => by
      have hq : q < 1 := by have := (List.getElem?_eq_some_iff.1 hu).1; rwa [Cl.len] at this
      have hjl := (List.getElem?_eq_some_iff.1 hj).1
      rw [htl2] at hjl
      have := flat_get (enc := Subtype.val) Cl.len (es.take i) j x hj q hq
      rw [hROW, Array.append_assoc, Array.getElem?_append_left (by rw [List.size_toArray, htl]; omega), List.getElem?_toArray, this]
      exact hu⟩
    obtain ⟨b2, d2⟩ := BlkC.write b1 hd i [y] (by rw [htl2]; exact Nat.le_refl _) (by rw [List.length_singleton]; omega)
    rw [List.flatMap_cons, List.flatMap_nil, List.append_nil] at b2 d2
    have e2 : (es.take i).take i ++ [y] ++ (es.take i).drop (i + [y].length) = es.take i ++ [y] := by
      rw [List.take_of_length_le (by omega), List.drop_eq_nil_of_le (by rw [htl2]; omega), List.append_nil]
    rw [e2] at b2
    have hl3 : (es.take i ++ [y]).length = i + 1 := by rw [List.length_append, htl2, List.length_singleton]
    obtain ⟨b3, d3⟩ := BlkC.write (w := W2.drew) (es := es.take i ++ [y]) (by rw [hW2]; rw [Nat.mul_one] at b2; exact b2) (by rw [hW2]; rw [Nat.mul_one] at d2; exact d2) (i + 1) (es.drop i) (by rw [hl3]; exact Nat.le_refl _) (by rw [List.length_drop, hl]; omega)
    have e3 : (es.take i ++ [y]).take (i + 1) ++ es.drop i ++ (es.take i ++ [y]).drop (i + 1 + (es.drop i).length) = es.take i ++ y :: es.drop i := by
      rw [show (es.take i ++ [y]).take (i + 1) = es.take i ++ [y] from List.take_of_length_le (by omega), show (es.take i ++ [y]).drop (i + 1 + (es.drop i).length) = [] from List.drop_eq_nil_of_le (by rw [hl3]; omega), List.append_nil, List.append_assoc, List.singleton_append]
    rw [e3] at b3
    have hl4 : (es.take i ++ y :: es.drop i).length = n + 1 := by rw [List.length_append, htl2, List.length_cons, List.length_drop, hl]; omega
    refine ⟨?_, ?_⟩
    · have := own_of b3 d3 (by rw [hl4]; exact hGn)
      rw [hl4] at this
      rw [Nat.mul_one] at this
      exact this
    · refine below_sets _ _ _ ?_ _ (Nat.le_refl _)
      show Below w.heap.size w W2.drew
      rw [hW2]
      refine Below.drew (below_sets _ _ _ ?_ _ (Nat.le_refl _))
      rw [hW1]
      exact ((Below.refl w.heap.size w).drew).alloc (Nat.le_refl _) _)
  have hGi : ¬ (G = i) := by omega
  have hGim : ¬ (G = i + 1) := by omega
  have hci : ¬ (c = i) := by omega
  have hG63 : G ≤ 9223372036854775807 := by have := hGm; simp only [maxLen] at this; omega
  have hz2 : ((i : Int) == (n : Int)) = false := beq_eq_false_iff_ne.2 (by omega)
  have hz2' : ¬ ((i : Int) = (n : Int)) := by omega
  have hz3 : (c : Int) < (n : Int) + 1 := by omega
  have hw0 : (0 : Int) ≤ (i : Int) + 1 := by omega
  have hw1 : IntKind.i64.wrap ((i : Int) + 1) = (i : Int) + 1 := by rw [IntKind.wrap_i64]; omega
  have hw2 : IntKind.i64.wrap ((n : Int) + 1) = (n : Int) + 1 := by rw [IntKind.wrap_i64]; omega
  have hw3 : IntKind.i64.wrap ((n : Int) + 1 - (i : Int)) = (n : Int) + 1 - (i : Int) := by rw [IntKind.wrap_i64]; omega
  have hin : i ≤ n := by omega
  have hic : i ≤ c := by omega
  have hin4 : i ≤ n + 1 := by omega
  have hin3 : i + 1 ≤ n + 1 := by omega
  have hb3 : (i : Int) ≤ (n : Int) + 1 := by omega
  have hb5 : (i : Int) ≤ (n : Int) := by omega
  have HRZ := Lib.hid hrz
  have HCPB := Lib.hid hcpB
  clear hrz hcpB hROW hRl hrow hN hNf hOld hW1 hW2 hdl htl hkk hik srcG hsplit hold hG hGm hb hnb hz0 hi0 ht hzs hsz hs0 hby0
  go_enter Try.func40, Try.ntmps40
  go_wp2_with (at_builtin; refine Lib.wpList_append_run _ rfl _ _ _ _ rfl _ _ rfl rfl _ _ (HRZ.out _) ?_)
  go_region_law (refine step_copy_runI rfl (.tmp 50) (.tmp 53) 24 24 rfl (.slice (some ⟨w.heap.size, (i + 1), none⟩) (n - i) (G - (i + 1))) (.slice (some ⟨g, i, none⟩) (n - i) (c - i)) (by simp [Act.eval, Act.put]) (by simp [Act.eval, Act.put]) (HCPB.out _ _ _) ?_)
  go_wp2_with fail
  go_ret
  exact ⟨G, rfl, HF.out⟩
set_option maxRecDepth 100000 in
set_option maxHeartbeats 2000000 in
theorem insertint (base : Nat) (v : Value) (es : List (Cl 1)) (i nb : Nat) (y : Cl 1) (w : World) (hown : w.ownsRow base 3 1 v es.length (es.flatMap Subtype.val)) (hi : i ≤ es.length) (hbig : (es.length + 1) * 8 ≤ 140737488355328) (hnb : Bx w nb 3 y.1) (hne : v.ownBlock ≠ some nb) (hbase : base ≤ w.heap.size) :
    Calls Try.prog 40 #[v, .int .i64 i, .slice (some ⟨nb, 0, none⟩) 1 1] w fun e w' => ∃ ao m c, e = .returned (.slice ao m c) ∧ w'.ownsRow base 3 1 (.slice ao m c) (es.length + 1) ((es.take i ++ y :: es.drop i).flatMap Subtype.val) ∧ w.grownBy w' v.ownBlock ∧ ((Value.slice ao m c).ownBlock = v.ownBlock ∨ (Value.slice ao m c).ownBlock = some w.heap.size) := by
  by_cases hend : i = es.length
  · obtain ⟨z, hE⟩ := elemint
    have HE := Lib.hid hE
    have HOWN := Lib.hid hown
    have HNB := Lib.hid hnb
    obtain ⟨n, hn⟩ : ∃ n, n = es.length := ⟨_, rfl⟩
    obtain ⟨p, m, c, rfl⟩ := own_sl hown
    obtain ⟨hmn, hcn, hnil, hat⟩ := own_cap hown
    subst hmn
    rw [← hn] at HOWN hcn hbig hend ⊢
    subst hend
    have hyl : y.1.length = 1 * 1 := by rw [y.len]
    have hes : es.take i = es := List.take_of_length_le (by omega)
    have hes2 : es.drop i = [] := List.drop_eq_nil_of_le (by omega)
    rw [hes, hes2, List.flatMap_append, List.flatMap_cons, List.flatMap_nil, List.append_nil]
    obtain ⟨fs, hfs⟩ : ∃ fs, fs = es.flatMap Subtype.val := ⟨_, rfl⟩
    rw [← hfs] at HOWN ⊢
    have hc63 : c ≤ 9223372036854775807 := by
      rcases hown.2 with ⟨hv, _⟩ | ⟨g', cap', cur, hv, _, _, _, hm, _⟩
      · simp only [Value.slice.injEq] at hv; omega
      · simp only [Value.slice.injEq] at hv
        have := hm
        simp only [maxLen] at this
        omega
    rw [← hn] at hown
    obtain ⟨ob, hob⟩ : ∃ ob, ob = (Value.slice p i c).ownBlock := ⟨_, rfl⟩
    have HOB := Lib.hid hob
    rw [← hob]
    clear hes hes2 hnil hat hE hown hnb hfs hn hi hob hne
    go_enter Try.func40, Try.ntmps40
    go_wp2_with (at_builtin; refine wpList_append_own2 rfl (.tmp 23) (.tmp 24) 24 rfl base HE.out (.slice p i c) i fs rfl HOWN.out ⟨nb, 0, none⟩ 1 1 y.1 rfl hyl (fun j u hj => by rw [Addr.add_lit, Nat.zero_add]; exact HNB.out.cell j u hj) y.one (by simp only [maxLen]; omega) hbig hbase (by decide) ?_; intro v1 w1 own1 gr1 fr1; have O1 := Lib.hid own1; have G1 := Lib.hid gr1; have F1 := Lib.hid fr1; clear own1 gr1 fr1)
    all_goals
      go_ret
      obtain ⟨p1, m1, c1, rfl⟩ := own_sl O1.out
      exact ⟨_, _, _, rfl, O1.out, by rw [HOB.out]; exact G1.out, by rw [HOB.out]; exact F1.out⟩
  · have hlt : i < es.length := by omega
    rcases own_form hown with ⟨cap, rfl, h0⟩ | ⟨g, c, rfl⟩
    · omega
    · have hgb := (hown.lt g rfl)
      obtain ⟨_, hcn, _, _⟩ := own_cap hown
      have hne2 : nb ≠ g := fun e => hne (by rw [e]; rfl)
      have hb := own_blkC hown rfl
      have hd := hdC_of hown
      by_cases hroom : es.length + 1 ≤ c
      · refine (insShiftint base g es.length c i nb es y w hb hd rfl hlt hroom hnb hne2).mono ?_
        rintro e w' ⟨rfl, rfl⟩
        refine ⟨_, _, _, rfl, ?_, ⟨?_, ?_, ?_, by rw [sets_size, sets_size]; exact Nat.le_refl _, fun q hq hr => ?_⟩, .inl rfl⟩
        · obtain ⟨b1, d1⟩ := BlkC.write (w := w.drew) hb hd (i + 1) (es.drop i) (by omega) (by rw [List.length_drop]; omega)
          have e1 : es.take (i + 1) ++ es.drop i ++ es.drop (i + 1 + (es.drop i).length) = es.take (i + 1) ++ es.drop i := by
            rw [show es.drop (i + 1 + (es.drop i).length) = [] from List.drop_eq_nil_of_le (by rw [List.length_drop]; omega), List.append_nil]
          rw [e1] at b1
          have l1 : (es.take (i + 1) ++ es.drop i).length = es.length + 1 := by rw [List.length_append, List.length_take, List.length_drop]; omega
          obtain ⟨b2, d2⟩ := BlkC.write b1 d1 i [y] (by omega) (by rw [List.length_singleton]; omega)
          have e2 : (es.take (i + 1) ++ es.drop i).take i ++ [y] ++ (es.take (i + 1) ++ es.drop i).drop (i + [y].length) = es.take i ++ y :: es.drop i := by
            rw [List.take_append_of_le_length (by rw [List.length_take]; omega), List.take_take, Nat.min_eq_left (by omega), List.length_singleton, List.drop_left' (by rw [List.length_take]; omega), List.append_assoc, List.singleton_append]
          rw [e2, List.flatMap_cons, List.flatMap_nil, List.append_nil] at b2
          rw [List.flatMap_cons, List.flatMap_nil, List.append_nil] at d2
          have l2 : (es.take i ++ y :: es.drop i).length = es.length + 1 := by rw [List.length_append, List.length_take, List.length_cons, List.length_drop]; omega
          have := own_of b2 d2 (by rw [l2]; exact hroom)
          rw [l2] at this
          simp only [Nat.mul_one] at this
          exact this
        · have := below_sets y.1 (i) _ (below_sets ((es.drop i).flatMap Subtype.val) ((i + 1)) _ ((Below.refl base w).drew) g hgb.1) g hgb.1
          exact this.os
        · have := below_sets y.1 (i) _ (below_sets ((es.drop i).flatMap Subtype.val) ((i + 1)) _ ((Below.refl base w).drew) g hgb.1) g hgb.1
          exact this.tape
        · have := below_sets y.1 (i) _ (below_sets ((es.drop i).flatMap Subtype.val) ((i + 1)) _ ((Below.refl base w).drew) g hgb.1) g hgb.1
          exact this.output
        · have hqg : q ≠ g := fun e => hr (by rw [e]; rfl)
          rw [heap_sets _ _ _ _ q hqg, heap_sets _ _ _ _ q hqg]
          rfl
      · refine (insGrowint base g es.length c i nb es y w hb rfl hlt hcn (by omega) hbig hnb hbase).mono ?_
        rintro e w' ⟨G, rfl, own, bel⟩
        exact ⟨_, _, _, rfl, own, ⟨bel.os, bel.tape, bel.output, bel.size, fun q hq _ => bel.block q hq⟩, .inr rfl⟩
end Go.Proofs.Ytiebjkbofoppaaa
