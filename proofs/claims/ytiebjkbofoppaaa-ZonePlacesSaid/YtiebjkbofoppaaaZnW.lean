/- Chapter 25: place, Find, List of the program. -/
import Derived.Test.YtiebjkbofoppaaaZnV
namespace Go.Proofs.Ytiebjkbofoppaaa
open Go Go.RowKit Go.Sort Cg
def isId (id : Int) (o : List D) : Bool := dint o 0 == id
set_option maxHeartbeats 2000000 in
theorem place_prog (F : Nat → Prop) (L : Nat) (cs : List Value) (ds : List D) (id : Int) (w : World) (h : RdL F L w kState cs ds) (hL : L ≤ 140737488355328) :
    Calls Try.prog 49 #[.agg cs.toArray, .int .i64 id] w fun e w' => e = .returned (.int .i64 (fidx (fun o => dint o 0 == id) (dxs ds 1))) ∧ Below w.heap.size w w' := by
  obtain ⟨v1, hv1, _, r1⟩ := h.sl 1 _ _ rfl
  obtain ⟨W0, hW0⟩ : ∃ W, W = (w.alloc (.cells cs.toArray 30)).alloc (.cells #[.int .i64 id] 3) := ⟨_, rfl⟩
  have hsz : (w.alloc (.cells cs.toArray 30)).heap.size = w.heap.size + 1 := by simp
  have bx : Bx W0 w.heap.size 30 cs := by rw [hW0]; exact (Bx.new _ _ _).old ((Below.refl _ _).alloc (Nat.le_refl _) _)
  have B0 := Lib.hid (show Below w.heap.size w W0 by rw [hW0]; exact ((Below.refl w.heap.size w).alloc (Nat.le_refl _) _).alloc (by rw [hsz]; omega) _)
  have c0 := bx.cell 1 v1 hv1
  have ci : W0.cell? ⟨w.heap.size + 1, 0, none⟩ = some (.int .i64 id) := by
    rw [hW0, ← hsz]
    exact cell_of_row _ _ 0 _ _ _ (heap_alloc_new _ _)
  have HI := Lib.hid (idx_place F L v1 (dxs ds 1) id (w.heap.size + 1) W0 (r1.old B0.out) hL ci)
  have HW0 := Lib.hid hW0
  rw [hW0] at c0
  clear hW0 bx ci r1 hsz h
  go_enter Try.func49, Try.ntmps49
  go_wp2_with fail
  rw [← HW0.out]
  refine HI.out.mono ?_
  rintro e w1 ⟨rfl, b1⟩
  have B1 := Lib.hid b1
  clear b1
  go_wp2_with fail
  go_ret
  exact ⟨rfl, B0.out.trans (B1.out.mono B0.out.size)⟩
def zD : List D := zObjC.1.map .lit
/-- The object with an id, or a blank one. -/
def findO (id : Int) (xs : List (List D)) : List D := (xs.find? (fun o => dint o 0 == id)).getD zD
def hasO (id : Int) (xs : List (List D)) : Bool := (xs.find? (fun o => dint o 0 == id)).isSome
theorem fidx_find {α : Type} (p : α → Bool) (xs : List α) : (fidx p xs = -1 ∧ xs.find? p = none) ∨ ∃ i : Nat, fidx p xs = i ∧ ∃ h : i < xs.length, xs.find? p = some xs[i] := by
  unfold fidx
  cases h : xs.findIdx? p with
  | none => exact .inl ⟨rfl, List.find?_eq_none.2 (fun x hx => by rw [List.findIdx?_eq_none_iff.1 h x hx]; simp)⟩
  | some i =>
    obtain ⟨h1, h2, h3⟩ := List.findIdx?_eq_some_iff_getElem.1 h
    refine .inr ⟨i, rfl, h1, ?_⟩
    rw [List.find?_eq_some_iff_append]
    refine ⟨h2, xs.take i, xs.drop (i + 1), by rw [List.getElem_cons_drop, List.take_append_drop], fun a ha => ?_⟩
    obtain ⟨j, hj, rfl⟩ := List.getElem_of_mem ha
    rw [List.length_take] at hj
    have := h3 j (by omega)
    rw [List.getElem_take]
    simpa using this
theorem zObj_rd (w : World) : RdL (fun _ => False) 0 w kObject zObjC.1 zD := by
  have key : ∀ (ks : List K) (vs : List Value), (List.zip ks vs).all (fun p => match p.1, p.2 with
      | .lit .int, .int .i64 _ => true
      | .lit .bool, .bool _ => true
      | _, _ => false) = true → ks.length = vs.length → RdL (fun _ => False) 0 w ks vs (vs.map .lit) := by
    intro ks
    induction ks with
    | nil => intro vs _ hl; match vs, hl with
      | [], _ => exact .nil
    | cons k ks ih =>
      intro vs hall hl
      match vs, hl with
      | v :: vs, hl =>
        simp only [List.zip_cons_cons, List.all_cons, Bool.and_eq_true] at hall
        refine .cons ?_ (ih vs hall.2 (by simpa using hl))
        have h1 := hall.1
        match k, v, h1 with
        | .lit .int, .int .i64 n, _ => exact .lit ⟨n, rfl⟩
        | .lit .bool, .bool b, _ => exact .lit ⟨b, rfl⟩
  exact key kObject zObjC.1 (by decide) (by decide)
/-- Two results: a struct's variable and a slot. -/
theorem results_cs2 {fn : Func} {t u : Tmp} {ty : TypeId} (hr : fn.results = #[.cell t ty, .tmp u]) {tmps : Array Value} {w : World} (b : Nat) (ht : tmps.getD t undef = .pointer (some ⟨b, 0, none⟩)) (v : Value) (hv : tmps.getD u undef = v) (cs : List Value) (d : TypeDesc) (hc : w.rangeAt b 0 cs) (hu : Try.prog.underlying ty = some d) (hd : d.isRow = true) (hi : (Try.prog.info? ty).map (·.size) = some cs.length) :
    (results fn tmps).run Try.prog w = .ok (.tuple #[.agg cs.toArray, v]) w := by
  unfold results
  rw [hr]
  rw [Array.getD_eq_getD_getElem?] at ht hv
  simp [ht, hv, asAddr, run_loadVar_mid w b 0 ty cs d hc hu hd hi]
set_option maxRecDepth 100000 in
set_option maxHeartbeats 4000000 in
theorem find_prog (F : Nat → Prop) (L : Nat) (cs : List Value) (ds : List D) (id : Int) (w : World) (h : RdL F L w kState cs ds) (hL : L ≤ 140737488355328) :
    Calls Try.prog 20 #[.agg cs.toArray, .int .i64 id] w fun e w' => ∃ oc, e = .returned (.tuple #[.agg oc.toArray, .bool (hasO id (dxs ds 1))]) ∧ RdL (fun _ => False) 0 w' kObject oc (findO id (dxs ds 1)) ∧ Below w.heap.size w w' := by
  have hl := h.len.1
  rw [kState_len] at hl
  obtain ⟨v1, hv1, _, r1⟩ := h.sl 1 _ _ rfl
  obtain ⟨W0, hW0⟩ : ∃ W, W = (w.alloc (.cells cs.toArray 30)).alloc (.cells zObjC.1.toArray 47) := ⟨_, rfl⟩
  have hsz : (w.alloc (.cells cs.toArray 30)).heap.size = w.heap.size + 1 := by simp
  have bx : Bx W0 w.heap.size 30 cs := by rw [hW0]; exact (Bx.new _ _ _).old ((Below.refl _ _).alloc (Nat.le_refl _) _)
  have br : Bx W0 (w.heap.size + 1) 47 zObjC.1 := by rw [hW0, ← hsz]; exact Bx.new _ _ _
  have B0 := Lib.hid (show Below w.heap.size w W0 by rw [hW0]; exact ((Below.refl w.heap.size w).alloc (Nat.le_refl _) _).alloc (by rw [hsz]; omega) _)
  have RG := Lib.hid (show ((w.alloc (.cells cs.toArray 30)).alloc (.cells #[.int .i64 0, .int .i64 0, .int .i64 0, .int .i64 0, .int .i64 0, .bool false, .bool false, .bool false, .bool false, .int .i64 0, .int .i64 0, .int .i64 0, .int .i64 0, .int .i64 0, .int .i64 0, .int .i64 0, .bool false, .int .i64 0, .int .i64 0] 47)).rangeAt w.heap.size 0 cs from (by rw [hW0] at bx; exact bx.range))
  have HI := Lib.hid (show (Try.prog.info? 30).map (·.size) = some cs.length by rw [infoState, hl])
  have HP := Lib.hid (place_prog F L cs ds id W0 (h.old B0.out) hL)
  have BX := Lib.hid bx
  have BR := Lib.hid br
  have R1 := Lib.hid r1
  have HV1 := Lib.hid hv1
  have HW0 := Lib.hid (show W0 = (w.alloc (.cells cs.toArray 30)).alloc (.cells #[.int .i64 0, .int .i64 0, .int .i64 0, .int .i64 0, .int .i64 0, .bool false, .bool false, .bool false, .bool false, .int .i64 0, .int .i64 0, .int .i64 0, .int .i64 0, .int .i64 0, .int .i64 0, .int .i64 0, .bool false, .int .i64 0, .int .i64 0] 47) from hW0)
  clear hW0 bx br r1 hsz h hv1 hl
  rcases fidx_find (fun o => dint o 0 == id) (dxs ds 1) with ⟨hm, hf⟩ | ⟨i, hm, hi, hf⟩
  · rw [hm] at HP
    have hv : hasO id (dxs ds 1) = false ∧ findO id (dxs ds 1) = zD := by unfold hasO findO; rw [hf]; exact ⟨rfl, rfl⟩
    rw [hv.1, hv.2]
    clear hm hf hv
    go_enter Try.func20, Try.ntmps20
    go_wp2_with (with_reducible refine wpList_load_mid rfl 30 (.tmp 2) rfl w.heap.size 0 ?_ cs _ RG.out Try.underlying30 rfl HI.out ?_; simp [Act.eval])
    rw [← HW0.out]
    refine HP.out.mono ?_
    rintro e w1 ⟨rfl, b1⟩
    have B1 := Lib.hid b1
    have br1 := BR.out.old b1
    have HT := Lib.hid (show w1.there (w.heap.size + 1) 0 zObjC.1.toArray.size from br1.there)
    have HZ := Lib.hid (show (Try.prog.info? 47).map (·.size) = some zObjC.1.toArray.size from infoObject)
    have HO := Lib.hid (show zObjC.1.toArray.all (·.oneCell') = true from all_oneCell_toArray zObjC.one)
    have BR2 := Lib.hid (br1.setAll zObjC.1 rfl)
    clear b1 br1
    go_wp2_with (refine wpList_store_mid rfl 47 (.tmp 4) (.tmp 12) rfl (w.heap.size + 1) 0 zObjC.1.toArray ?_ ?_ HT.out HZ.out HO.out ?_; rfl; rfl)
    refine bodyPost_ret (results_cs2 Try.results20 (w.heap.size + 1) ?_ (.bool false) ?_ zObjC.1 _ (Bx.range BR2.out) Try.underlying47 rfl infoObject) rfl ?_
    · rfl
    · rfl
    · exact ⟨zObjC.1, rfl, zObj_rd _, below_sets zObjC.1 0 w1 (B0.out.trans (B1.out.mono B0.out.size)) (w.heap.size + 1) (by omega)⟩
  · rw [hm] at HP
    have hv : hasO id (dxs ds 1) = true ∧ findO id (dxs ds 1) = (dxs ds 1)[i] := by unfold hasO findO; rw [hf]; exact ⟨rfl, rfl⟩
    rw [hv.1, hv.2]
    obtain ⟨ao, cap, rfl, hcap, hby, hnn, hx⟩ := R1.out.form
    rcases hx with hx | ⟨b, o, rfl, hF, hbl, hE⟩
    · rw [hx] at hi; simp at hi
    have hi63 : (dxs ds 1).length ≤ 1000000000000000000 := by omega
    clear hm hf hv hcap hnn
    go_enter Try.func20, Try.ntmps20
    go_wp2_with (with_reducible refine wpList_load_mid rfl 30 (.tmp 2) rfl w.heap.size 0 ?_ cs _ RG.out Try.underlying30 rfl HI.out ?_; simp [Act.eval])
    rw [← HW0.out]
    refine HP.out.mono ?_
    rintro e w1 ⟨rfl, b1⟩
    have B1 := Lib.hid b1
    have br1 := BR.out.old b1
    have c1 := (BX.out.old b1).cell 1 _ HV1.out
    have bel1 := B0.out.trans (b1.mono B0.out.size)
    obtain ⟨vs, hvs, hrd⟩ := (hE.frame (Nat.le_refl _) bel1.size (fun b _ hlt => bel1.block b hlt) (fun _ h _ => h) hF hbl).get i _ (List.getElem?_eq_getElem hi)
    rw [kObject_len] at hvs
    have hvl := hrd.len.1
    rw [kObject_len] at hvl
    have RV := Lib.hid (show w1.rangeAt b (o + i * 19) vs from hvs)
    have HIV := Lib.hid (show (Try.prog.info? 47).map (·.size) = some vs.length by rw [infoObject, hvl])
    have hst := store_cs w1 (w.heap.size + 1) vs (by rw [hvl]; exact br1.there) hrd.one
    have BR2 := Lib.hid (br1.setAll vs (by rw [hvl]; rfl))
    have HRD := Lib.hid hrd
    have HVL := Lib.hid hvl
    have HBL := Lib.hid bel1
    clear b1 br1 hrd hvs hvl hE bel1
    go_wp2_with (with_reducible refine wpList_load_mid rfl 47 (.tmp 16) rfl b (o + i * 19) ?_ vs _ RV.out Try.underlying47 rfl HIV.out ?_; simp [Act.eval]; have hvl := HVL.out)
    refine bodyPost_ret (results_cs2 Try.results20 (w.heap.size + 1) ?_ (.bool true) ?_ vs _ (Bx.range BR2.out) Try.underlying47 rfl HIV.out) rfl ?_
    · rfl
    · rfl
    · have hb := below_sets vs 0 w1 HBL.out (w.heap.size + 1) (by omega)
      exact ⟨vs, rfl, HRD.out.any flatObject, hb⟩
end Go.Proofs.Ytiebjkbofoppaaa
