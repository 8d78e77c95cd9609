/- Chapter 25: New, Moved of the program and of the reference. -/
import Derived.Test.YtiebjkbofoppaaaZoC
namespace Go.Proofs.Ytiebjkbofoppaaa
open Go Go.RowKit Go.Sort Cg
/-- A new object's cells. -/
def newO (id card owner zone stamp : Int) : List Value := [.int .i64 id, .int .i64 card, .int .i64 owner, .int .i64 owner, .int .i64 zone, .bool false, .bool false, .bool false, .bool false, .int .i64 0, .int .i64 0, .int .i64 0, .int .i64 0, .int .i64 stamp, .int .i64 (-1), .int .i64 (-1), .bool false, .int .i64 0, .int .i64 0]
theorem newO_one (id card owner zone stamp : Int) : ∀ u ∈ newO id card owner zone stamp, u.oneCell' = true := by
  intro u hu
  simp only [newO, List.mem_cons, List.not_mem_nil, or_false] at hu
  rcases hu with rfl | rfl | rfl | rfl | rfl | rfl | rfl | rfl | rfl | rfl | rfl | rfl | rfl | rfl | rfl | rfl | rfl | rfl | rfl <;> rfl
def litK (k : K) (v : Value) : Bool := match k, v with
  | .lit .int, .int .i64 _ => true
  | .lit .bool, .bool _ => true
  | _, _ => false
theorem lits_rd (w : World) : ∀ (ks : List K) (vs : List Value), (List.zip ks vs).all (fun p => litK p.1 p.2) = true → ks.length = vs.length → RdL (fun _ => False) 0 w ks vs (vs.map .lit) := by
  intro ks
  induction ks with
  | nil => intro vs _ hl; match vs, hl with
    | [], _ => exact .nil
  | cons k ks ih =>
    intro vs hall hl
    match vs, hl with
    | v :: vs, hl =>
      simp only [List.zip_cons_cons, List.all_cons, Bool.and_eq_true] at hall
      refine .cons ?_ (ih vs hall.2 (by simpa using hl))
      have h1 := hall.1
      match k, v, h1 with
      | .lit .int, .int .i64 n, _ => exact .lit ⟨n, rfl⟩
      | .lit .bool, .bool b, _ => exact .lit ⟨b, rfl⟩
theorem newO_rd (id card owner zone stamp : Int) (w : World) : RdL (fun _ => False) 0 w kObject (newO id card owner zone stamp) ((newO id card owner zone stamp).map .lit) := lits_rd w _ _ rfl rfl
set_option maxRecDepth 100000 in
set_option maxHeartbeats 8000000 in
theorem new_prog (id card owner zone stamp : Int) (w : World) :
    Calls Try.prog 47 #[.int .i64 id, .int .i64 card, .int .i64 owner, .int .i64 zone, .int .i64 stamp] w fun e w' => e = .returned (.agg (newO id card owner zone stamp).toArray) ∧ Below w.heap.size w w' := by
  obtain ⟨nl, hnl⟩ : ∃ nl, nl = newO id card owner zone stamp := ⟨_, rfl⟩
  obtain ⟨W0, hW0⟩ : ∃ W, W = w.alloc (.cells #[.int .i64 0, .int .i64 0, .int .i64 0, .int .i64 0, .int .i64 0, .bool false, .bool false, .bool false, .bool false, .int .i64 0, .int .i64 0, .int .i64 0, .int .i64 0, .int .i64 0, .int .i64 0, .int .i64 0, .bool false, .int .i64 0, .int .i64 0] 47) := ⟨_, rfl⟩
  have bz : Bx W0 w.heap.size 47 zObjC.1 := by rw [hW0]; exact Bx.new w zObjC.1 _
  have hnn : nl.length = 19 := by rw [hnl]; rfl
  have ht : W0.there w.heap.size 0 nl.length := by rw [hnn]; exact bz.there
  have BE := Lib.hid (bz.setAll nl hnn)
  have BL := Lib.hid (show Below w.heap.size w W0 by rw [hW0]; exact (Below.refl w.heap.size w).alloc (Nat.le_refl _) _)
  have HI := Lib.hid (show (Try.prog.info? 47).map (·.size) = some nl.length by rw [infoObject, hnn])
  have HO := Lib.hid (show ∀ u ∈ nl, u.oneCell' = true by rw [hnl]; exact newO_one _ _ _ _ _)
  have HN := Lib.hid hnl
  rw [hW0] at ht
  have HT := Lib.hid ht
  have HW0 := Lib.hid hW0
  rw [← hnl]
  clear bz hnn ht hW0 hnl
  go_enter Try.func47, Try.ntmps47
  go_wp2_with (refine wpList_store_cs rfl 47 (.tmp 10) (.tmp 17) rfl w.heap.size 0 nl ?_ ?_ HT.out HI.out HO.out ?_; rfl; rw [HN.out]; rfl)
  rw [← HW0.out]
  refine bodyPost_ret (results_cs Try.results47 w.heap.size ?_ nl _ (Bx.range BE.out) Try.underlying47 rfl HI.out) rfl ?_
  · rfl
  · exact ⟨rfl, below_sets _ _ _ BL.out _ (Nat.le_refl _)⟩
/-- An object moved. -/
def movedC (o : List D) (id zone control stamp : Int) : List Value := (((newO id (dint o 1) (dint o 2) zone stamp).set 5 (.bool (dbool o 5))).set 3 (.int .i64 (if zone == 0 || zone == 5 then control else dint o 2))).set 7 (.bool (zone == 0))
theorem movedC_one (o : List D) (id zone control stamp : Int) : ∀ u ∈ movedC o id zone control stamp, u.oneCell' = true := by
  intro u hu
  simp only [movedC, newO, List.set_cons_succ, List.set_cons_zero, List.mem_cons, List.not_mem_nil, or_false] at hu
  rcases hu with rfl | rfl | rfl | rfl | rfl | rfl | rfl | rfl | rfl | rfl | rfl | rfl | rfl | rfl | rfl | rfl | rfl | rfl | rfl <;> rfl
theorem movedC_rd (o : List D) (id zone control stamp : Int) (w : World) : RdL (fun _ => False) 0 w kObject (movedC o id zone control stamp) ((movedC o id zone control stamp).map .lit) := lits_rd w _ _ rfl rfl
set_option maxRecDepth 100000 in
set_option maxHeartbeats 8000000 in
theorem moved_prog (oc : List Value) (od : List D) (id zone control stamp : Int) (w : World) (ho : RdL (fun _ => False) 0 w kObject oc od) :
    Calls Try.prog 38 #[.agg oc.toArray, .int .i64 id, .int .i64 zone, .int .i64 control, .int .i64 stamp] w fun e w' => e = .returned (.agg (movedC od id zone control stamp).toArray) ∧ Below w.heap.size w w' := by
  have hol := ho.len.1
  rw [kObject_len] at hol
  obtain ⟨W0, hW0⟩ : ∃ W, W = (w.alloc (.cells oc.toArray 47)).alloc (.cells #[.int .i64 0, .int .i64 0, .int .i64 0, .int .i64 0, .int .i64 0, .bool false, .bool false, .bool false, .bool false, .int .i64 0, .int .i64 0, .int .i64 0, .int .i64 0, .int .i64 0, .int .i64 0, .int .i64 0, .bool false, .int .i64 0, .int .i64 0] 47) := ⟨_, rfl⟩
  have hs1 : (w.alloc (.cells oc.toArray 47)).heap.size = w.heap.size + 1 := by simp
  have b0 : Below w.heap.size w W0 := by rw [hW0]; exact ((Below.refl w.heap.size w).alloc (Nat.le_refl _) _).alloc (by rw [hs1]; omega) _
  have ob : Bx W0 w.heap.size 47 oc := by rw [hW0]; exact (Bx.new w oc 47).old ((Below.refl _ _).alloc (Nat.le_refl _) _)
  have rs : Bx W0 (w.heap.size + 1) 47 zObjC.1 := by rw [hW0, ← hs1]; exact Bx.new _ zObjC.1 _
  have hs0 : W0.heap.size = w.heap.size + 2 := by rw [hW0]; simp
  have co1 := ob.cell 1 _ (ho.int 1 rfl).1
  have co2 := ob.cell 2 _ (ho.int 2 rfl).1
  rw [hW0] at co1 co2
  have OB := Lib.hid ob
  have RS := Lib.hid rs
  have HO := Lib.hid ho
  have B0 := Lib.hid b0
  have HS0 := Lib.hid hs0
  have HW0 := Lib.hid hW0
  have HNEW := Lib.hid (new_prog id (dint od 1) (dint od 2) zone stamp W0)
  obtain ⟨nl, hnl⟩ : ∃ nl, nl = newO id (dint od 1) (dint od 2) zone stamp := ⟨_, rfl⟩
  rw [← hnl] at HNEW
  have HNL := Lib.hid hnl
  clear hol hs1 b0 ob rs hs0 hW0 ho hnl
  obtain ⟨cc, hcc⟩ : ∃ cc, cc = (if zone == 0 || zone == 5 then control else dint od 2) := ⟨_, rfl⟩
  have HM := Lib.hid (show movedC od id zone control stamp = (((newO id (dint od 1) (dint od 2) zone stamp).set 5 (.bool (dbool od 5))).set 3 (.int .i64 cc)).set 7 (.bool (zone == 0)) by unfold movedC; rw [← hcc])
  rw [HM.out]
  obtain ⟨b7, hb7⟩ : ∃ b7, b7 = (zone == 0) := ⟨_, rfl⟩
  rw [← hb7]
  cases h0 : zone == 0
  · cases h5 : zone == 5
    · rw [h0, h5] at hcc
      have hc2 : cc = dint od 2 := hcc
      rw [h0] at hb7
      subst hc2
      subst hb7
      clear hcc
      go_enter Try.func38, Try.ntmps38
      go_wp2_with fail
      rw [← HW0.out]
      refine HNEW.out.mono ?_
      rintro e w3 ⟨rfl, b3⟩
      have hnl := HNL.out
      have hnn : nl.length = 19 := by rw [hnl]; rfl
      obtain ⟨W4, hW4⟩ : ∃ W, W = w3.alloc (.cells #[.int .i64 0, .int .i64 0, .int .i64 0, .int .i64 0, .int .i64 0, .bool false, .bool false, .bool false, .bool false, .int .i64 0, .int .i64 0, .int .i64 0, .int .i64 0, .int .i64 0, .int .i64 0, .int .i64 0, .bool false, .int .i64 0, .int .i64 0] 47) := ⟨_, rfl⟩
      have nz : Bx W4 w3.heap.size 47 zObjC.1 := by rw [hW4]; exact Bx.new w3 zObjC.1 _
      have b4 : Below w3.heap.size w3 W4 := by rw [hW4]; exact (Below.refl _ _).alloc (Nat.le_refl _) _
      have ht : W4.there w3.heap.size 0 nl.length := by rw [hnn]; exact nz.there
      rw [hW4] at ht
      have HT := Lib.hid ht
      have HI := Lib.hid (show (Try.prog.info? 47).map (·.size) = some nl.length by rw [infoObject, hnn])
      have HO1 := Lib.hid (show ∀ u ∈ nl, u.oneCell' = true by rw [hnl]; exact newO_one _ _ _ _ _)
      obtain ⟨W5, hW5⟩ : ∃ W, W = W4.setCells w3.heap.size 0 nl := ⟨_, rfl⟩
      have nx : Bx W5 w3.heap.size 47 nl := by rw [hW5]; exact nz.setAll nl hnn
      have hz := HS0.out
      have hz3 := b3.size
      have bb : Below W0.heap.size W0 W5 := by rw [hW5]; exact below_sets _ _ _ (b3.trans (b4.mono b3.size)) _ b3.size
      have co5 := (OB.out.old bb).cell 5 _ (HO.out.bool 5 rfl).1
      have f5 := nx.frozen 5
      have f3 := nx.frozen 3
      have f7 := nx.frozen 7
      have k5 := nx.cell 5 (.bool false) (by rw [hnl]; rfl)
      have k3 := nx.cell 3 (.int .i64 (dint od 2)) (by rw [hnl]; rfl)
      have k7 := nx.cell 7 (.bool false) (by rw [hnl]; rfl)
      rw [hW5, hW4] at co5 f5 f3 f7 k5 k3 k7
      obtain ⟨W6, hW6⟩ : ∃ W, W = (W5.setCell ⟨w3.heap.size, 5, none⟩ (.bool (dbool od 5))).setCell ⟨w3.heap.size, 7, none⟩ (.bool false) := ⟨_, rfl⟩
      obtain ⟨ml, hml⟩ : ∃ ml, ml = ((nl.set 5 (.bool (dbool od 5))).set 3 (.int .i64 (dint od 2))).set 7 (.bool false) := ⟨_, rfl⟩
      have mx : Bx W6 w3.heap.size 47 ml := by
        rw [hW6, hml]
        have := (nx.set 5 (.bool (dbool od 5))).set 7 (.bool false)
        rw [set_same (nl.set 5 (.bool (dbool od 5))) 3 _ (by rw [hnl]; rfl)]
        exact this
      have rz : Bx W6 (w.heap.size + 1) 47 zObjC.1 := by
        rw [hW6]
        exact ((RS.out.old bb).other _ _ (by omega)).other _ _ (by omega)
      have b6 : Below w.heap.size w W6 := by
        rw [hW6]
        refine below_set (below_set ?_ _ _ _ (by omega)) _ _ _ (by omega)
        exact B0.out.trans (bb.mono B0.out.size)
      have hml1 : ml.length = 19 := by rw [hml]; simp only [List.length_set]; exact hnn
      have HMO := Lib.hid (show ∀ u ∈ ml, u.oneCell' = true by
        have := movedC_one od id zone (dint od 2) stamp
        intro u hu
        rw [hml, hnl] at hu
        simp only [newO, List.set_cons_succ, List.set_cons_zero, List.mem_cons, List.not_mem_nil, or_false] at hu
        rcases hu with rfl | rfl | rfl | rfl | rfl | rfl | rfl | rfl | rfl | rfl | rfl | rfl | rfl | rfl | rfl | rfl | rfl | rfl | rfl <;> rfl)
      have HIN := Lib.hid (show (Try.prog.info? 47).map (·.size) = some ml.length by rw [infoObject, hml1])
      have hrg := mx.range
      have htt : W6.there (w.heap.size + 1) 0 ml.length := by rw [hml1]; exact rz.there
      rw [hW6, hW5, hW4] at hrg htt
      have RGN := Lib.hid hrg
      have HTT := Lib.hid htt
      have BE := Lib.hid (rz.setAll ml hml1)
      have B6 := Lib.hid b6
      have HML := Lib.hid hml
      have HW6 := Lib.hid (show W6 = _ by rw [hW6, hW5, hW4])
      clear b3 hnl hnn hW4 nz b4 ht hW5 nx hz hz3 bb hW6 hml mx rz b6 hml1 hrg htt
      go_wp2_with (first | ((with_reducible refine wpList_store_cs rfl 47 (.tmp 11) (.tmp 19) rfl w3.heap.size 0 nl ?_ ?_ HT.out HI.out HO1.out ?_); rfl; rfl) | ((with_reducible refine wpList_load_mid rfl 47 (.tmp 11) rfl w3.heap.size 0 ?_ ml _ RGN.out Try.underlying47 rfl HIN.out ?_); rfl) | ((with_reducible refine wpList_store_cs rfl 47 (.tmp 10) (.tmp 34) rfl (w.heap.size + 1) 0 ml ?_ ?_ HTT.out HIN.out HMO.out ?_); rfl; rfl))
      rw [← HW6.out]
      refine bodyPost_ret (results_cs Try.results38 (w.heap.size + 1) ?_ ml _ (Bx.range BE.out) Try.underlying47 rfl HIN.out) rfl ?_
      · rfl
      · exact ⟨by rw [HML.out, HNL.out], below_sets _ _ _ B6.out _ (by omega)⟩
    · rw [h0, h5] at hcc
      have hc2 : control = cc := hcc.symm
      rw [h0] at hb7
      subst hc2
      subst hb7
      clear hcc
      go_enter Try.func38, Try.ntmps38
      go_wp2_with fail
      rw [← HW0.out]
      refine HNEW.out.mono ?_
      rintro e w3 ⟨rfl, b3⟩
      have hnl := HNL.out
      have hnn : nl.length = 19 := by rw [hnl]; rfl
      obtain ⟨W4, hW4⟩ : ∃ W, W = w3.alloc (.cells #[.int .i64 0, .int .i64 0, .int .i64 0, .int .i64 0, .int .i64 0, .bool false, .bool false, .bool false, .bool false, .int .i64 0, .int .i64 0, .int .i64 0, .int .i64 0, .int .i64 0, .int .i64 0, .int .i64 0, .bool false, .int .i64 0, .int .i64 0] 47) := ⟨_, rfl⟩
      have nz : Bx W4 w3.heap.size 47 zObjC.1 := by rw [hW4]; exact Bx.new w3 zObjC.1 _
      have b4 : Below w3.heap.size w3 W4 := by rw [hW4]; exact (Below.refl _ _).alloc (Nat.le_refl _) _
      have ht : W4.there w3.heap.size 0 nl.length := by rw [hnn]; exact nz.there
      rw [hW4] at ht
      have HT := Lib.hid ht
      have HI := Lib.hid (show (Try.prog.info? 47).map (·.size) = some nl.length by rw [infoObject, hnn])
      have HO1 := Lib.hid (show ∀ u ∈ nl, u.oneCell' = true by rw [hnl]; exact newO_one _ _ _ _ _)
      obtain ⟨W5, hW5⟩ : ∃ W, W = W4.setCells w3.heap.size 0 nl := ⟨_, rfl⟩
      have nx : Bx W5 w3.heap.size 47 nl := by rw [hW5]; exact nz.setAll nl hnn
      have hz := HS0.out
      have hz3 := b3.size
      have bb : Below W0.heap.size W0 W5 := by rw [hW5]; exact below_sets _ _ _ (b3.trans (b4.mono b3.size)) _ b3.size
      have co5 := (OB.out.old bb).cell 5 _ (HO.out.bool 5 rfl).1
      have f5 := nx.frozen 5
      have f3 := nx.frozen 3
      have f7 := nx.frozen 7
      have k5 := nx.cell 5 (.bool false) (by rw [hnl]; rfl)
      have k3 := nx.cell 3 (.int .i64 (dint od 2)) (by rw [hnl]; rfl)
      have k7 := nx.cell 7 (.bool false) (by rw [hnl]; rfl)
      rw [hW5, hW4] at co5 f5 f3 f7 k5 k3 k7
      obtain ⟨W6, hW6⟩ : ∃ W, W = ((W5.setCell ⟨w3.heap.size, 5, none⟩ (.bool (dbool od 5))).setCell ⟨w3.heap.size, 3, none⟩ (.int .i64 control)).setCell ⟨w3.heap.size, 7, none⟩ (.bool false) := ⟨_, rfl⟩
      obtain ⟨ml, hml⟩ : ∃ ml, ml = ((nl.set 5 (.bool (dbool od 5))).set 3 (.int .i64 control)).set 7 (.bool false) := ⟨_, rfl⟩
      have mx : Bx W6 w3.heap.size 47 ml := by
        rw [hW6, hml]
        exact ((nx.set 5 _).set 3 _).set 7 _
      have rz : Bx W6 (w.heap.size + 1) 47 zObjC.1 := by
        rw [hW6]
        exact (((RS.out.old bb).other _ _ (by omega)).other _ _ (by omega)).other _ _ (by omega)
      have b6 : Below w.heap.size w W6 := by
        rw [hW6]
        refine below_set (below_set (below_set ?_ _ _ _ (by omega)) _ _ _ (by omega)) _ _ _ (by omega)
        exact B0.out.trans (bb.mono B0.out.size)
      have hml1 : ml.length = 19 := by rw [hml]; simp only [List.length_set]; exact hnn
      have HMO := Lib.hid (show ∀ u ∈ ml, u.oneCell' = true by
        have := movedC_one od id zone control stamp
        intro u hu
        rw [hml, hnl] at hu
        simp only [newO, List.set_cons_succ, List.set_cons_zero, List.mem_cons, List.not_mem_nil, or_false] at hu
        rcases hu with rfl | rfl | rfl | rfl | rfl | rfl | rfl | rfl | rfl | rfl | rfl | rfl | rfl | rfl | rfl | rfl | rfl | rfl | rfl <;> rfl)
      have HIN := Lib.hid (show (Try.prog.info? 47).map (·.size) = some ml.length by rw [infoObject, hml1])
      have hrg := mx.range
      have htt : W6.there (w.heap.size + 1) 0 ml.length := by rw [hml1]; exact rz.there
      rw [hW6, hW5, hW4] at hrg htt
      have RGN := Lib.hid hrg
      have HTT := Lib.hid htt
      have BE := Lib.hid (rz.setAll ml hml1)
      have B6 := Lib.hid b6
      have HML := Lib.hid hml
      have HW6 := Lib.hid (show W6 = _ by rw [hW6, hW5, hW4])
      clear b3 hnl hnn hW4 nz b4 ht hW5 nx hz hz3 bb hW6 hml mx rz b6 hml1 hrg htt
      go_wp2_with (first | ((with_reducible refine wpList_store_cs rfl 47 (.tmp 11) (.tmp 19) rfl w3.heap.size 0 nl ?_ ?_ HT.out HI.out HO1.out ?_); rfl; rfl) | ((with_reducible refine wpList_load_mid rfl 47 (.tmp 11) rfl w3.heap.size 0 ?_ ml _ RGN.out Try.underlying47 rfl HIN.out ?_); rfl) | ((with_reducible refine wpList_store_cs rfl 47 (.tmp 10) (.tmp 34) rfl (w.heap.size + 1) 0 ml ?_ ?_ HTT.out HIN.out HMO.out ?_); rfl; rfl))
      rw [← HW6.out]
      refine bodyPost_ret (results_cs Try.results38 (w.heap.size + 1) ?_ ml _ (Bx.range BE.out) Try.underlying47 rfl HIN.out) rfl ?_
      · rfl
      · exact ⟨by rw [HML.out, HNL.out], below_sets _ _ _ B6.out _ (by omega)⟩
  · rw [h0] at hcc
    have hc2 : control = cc := by rw [hcc]; rfl
    rw [h0] at hb7
    subst hc2
    subst hb7
    clear hcc
    go_enter Try.func38, Try.ntmps38
    go_wp2_with fail
    rw [← HW0.out]
    refine HNEW.out.mono ?_
    rintro e w3 ⟨rfl, b3⟩
    have hnl := HNL.out
    have hnn : nl.length = 19 := by rw [hnl]; rfl
    obtain ⟨W4, hW4⟩ : ∃ W, W = w3.alloc (.cells #[.int .i64 0, .int .i64 0, .int .i64 0, .int .i64 0, .int .i64 0, .bool false, .bool false, .bool false, .bool false, .int .i64 0, .int .i64 0, .int .i64 0, .int .i64 0, .int .i64 0, .int .i64 0, .int .i64 0, .bool false, .int .i64 0, .int .i64 0] 47) := ⟨_, rfl⟩
    have nz : Bx W4 w3.heap.size 47 zObjC.1 := by rw [hW4]; exact Bx.new w3 zObjC.1 _
    have b4 : Below w3.heap.size w3 W4 := by rw [hW4]; exact (Below.refl _ _).alloc (Nat.le_refl _) _
    have ht : W4.there w3.heap.size 0 nl.length := by rw [hnn]; exact nz.there
    rw [hW4] at ht
    have HT := Lib.hid ht
    have HI := Lib.hid (show (Try.prog.info? 47).map (·.size) = some nl.length by rw [infoObject, hnn])
    have HO1 := Lib.hid (show ∀ u ∈ nl, u.oneCell' = true by rw [hnl]; exact newO_one _ _ _ _ _)
    obtain ⟨W5, hW5⟩ : ∃ W, W = W4.setCells w3.heap.size 0 nl := ⟨_, rfl⟩
    have nx : Bx W5 w3.heap.size 47 nl := by rw [hW5]; exact nz.setAll nl hnn
    have hz := HS0.out
    have hz3 := b3.size
    have bb : Below W0.heap.size W0 W5 := by rw [hW5]; exact below_sets _ _ _ (b3.trans (b4.mono b3.size)) _ b3.size
    have co5 := (OB.out.old bb).cell 5 _ (HO.out.bool 5 rfl).1
    have f5 := nx.frozen 5
    have f3 := nx.frozen 3
    have f7 := nx.frozen 7
    have k5 := nx.cell 5 (.bool false) (by rw [hnl]; rfl)
    have k3 := nx.cell 3 (.int .i64 (dint od 2)) (by rw [hnl]; rfl)
    have k7 := nx.cell 7 (.bool false) (by rw [hnl]; rfl)
    rw [hW5, hW4] at co5 f5 f3 f7 k5 k3 k7
    obtain ⟨W6, hW6⟩ : ∃ W, W = ((W5.setCell ⟨w3.heap.size, 5, none⟩ (.bool (dbool od 5))).setCell ⟨w3.heap.size, 3, none⟩ (.int .i64 control)).setCell ⟨w3.heap.size, 7, none⟩ (.bool true) := ⟨_, rfl⟩
    obtain ⟨ml, hml⟩ : ∃ ml, ml = ((nl.set 5 (.bool (dbool od 5))).set 3 (.int .i64 control)).set 7 (.bool true) := ⟨_, rfl⟩
    have mx : Bx W6 w3.heap.size 47 ml := by
      rw [hW6, hml]
      exact ((nx.set 5 _).set 3 _).set 7 _
    have rz : Bx W6 (w.heap.size + 1) 47 zObjC.1 := by
      rw [hW6]
      exact (((RS.out.old bb).other _ _ (by omega)).other _ _ (by omega)).other _ _ (by omega)
    have b6 : Below w.heap.size w W6 := by
      rw [hW6]
      refine below_set (below_set (below_set ?_ _ _ _ (by omega)) _ _ _ (by omega)) _ _ _ (by omega)
      exact B0.out.trans (bb.mono B0.out.size)
    have hml1 : ml.length = 19 := by rw [hml]; simp only [List.length_set]; exact hnn
    have HMO := Lib.hid (show ∀ u ∈ ml, u.oneCell' = true by
      have := movedC_one od id zone control stamp
      intro u hu
      rw [hml, hnl] at hu
      simp only [newO, List.set_cons_succ, List.set_cons_zero, List.mem_cons, List.not_mem_nil, or_false] at hu
      rcases hu with rfl | rfl | rfl | rfl | rfl | rfl | rfl | rfl | rfl | rfl | rfl | rfl | rfl | rfl | rfl | rfl | rfl | rfl | rfl <;> rfl)
    have HIN := Lib.hid (show (Try.prog.info? 47).map (·.size) = some ml.length by rw [infoObject, hml1])
    have hrg := mx.range
    have htt : W6.there (w.heap.size + 1) 0 ml.length := by rw [hml1]; exact rz.there
    rw [hW6, hW5, hW4] at hrg htt
    have RGN := Lib.hid hrg
    have HTT := Lib.hid htt
    have BE := Lib.hid (rz.setAll ml hml1)
    have B6 := Lib.hid b6
    have HML := Lib.hid hml
    have HW6 := Lib.hid (show W6 = _ by rw [hW6, hW5, hW4])
    clear b3 hnl hnn hW4 nz b4 ht hW5 nx hz hz3 bb hW6 hml mx rz b6 hml1 hrg htt
    go_wp2_with (first | ((with_reducible refine wpList_store_cs rfl 47 (.tmp 11) (.tmp 19) rfl w3.heap.size 0 nl ?_ ?_ HT.out HI.out HO1.out ?_); rfl; rfl) | ((with_reducible refine wpList_load_mid rfl 47 (.tmp 11) rfl w3.heap.size 0 ?_ ml _ RGN.out Try.underlying47 rfl HIN.out ?_); rfl) | ((with_reducible refine wpList_store_cs rfl 47 (.tmp 10) (.tmp 34) rfl (w.heap.size + 1) 0 ml ?_ ?_ HTT.out HIN.out HMO.out ?_); rfl; rfl))
    rw [← HW6.out]
    refine bodyPost_ret (results_cs Try.results38 (w.heap.size + 1) ?_ ml _ (Bx.range BE.out) Try.underlying47 rfl HIN.out) rfl ?_
    · rfl
    · exact ⟨by rw [HML.out, HNL.out], below_sets _ _ _ B6.out _ (by omega)⟩
set_option maxRecDepth 100000 in
set_option maxHeartbeats 8000000 in
theorem new_ref (id card owner zone stamp : Int) (w : World) :
    Calls Try.prog 48 #[.int .i64 id, .int .i64 card, .int .i64 owner, .int .i64 zone, .int .i64 stamp] w fun e w' => e = .returned (.agg (newO id card owner zone stamp).toArray) ∧ Below w.heap.size w w' := by
  obtain ⟨nl, hnl⟩ : ∃ nl, nl = newO id card owner zone stamp := ⟨_, rfl⟩
  obtain ⟨W0, hW0⟩ : ∃ W, W = w.alloc (.cells #[.int .i64 0, .int .i64 0, .int .i64 0, .int .i64 0, .int .i64 0, .bool false, .bool false, .bool false, .bool false, .int .i64 0, .int .i64 0, .int .i64 0, .int .i64 0, .int .i64 0, .int .i64 0, .int .i64 0, .bool false, .int .i64 0, .int .i64 0] 47) := ⟨_, rfl⟩
  have bz : Bx W0 w.heap.size 47 zObjC.1 := by rw [hW0]; exact Bx.new w zObjC.1 _
  have hnn : nl.length = 19 := by rw [hnl]; rfl
  have ht : W0.there w.heap.size 0 nl.length := by rw [hnn]; exact bz.there
  have BE := Lib.hid (bz.setAll nl hnn)
  have BL := Lib.hid (show Below w.heap.size w W0 by rw [hW0]; exact (Below.refl w.heap.size w).alloc (Nat.le_refl _) _)
  have HI := Lib.hid (show (Try.prog.info? 47).map (·.size) = some nl.length by rw [infoObject, hnn])
  have HO := Lib.hid (show ∀ u ∈ nl, u.oneCell' = true by rw [hnl]; exact newO_one _ _ _ _ _)
  have HN := Lib.hid hnl
  rw [hW0] at ht
  have HT := Lib.hid ht
  have HW0 := Lib.hid hW0
  rw [← hnl]
  clear bz hnn ht hW0 hnl
  go_enter Try.func48, Try.ntmps48
  go_wp2_with (refine wpList_store_cs rfl 47 (.tmp 10) (.tmp 17) rfl w.heap.size 0 nl ?_ ?_ HT.out HI.out HO.out ?_; rfl; rw [HN.out]; rfl)
  rw [← HW0.out]
  refine bodyPost_ret (results_cs Try.results48 w.heap.size ?_ nl _ (Bx.range BE.out) Try.underlying47 rfl HI.out) rfl ?_
  · rfl
  · exact ⟨rfl, below_sets _ _ _ BL.out _ (Nat.le_refl _)⟩
set_option maxRecDepth 100000 in
set_option maxHeartbeats 8000000 in
theorem moved_ref (oc : List Value) (od : List D) (id zone control stamp : Int) (w : World) (ho : RdL (fun _ => False) 0 w kObject oc od) :
    Calls Try.prog 42 #[.agg oc.toArray, .int .i64 id, .int .i64 zone, .int .i64 control, .int .i64 stamp] w fun e w' => e = .returned (.agg (movedC od id zone control stamp).toArray) ∧ Below w.heap.size w w' := by
  have hol := ho.len.1
  rw [kObject_len] at hol
  obtain ⟨W0, hW0⟩ : ∃ W, W = (w.alloc (.cells oc.toArray 47)).alloc (.cells #[.int .i64 0, .int .i64 0, .int .i64 0, .int .i64 0, .int .i64 0, .bool false, .bool false, .bool false, .bool false, .int .i64 0, .int .i64 0, .int .i64 0, .int .i64 0, .int .i64 0, .int .i64 0, .int .i64 0, .bool false, .int .i64 0, .int .i64 0] 47) := ⟨_, rfl⟩
  have hs1 : (w.alloc (.cells oc.toArray 47)).heap.size = w.heap.size + 1 := by simp
  have b0 : Below w.heap.size w W0 := by rw [hW0]; exact ((Below.refl w.heap.size w).alloc (Nat.le_refl _) _).alloc (by rw [hs1]; omega) _
  have ob : Bx W0 w.heap.size 47 oc := by rw [hW0]; exact (Bx.new w oc 47).old ((Below.refl _ _).alloc (Nat.le_refl _) _)
  have rs : Bx W0 (w.heap.size + 1) 47 zObjC.1 := by rw [hW0, ← hs1]; exact Bx.new _ zObjC.1 _
  have hs0 : W0.heap.size = w.heap.size + 2 := by rw [hW0]; simp
  have co1 := ob.cell 1 _ (ho.int 1 rfl).1
  have co2 := ob.cell 2 _ (ho.int 2 rfl).1
  rw [hW0] at co1 co2
  have OB := Lib.hid ob
  have RS := Lib.hid rs
  have HO := Lib.hid ho
  have B0 := Lib.hid b0
  have HS0 := Lib.hid hs0
  have HW0 := Lib.hid hW0
  have HNEW := Lib.hid (new_ref id (dint od 1) (dint od 2) zone stamp W0)
  obtain ⟨nl, hnl⟩ : ∃ nl, nl = newO id (dint od 1) (dint od 2) zone stamp := ⟨_, rfl⟩
  rw [← hnl] at HNEW
  have HNL := Lib.hid hnl
  clear hol hs1 b0 ob rs hs0 hW0 ho hnl
  obtain ⟨cc, hcc⟩ : ∃ cc, cc = (if zone == 0 || zone == 5 then control else dint od 2) := ⟨_, rfl⟩
  have HM := Lib.hid (show movedC od id zone control stamp = (((newO id (dint od 1) (dint od 2) zone stamp).set 5 (.bool (dbool od 5))).set 3 (.int .i64 cc)).set 7 (.bool (zone == 0)) by unfold movedC; rw [← hcc])
  rw [HM.out]
  obtain ⟨b7, hb7⟩ : ∃ b7, b7 = (zone == 0) := ⟨_, rfl⟩
  rw [← hb7]
  cases h0 : zone == 0
  · cases h5 : zone == 5
    · rw [h0, h5] at hcc
      have hc2 : cc = dint od 2 := hcc
      rw [h0] at hb7
      subst hc2
      subst hb7
      clear hcc
      go_enter Try.func42, Try.ntmps42
      go_wp2_with fail
      rw [← HW0.out]
      refine HNEW.out.mono ?_
      rintro e w3 ⟨rfl, b3⟩
      have hnl := HNL.out
      have hnn : nl.length = 19 := by rw [hnl]; rfl
      obtain ⟨W4, hW4⟩ : ∃ W, W = w3.alloc (.cells #[.int .i64 0, .int .i64 0, .int .i64 0, .int .i64 0, .int .i64 0, .bool false, .bool false, .bool false, .bool false, .int .i64 0, .int .i64 0, .int .i64 0, .int .i64 0, .int .i64 0, .int .i64 0, .int .i64 0, .bool false, .int .i64 0, .int .i64 0] 47) := ⟨_, rfl⟩
      have nz : Bx W4 w3.heap.size 47 zObjC.1 := by rw [hW4]; exact Bx.new w3 zObjC.1 _
      have b4 : Below w3.heap.size w3 W4 := by rw [hW4]; exact (Below.refl _ _).alloc (Nat.le_refl _) _
      have ht : W4.there w3.heap.size 0 nl.length := by rw [hnn]; exact nz.there
      rw [hW4] at ht
      have HT := Lib.hid ht
      have HI := Lib.hid (show (Try.prog.info? 47).map (·.size) = some nl.length by rw [infoObject, hnn])
      have HO1 := Lib.hid (show ∀ u ∈ nl, u.oneCell' = true by rw [hnl]; exact newO_one _ _ _ _ _)
      obtain ⟨W5, hW5⟩ : ∃ W, W = W4.setCells w3.heap.size 0 nl := ⟨_, rfl⟩
      have nx : Bx W5 w3.heap.size 47 nl := by rw [hW5]; exact nz.setAll nl hnn
      have hz := HS0.out
      have hz3 := b3.size
      have bb : Below W0.heap.size W0 W5 := by rw [hW5]; exact below_sets _ _ _ (b3.trans (b4.mono b3.size)) _ b3.size
      have co5 := (OB.out.old bb).cell 5 _ (HO.out.bool 5 rfl).1
      have f5 := nx.frozen 5
      have f3 := nx.frozen 3
      have f7 := nx.frozen 7
      have k5 := nx.cell 5 (.bool false) (by rw [hnl]; rfl)
      have k3 := nx.cell 3 (.int .i64 (dint od 2)) (by rw [hnl]; rfl)
      have k7 := nx.cell 7 (.bool false) (by rw [hnl]; rfl)
      rw [hW5, hW4] at co5 f5 f3 f7 k5 k3 k7
      obtain ⟨W6, hW6⟩ : ∃ W, W = (W5.setCell ⟨w3.heap.size, 5, none⟩ (.bool (dbool od 5))).setCell ⟨w3.heap.size, 7, none⟩ (.bool false) := ⟨_, rfl⟩
      obtain ⟨ml, hml⟩ : ∃ ml, ml = ((nl.set 5 (.bool (dbool od 5))).set 3 (.int .i64 (dint od 2))).set 7 (.bool false) := ⟨_, rfl⟩
      have mx : Bx W6 w3.heap.size 47 ml := by
        rw [hW6, hml]
        have := (nx.set 5 (.bool (dbool od 5))).set 7 (.bool false)
        rw [set_same (nl.set 5 (.bool (dbool od 5))) 3 _ (by rw [hnl]; rfl)]
        exact this
      have rz : Bx W6 (w.heap.size + 1) 47 zObjC.1 := by
        rw [hW6]
        exact ((RS.out.old bb).other _ _ (by omega)).other _ _ (by omega)
      have b6 : Below w.heap.size w W6 := by
        rw [hW6]
        refine below_set (below_set ?_ _ _ _ (by omega)) _ _ _ (by omega)
        exact B0.out.trans (bb.mono B0.out.size)
      have hml1 : ml.length = 19 := by rw [hml]; simp only [List.length_set]; exact hnn
      have HMO := Lib.hid (show ∀ u ∈ ml, u.oneCell' = true by
        have := movedC_one od id zone (dint od 2) stamp
        intro u hu
        rw [hml, hnl] at hu
        simp only [newO, List.set_cons_succ, List.set_cons_zero, List.mem_cons, List.not_mem_nil, or_false] at hu
        rcases hu with rfl | rfl | rfl | rfl | rfl | rfl | rfl | rfl | rfl | rfl | rfl | rfl | rfl | rfl | rfl | rfl | rfl | rfl | rfl <;> rfl)
      have HIN := Lib.hid (show (Try.prog.info? 47).map (·.size) = some ml.length by rw [infoObject, hml1])
      have hrg := mx.range
      have htt : W6.there (w.heap.size + 1) 0 ml.length := by rw [hml1]; exact rz.there
      rw [hW6, hW5, hW4] at hrg htt
      have RGN := Lib.hid hrg
      have HTT := Lib.hid htt
      have BE := Lib.hid (rz.setAll ml hml1)
      have B6 := Lib.hid b6
      have HML := Lib.hid hml
      have HW6 := Lib.hid (show W6 = _ by rw [hW6, hW5, hW4])
      clear b3 hnl hnn hW4 nz b4 ht hW5 nx hz hz3 bb hW6 hml mx rz b6 hml1 hrg htt
      go_wp2_with (first | ((with_reducible refine wpList_store_cs rfl 47 (.tmp 11) (.tmp 19) rfl w3.heap.size 0 nl ?_ ?_ HT.out HI.out HO1.out ?_); rfl; rfl) | ((with_reducible refine wpList_load_mid rfl 47 (.tmp 11) rfl w3.heap.size 0 ?_ ml _ RGN.out Try.underlying47 rfl HIN.out ?_); rfl) | ((with_reducible refine wpList_store_cs rfl 47 (.tmp 10) (.tmp 34) rfl (w.heap.size + 1) 0 ml ?_ ?_ HTT.out HIN.out HMO.out ?_); rfl; rfl))
      rw [← HW6.out]
      refine bodyPost_ret (results_cs Try.results42 (w.heap.size + 1) ?_ ml _ (Bx.range BE.out) Try.underlying47 rfl HIN.out) rfl ?_
      · rfl
      · exact ⟨by rw [HML.out, HNL.out], below_sets _ _ _ B6.out _ (by omega)⟩
    · rw [h0, h5] at hcc
      have hc2 : control = cc := hcc.symm
      rw [h0] at hb7
      subst hc2
      subst hb7
      clear hcc
      go_enter Try.func42, Try.ntmps42
      go_wp2_with fail
      rw [← HW0.out]
      refine HNEW.out.mono ?_
      rintro e w3 ⟨rfl, b3⟩
      have hnl := HNL.out
      have hnn : nl.length = 19 := by rw [hnl]; rfl
      obtain ⟨W4, hW4⟩ : ∃ W, W = w3.alloc (.cells #[.int .i64 0, .int .i64 0, .int .i64 0, .int .i64 0, .int .i64 0, .bool false, .bool false, .bool false, .bool false, .int .i64 0, .int .i64 0, .int .i64 0, .int .i64 0, .int .i64 0, .int .i64 0, .int .i64 0, .bool false, .int .i64 0, .int .i64 0] 47) := ⟨_, rfl⟩
      have nz : Bx W4 w3.heap.size 47 zObjC.1 := by rw [hW4]; exact Bx.new w3 zObjC.1 _
      have b4 : Below w3.heap.size w3 W4 := by rw [hW4]; exact (Below.refl _ _).alloc (Nat.le_refl _) _
      have ht : W4.there w3.heap.size 0 nl.length := by rw [hnn]; exact nz.there
      rw [hW4] at ht
      have HT := Lib.hid ht
      have HI := Lib.hid (show (Try.prog.info? 47).map (·.size) = some nl.length by rw [infoObject, hnn])
      have HO1 := Lib.hid (show ∀ u ∈ nl, u.oneCell' = true by rw [hnl]; exact newO_one _ _ _ _ _)
      obtain ⟨W5, hW5⟩ : ∃ W, W = W4.setCells w3.heap.size 0 nl := ⟨_, rfl⟩
      have nx : Bx W5 w3.heap.size 47 nl := by rw [hW5]; exact nz.setAll nl hnn
      have hz := HS0.out
      have hz3 := b3.size
      have bb : Below W0.heap.size W0 W5 := by rw [hW5]; exact below_sets _ _ _ (b3.trans (b4.mono b3.size)) _ b3.size
      have co5 := (OB.out.old bb).cell 5 _ (HO.out.bool 5 rfl).1
      have f5 := nx.frozen 5
      have f3 := nx.frozen 3
      have f7 := nx.frozen 7
      have k5 := nx.cell 5 (.bool false) (by rw [hnl]; rfl)
      have k3 := nx.cell 3 (.int .i64 (dint od 2)) (by rw [hnl]; rfl)
      have k7 := nx.cell 7 (.bool false) (by rw [hnl]; rfl)
      rw [hW5, hW4] at co5 f5 f3 f7 k5 k3 k7
      obtain ⟨W6, hW6⟩ : ∃ W, W = ((W5.setCell ⟨w3.heap.size, 5, none⟩ (.bool (dbool od 5))).setCell ⟨w3.heap.size, 3, none⟩ (.int .i64 control)).setCell ⟨w3.heap.size, 7, none⟩ (.bool false) := ⟨_, rfl⟩
      obtain ⟨ml, hml⟩ : ∃ ml, ml = ((nl.set 5 (.bool (dbool od 5))).set 3 (.int .i64 control)).set 7 (.bool false) := ⟨_, rfl⟩
      have mx : Bx W6 w3.heap.size 47 ml := by
        rw [hW6, hml]
        exact ((nx.set 5 _).set 3 _).set 7 _
      have rz : Bx W6 (w.heap.size + 1) 47 zObjC.1 := by
        rw [hW6]
        exact (((RS.out.old bb).other _ _ (by omega)).other _ _ (by omega)).other _ _ (by omega)
      have b6 : Below w.heap.size w W6 := by
        rw [hW6]
        refine below_set (below_set (below_set ?_ _ _ _ (by omega)) _ _ _ (by omega)) _ _ _ (by omega)
        exact B0.out.trans (bb.mono B0.out.size)
      have hml1 : ml.length = 19 := by rw [hml]; simp only [List.length_set]; exact hnn
      have HMO := Lib.hid (show ∀ u ∈ ml, u.oneCell' = true by
        have := movedC_one od id zone control stamp
        intro u hu
        rw [hml, hnl] at hu
        simp only [newO, List.set_cons_succ, List.set_cons_zero, List.mem_cons, List.not_mem_nil, or_false] at hu
        rcases hu with rfl | rfl | rfl | rfl | rfl | rfl | rfl | rfl | rfl | rfl | rfl | rfl | rfl | rfl | rfl | rfl | rfl | rfl | rfl <;> rfl)
      have HIN := Lib.hid (show (Try.prog.info? 47).map (·.size) = some ml.length by rw [infoObject, hml1])
      have hrg := mx.range
      have htt : W6.there (w.heap.size + 1) 0 ml.length := by rw [hml1]; exact rz.there
      rw [hW6, hW5, hW4] at hrg htt
      have RGN := Lib.hid hrg
      have HTT := Lib.hid htt
      have BE := Lib.hid (rz.setAll ml hml1)
      have B6 := Lib.hid b6
      have HML := Lib.hid hml
      have HW6 := Lib.hid (show W6 = _ by rw [hW6, hW5, hW4])
      clear b3 hnl hnn hW4 nz b4 ht hW5 nx hz hz3 bb hW6 hml mx rz b6 hml1 hrg htt
      go_wp2_with (first | ((with_reducible refine wpList_store_cs rfl 47 (.tmp 11) (.tmp 19) rfl w3.heap.size 0 nl ?_ ?_ HT.out HI.out HO1.out ?_); rfl; rfl) | ((with_reducible refine wpList_load_mid rfl 47 (.tmp 11) rfl w3.heap.size 0 ?_ ml _ RGN.out Try.underlying47 rfl HIN.out ?_); rfl) | ((with_reducible refine wpList_store_cs rfl 47 (.tmp 10) (.tmp 34) rfl (w.heap.size + 1) 0 ml ?_ ?_ HTT.out HIN.out HMO.out ?_); rfl; rfl))
      rw [← HW6.out]
      refine bodyPost_ret (results_cs Try.results42 (w.heap.size + 1) ?_ ml _ (Bx.range BE.out) Try.underlying47 rfl HIN.out) rfl ?_
      · rfl
      · exact ⟨by rw [HML.out, HNL.out], below_sets _ _ _ B6.out _ (by omega)⟩
  · rw [h0] at hcc
    have hc2 : control = cc := by rw [hcc]; rfl
    rw [h0] at hb7
    subst hc2
    subst hb7
    clear hcc
    go_enter Try.func42, Try.ntmps42
    go_wp2_with fail
    rw [← HW0.out]
    refine HNEW.out.mono ?_
    rintro e w3 ⟨rfl, b3⟩
    have hnl := HNL.out
    have hnn : nl.length = 19 := by rw [hnl]; rfl
    obtain ⟨W4, hW4⟩ : ∃ W, W = w3.alloc (.cells #[.int .i64 0, .int .i64 0, .int .i64 0, .int .i64 0, .int .i64 0, .bool false, .bool false, .bool false, .bool false, .int .i64 0, .int .i64 0, .int .i64 0, .int .i64 0, .int .i64 0, .int .i64 0, .int .i64 0, .bool false, .int .i64 0, .int .i64 0] 47) := ⟨_, rfl⟩
    have nz : Bx W4 w3.heap.size 47 zObjC.1 := by rw [hW4]; exact Bx.new w3 zObjC.1 _
    have b4 : Below w3.heap.size w3 W4 := by rw [hW4]; exact (Below.refl _ _).alloc (Nat.le_refl _) _
    have ht : W4.there w3.heap.size 0 nl.length := by rw [hnn]; exact nz.there
    rw [hW4] at ht
    have HT := Lib.hid ht
    have HI := Lib.hid (show (Try.prog.info? 47).map (·.size) = some nl.length by rw [infoObject, hnn])
    have HO1 := Lib.hid (show ∀ u ∈ nl, u.oneCell' = true by rw [hnl]; exact newO_one _ _ _ _ _)
    obtain ⟨W5, hW5⟩ : ∃ W, W = W4.setCells w3.heap.size 0 nl := ⟨_, rfl⟩
    have nx : Bx W5 w3.heap.size 47 nl := by rw [hW5]; exact nz.setAll nl hnn
    have hz := HS0.out
    have hz3 := b3.size
    have bb : Below W0.heap.size W0 W5 := by rw [hW5]; exact below_sets _ _ _ (b3.trans (b4.mono b3.size)) _ b3.size
    have co5 := (OB.out.old bb).cell 5 _ (HO.out.bool 5 rfl).1
    have f5 := nx.frozen 5
    have f3 := nx.frozen 3
    have f7 := nx.frozen 7
    have k5 := nx.cell 5 (.bool false) (by rw [hnl]; rfl)
    have k3 := nx.cell 3 (.int .i64 (dint od 2)) (by rw [hnl]; rfl)
    have k7 := nx.cell 7 (.bool false) (by rw [hnl]; rfl)
    rw [hW5, hW4] at co5 f5 f3 f7 k5 k3 k7
    obtain ⟨W6, hW6⟩ : ∃ W, W = ((W5.setCell ⟨w3.heap.size, 5, none⟩ (.bool (dbool od 5))).setCell ⟨w3.heap.size, 3, none⟩ (.int .i64 control)).setCell ⟨w3.heap.size, 7, none⟩ (.bool true) := ⟨_, rfl⟩
    obtain ⟨ml, hml⟩ : ∃ ml, ml = ((nl.set 5 (.bool (dbool od 5))).set 3 (.int .i64 control)).set 7 (.bool true) := ⟨_, rfl⟩
    have mx : Bx W6 w3.heap.size 47 ml := by
      rw [hW6, hml]
      exact ((nx.set 5 _).set 3 _).set 7 _
    have rz : Bx W6 (w.heap.size + 1) 47 zObjC.1 := by
      rw [hW6]
      exact (((RS.out.old bb).other _ _ (by omega)).other _ _ (by omega)).other _ _ (by omega)
    have b6 : Below w.heap.size w W6 := by
      rw [hW6]
      refine below_set (below_set (below_set ?_ _ _ _ (by omega)) _ _ _ (by omega)) _ _ _ (by omega)
      exact B0.out.trans (bb.mono B0.out.size)
    have hml1 : ml.length = 19 := by rw [hml]; simp only [List.length_set]; exact hnn
    have HMO := Lib.hid (show ∀ u ∈ ml, u.oneCell' = true by
      have := movedC_one od id zone control stamp
      intro u hu
      rw [hml, hnl] at hu
      simp only [newO, List.set_cons_succ, List.set_cons_zero, List.mem_cons, List.not_mem_nil, or_false] at hu
      rcases hu with rfl | rfl | rfl | rfl | rfl | rfl | rfl | rfl | rfl | rfl | rfl | rfl | rfl | rfl | rfl | rfl | rfl | rfl | rfl <;> rfl)
    have HIN := Lib.hid (show (Try.prog.info? 47).map (·.size) = some ml.length by rw [infoObject, hml1])
    have hrg := mx.range
    have htt : W6.there (w.heap.size + 1) 0 ml.length := by rw [hml1]; exact rz.there
    rw [hW6, hW5, hW4] at hrg htt
    have RGN := Lib.hid hrg
    have HTT := Lib.hid htt
    have BE := Lib.hid (rz.setAll ml hml1)
    have B6 := Lib.hid b6
    have HML := Lib.hid hml
    have HW6 := Lib.hid (show W6 = _ by rw [hW6, hW5, hW4])
    clear b3 hnl hnn hW4 nz b4 ht hW5 nx hz hz3 bb hW6 hml mx rz b6 hml1 hrg htt
    go_wp2_with (first | ((with_reducible refine wpList_store_cs rfl 47 (.tmp 11) (.tmp 19) rfl w3.heap.size 0 nl ?_ ?_ HT.out HI.out HO1.out ?_); rfl; rfl) | ((with_reducible refine wpList_load_mid rfl 47 (.tmp 11) rfl w3.heap.size 0 ?_ ml _ RGN.out Try.underlying47 rfl HIN.out ?_); rfl) | ((with_reducible refine wpList_store_cs rfl 47 (.tmp 10) (.tmp 34) rfl (w.heap.size + 1) 0 ml ?_ ?_ HTT.out HIN.out HMO.out ?_); rfl; rfl))
    rw [← HW6.out]
    refine bodyPost_ret (results_cs Try.results42 (w.heap.size + 1) ?_ ml _ (Bx.range BE.out) Try.underlying47 rfl HIN.out) rfl ?_
    · rfl
    · exact ⟨by rw [HML.out, HNL.out], below_sets _ _ _ B6.out _ (by omega)⟩
end Go.Proofs.Ytiebjkbofoppaaa
