/- Chapter 25: fair, alive. -/
import Derived.Test.YtiebjkbofoppaaaZoH
namespace Go.Proofs.Ytiebjkbofoppaaa
open Go Go.RowKit Go.Sort Cg
/-- Fair states. -/
def fairP (ds : List D) : Prop := (dxs ds 1).length ≤ 200 ∧ (dxs ds 0).length ≤ 8 ∧ -1099511627776 < dint ds 13 ∧ dint ds 13 < 1099511627776 ∧ -1099511627776 < dint ds 14 ∧ dint ds 14 < 1099511627776
instance (ds : List D) : Decidable (fairP ds) := by unfold fairP; exact inferInstance
set_option maxRecDepth 100000 in
set_option maxHeartbeats 4000000 in
theorem fair_prog (F : Nat → Prop) (L : Nat) (cs : List Value) (ds : List D) (w : World) (h : RdL F L w kState cs ds) (hL : L ≤ 140737488355328) :
    Calls Try.prog 10 #[.agg cs.toArray] w fun e w' => e = .returned (.bool (decide (fairP ds))) ∧ Below w.heap.size w w' := by
  obtain ⟨W0, hW0⟩ : ∃ W, W = w.alloc (.cells cs.toArray 30) := ⟨_, rfl⟩
  have bx : Bx W0 w.heap.size 30 cs := by rw [hW0]; exact Bx.new _ _ _
  have b0 : Below w.heap.size w W0 := by rw [hW0]; exact (Below.refl w.heap.size w).alloc (Nat.le_refl _) _
  obtain ⟨v0, hv0, _, r0⟩ := h.sl 0 _ _ rfl
  obtain ⟨v1, hv1, _, r1⟩ := h.sl 1 _ _ rfl
  have c13 := bx.cell 13 _ (h.int 13 rfl).1
  have c14 := bx.cell 14 _ (h.int 14 rfl).1
  obtain ⟨a0, k0, rfl, _, hb0, _⟩ := r0.form
  obtain ⟨a1, k1, rfl, _, hb1, _⟩ := r1.form
  have c0 := bx.cell 0 _ hv0
  have c1 := bx.cell 1 _ hv1
  rw [hW0] at c0 c1 c13 c14
  have n0 : (dxs ds 0).length ≤ 1000000000000000000 := by omega
  have n1 : (dxs ds 1).length ≤ 1000000000000000000 := by omega
  have B0 := Lib.hid (show Below w.heap.size w (w.alloc (.cells cs.toArray 30)) by rw [← hW0]; exact b0)
  clear hv0 hv1 r0 r1 hb0 hb1 b0 bx hW0 h hL
  obtain ⟨m0, hm0⟩ : ∃ m, m = (dxs ds 0).length := ⟨_, rfl⟩
  obtain ⟨m1, hm1⟩ : ∃ m, m = (dxs ds 1).length := ⟨_, rfl⟩
  obtain ⟨x13, hx13⟩ : ∃ x, x = dint ds 13 := ⟨_, rfl⟩
  obtain ⟨x14, hx14⟩ : ∃ x, x = dint ds 14 := ⟨_, rfl⟩
  have hd : decide (fairP ds) = decide (m1 ≤ 200 ∧ m0 ≤ 8 ∧ -1099511627776 < x13 ∧ x13 < 1099511627776 ∧ -1099511627776 < x14 ∧ x14 < 1099511627776) := by rw [hm0, hm1, hx13, hx14]; rfl
  rw [hd]
  rw [← hm0] at c0 n0
  rw [← hm1] at c1 n1
  rw [← hx13] at c13
  rw [← hx14] at c14
  clear hd hm0 hm1 hx13 hx14
  obtain ⟨rb, hrb⟩ : ∃ rb, rb = decide (m1 ≤ 200 ∧ m0 ≤ 8 ∧ -1099511627776 < x13 ∧ x13 < 1099511627776 ∧ -1099511627776 < x14 ∧ x14 < 1099511627776) := ⟨_, rfl⟩
  rw [← hrb]
  by_cases hA : m1 ≤ 200
  · have hAi : (m1 : Int) ≤ 200 := by omega
    by_cases hB : m0 ≤ 8
    · have hBi : (m0 : Int) ≤ 8 := by omega
      by_cases hC : -1099511627776 < x13
      · by_cases hD : x13 < 1099511627776
        · by_cases hE : -1099511627776 < x14
          · by_cases hF : x14 < 1099511627776
            · have HV := Lib.hid (show rb = true by rw [hrb]; exact decide_eq_true ⟨hA, hB, hC, hD, hE, hF⟩)
              clear hrb
              go_enter Try.func10, Try.ntmps10
              go_wp2_with fail
              go_ret
              exact ⟨by rw [HV.out]; rfl, B0.out⟩
            · have HV := Lib.hid (show rb = false by rw [hrb]; exact decide_eq_false (fun hq => hF hq.2.2.2.2.2))
              clear hrb
              go_enter Try.func10, Try.ntmps10
              go_wp2_with fail
              go_ret
              exact ⟨by rw [HV.out]; rfl, B0.out⟩
          · have HV := Lib.hid (show rb = false by rw [hrb]; exact decide_eq_false (fun hq => hE hq.2.2.2.2.1))
            clear hrb
            go_enter Try.func10, Try.ntmps10
            go_wp2_with fail
            go_ret
            exact ⟨by rw [HV.out]; rfl, B0.out⟩
        · have HV := Lib.hid (show rb = false by rw [hrb]; exact decide_eq_false (fun hq => hD hq.2.2.2.1))
          clear hrb
          go_enter Try.func10, Try.ntmps10
          go_wp2_with fail
          go_ret
          exact ⟨by rw [HV.out]; rfl, B0.out⟩
      · have HV := Lib.hid (show rb = false by rw [hrb]; exact decide_eq_false (fun hq => hC hq.2.2.1))
        clear hrb
        go_enter Try.func10, Try.ntmps10
        go_wp2_with fail
        go_ret
        exact ⟨by rw [HV.out]; rfl, B0.out⟩
    · have HV := Lib.hid (show rb = false by rw [hrb]; exact decide_eq_false (fun hq => hB hq.2.1))
      clear hrb
      have hBi : ¬ ((m0 : Int) ≤ 8) := by omega
      go_enter Try.func10, Try.ntmps10
      go_wp2_with fail
      go_ret
      exact ⟨by rw [HV.out]; rfl, B0.out⟩
  · have HV := Lib.hid (show rb = false by rw [hrb]; exact decide_eq_false (fun hq => hA hq.1))
    clear hrb
    have hAi : ¬ ((m1 : Int) ≤ 200) := by omega
    go_enter Try.func10, Try.ntmps10
    go_wp2_with fail
    go_ret
    exact ⟨by rw [HV.out]; rfl, B0.out⟩
/-- Cells that read without memory. -/
def litS (k : K) (v : Value) : Bool := match k, v with
  | .lit .int, .int .i64 _ => true
  | .lit .u64, .int .u64 _ => true
  | .lit .bool, .bool _ => true
  | .sl _ _, .slice none 0 0 => true
  | _, _ => false
def litD (v : Value) : D := match v with
  | .slice _ _ _ => .sl []
  | v => .lit v
theorem litS_rd (F : Nat → Prop) (L : Nat) (w : World) : ∀ (ks : List K) (vs : List Value), (List.zip ks vs).all (fun p => litS p.1 p.2) = true → ks.length = vs.length → RdL F L w ks vs (vs.map litD) := by
  intro ks
  induction ks with
  | nil => intro vs _ hl; match vs, hl with
    | [], _ => exact .nil
  | cons k ks ih =>
    intro vs hall hl
    match vs, hl with
    | v :: vs, hl =>
      simp only [List.zip_cons_cons, List.all_cons, Bool.and_eq_true] at hall
      refine .cons ?_ (ih vs hall.2 (by simpa using hl))
      have h1 := hall.1
      match k, v, h1 with
      | .lit .int, .int .i64 n, _ => exact .lit ⟨n, rfl⟩
      | .lit .u64, .int .u64 n, _ => exact .lit ⟨n, rfl⟩
      | .lit .bool, .bool b, _ => exact .lit ⟨b, rfl⟩
      | .sl e b, .slice none 0 0, _ => exact .slNil (fun _ => rfl)
def aPl (n : Nat) : List Value := [.int .i64 0, .int .i64 0, .int .i64 0, .int .i64 0, .int .i64 0, .int .i64 0, .int .i64 0, .int .i64 0, .int .i64 0, .bool false, .bool false, .slice (some ⟨n + 1, 0, none⟩) 1 1, .slice (some ⟨n, 0, none⟩) 1 1, .slice none 0 0, .int .i64 0, .int .i64 0, .int .i64 0, .int .i64 0, .int .i64 0, .int .i64 0, .int .i64 0, .int .i64 0, .int .i64 0, .bool false, .bool false, .slice none 0 0, .slice none 0 0, .slice none 0 0]
def aOb : List Value := [.int .i64 1, .int .i64 4, .int .i64 0, .int .i64 0, .int .i64 1, .bool false, .bool false, .bool false, .bool false, .int .i64 0, .int .i64 0, .int .i64 0, .int .i64 0, .int .i64 0, .int .i64 (-1), .int .i64 (-1), .bool false, .int .i64 0, .int .i64 0, .int .i64 2, .int .i64 5, .int .i64 0, .int .i64 0, .int .i64 2, .bool false, .bool false, .bool false, .bool false, .int .i64 0, .int .i64 0, .int .i64 0, .int .i64 0, .int .i64 0, .int .i64 (-1), .int .i64 (-1), .bool false, .int .i64 0, .int .i64 0]
def aSt (n : Nat) : List Value := .slice (some ⟨n + 2, 0, none⟩) 2 2 :: .slice (some ⟨n + 4, 0, none⟩) 2 2 :: [.slice none 0 0, .slice none 0 0, .slice none 0 0, .slice none 0 0, .slice none 0 0, .int .i64 0, .int .i64 0, .int .i64 0, .bool false, .int .i64 0, .int .i64 0, .int .i64 3, .int .i64 9, .int .u64 0, .slice none 0 0, .int .i64 0, .int .i64 0]
def aP1 : List D := ([.int .i64 0, .int .i64 0, .int .i64 0, .int .i64 0, .int .i64 0, .int .i64 0, .int .i64 0, .int .i64 0, .int .i64 0, .bool false, .bool false] : List Value).map .lit ++ [.sl [[dI 2]], .sl [[dI 1]], .sl []]
def aP2 : List D := ([.int .i64 0, .int .i64 0, .int .i64 0, .int .i64 0, .int .i64 0, .int .i64 0, .int .i64 0, .int .i64 0, .int .i64 0, .bool false, .bool false, .slice none 0 0, .slice none 0 0, .slice none 0 0] : List Value).map litD
def aDs : List D := .sl [aP1, aP2] :: .sl [(aOb.take 19).map .lit, (aOb.drop 19).map .lit] :: ([.slice none 0 0, .slice none 0 0, .slice none 0 0, .slice none 0 0, .slice none 0 0, .int .i64 0, .int .i64 0, .int .i64 0, .bool false, .int .i64 0, .int .i64 0, .int .i64 3, .int .i64 9, .int .u64 0, .slice none 0 0, .int .i64 0, .int .i64 0] : List Value).map litD
def aS0 (n : Nat) : List Value := .slice (some ⟨n + 2, 0, none⟩) 2 2 :: .slice none 0 0 :: [.slice none 0 0, .slice none 0 0, .slice none 0 0, .slice none 0 0, .slice none 0 0, .int .i64 0, .int .i64 0, .int .i64 0, .bool false, .int .i64 0, .int .i64 0, .int .i64 3, .int .i64 9, .int .u64 0, .slice none 0 0, .int .i64 0, .int .i64 0]
def aW3 (w : World) : World := ((w.alloc (.cells #[.int .i64 1] 3)).alloc (.cells #[.int .i64 2] 3)).alloc (.cells (aPl w.heap.size).toArray 59)
def aWB (w : World) : World := ((aW3 w).alloc (.cells zsC.toArray 30)).setCells (w.heap.size + 3) 0 (aS0 w.heap.size)
def aW (w : World) : World := ((aWB w).alloc (.cells aOb.toArray 47)).setCell ⟨w.heap.size + 3, 1, none⟩ (.slice (some ⟨w.heap.size + 4, 0, none⟩) 2 2)
theorem a_blocks (w : World) : Below w.heap.size w (aW w) ∧ (aW w).heap.size = w.heap.size + 5 ∧ Bx (aW w) w.heap.size 3 [.int .i64 1] ∧ Bx (aW w) (w.heap.size + 1) 3 [.int .i64 2] ∧ Bx (aW w) (w.heap.size + 2) 59 (aPl w.heap.size) ∧ Bx (aW w) (w.heap.size + 3) 30 (aSt w.heap.size) ∧ Bx (aW w) (w.heap.size + 4) 47 aOb ∧
    (aWB w).heap.size = w.heap.size + 4 ∧ ((aW3 w).alloc (.cells zsC.toArray 30)).there (w.heap.size + 3) 0 19 ∧ Bx ((aWB w).alloc (.cells aOb.toArray 47)) (w.heap.size + 3) 30 (aS0 w.heap.size) := by
  obtain ⟨w1, h1⟩ : ∃ x, x = w.alloc (.cells #[.int .i64 1] 3) := ⟨_, rfl⟩
  obtain ⟨w2, h2⟩ : ∃ x, x = w1.alloc (.cells #[.int .i64 2] 3) := ⟨_, rfl⟩
  obtain ⟨w3, h3⟩ : ∃ x, x = w2.alloc (.cells (aPl w.heap.size).toArray 59) := ⟨_, rfl⟩
  obtain ⟨w4, h4⟩ : ∃ x, x = w3.alloc (.cells zsC.toArray 30) := ⟨_, rfl⟩
  obtain ⟨wb, hb⟩ : ∃ x, x = w4.setCells (w.heap.size + 3) 0 (aS0 w.heap.size) := ⟨_, rfl⟩
  obtain ⟨w5, h5⟩ : ∃ x, x = wb.alloc (.cells aOb.toArray 47) := ⟨_, rfl⟩
  have e3 : aW3 w = w3 := by rw [h3, h2, h1]; rfl
  have eb : aWB w = wb := by rw [hb, h4, ← e3]; rfl
  have e : aW w = w5.setCell ⟨w.heap.size + 3, 1, none⟩ (.slice (some ⟨w.heap.size + 4, 0, none⟩) 2 2) := by rw [h5, ← eb]; rfl
  rw [eb, e3, ← h4, ← h5]
  have s1 : w1.heap.size = w.heap.size + 1 := by rw [h1]; simp
  have s2 : w2.heap.size = w.heap.size + 2 := by rw [h2]; simp [s1]
  have s3 : w3.heap.size = w.heap.size + 3 := by rw [h3]; simp [s2]
  have s4 : w4.heap.size = w.heap.size + 4 := by rw [h4]; simp [s3]
  have sb : wb.heap.size = w.heap.size + 4 := by rw [hb, sets_size, s4]
  have s5 : w5.heap.size = w.heap.size + 5 := by rw [h5]; simp [sb]
  have b1 : Below w.heap.size w w1 := by rw [h1]; exact (Below.refl _ _).alloc (Nat.le_refl _) _
  have b2 : Below w1.heap.size w1 w2 := by rw [h2]; exact (Below.refl _ _).alloc (Nat.le_refl _) _
  have b3 : Below w2.heap.size w2 w3 := by rw [h3]; exact (Below.refl _ _).alloc (Nat.le_refl _) _
  have b4 : Below w3.heap.size w3 w4 := by rw [h4]; exact (Below.refl _ _).alloc (Nat.le_refl _) _
  have bb : Below w3.heap.size w3 wb := by rw [hb]; exact below_sets _ _ _ b4 _ (by omega)
  have b5 : Below wb.heap.size wb w5 := by rw [h5]; exact (Below.refl _ _).alloc (Nat.le_refl _) _
  have b35 : Below w3.heap.size w3 w5 := bb.trans (b5.mono bb.size)
  have b6 : Below w3.heap.size w3 (aW w) := by rw [e]; exact below_set b35 _ _ _ (by omega)
  have x4 : Bx w4 (w.heap.size + 3) 30 zsC := by rw [h4, ← s3]; exact Bx.new _ _ _
  have xb : Bx wb (w.heap.size + 3) 30 (aS0 w.heap.size) := by rw [hb]; exact x4.setAll _ rfl
  have x5 := xb.old b5
  refine ⟨b1.trans ((b2.mono (by omega)).trans ((b3.mono (by omega)).trans (b6.mono (by omega)))), by rw [e]; simp only [World.setCell, Array.size_modify]; exact s5, ?_, ?_, ?_, ?_, ?_, sb, x4.there, x5⟩
  · have : Bx w1 w.heap.size 3 [.int .i64 1] := by rw [h1]; exact Bx.new w [.int .i64 1] _
    exact ((this.old b2).old b3).old b6
  · have : Bx w2 w1.heap.size 3 [.int .i64 2] := by rw [h2]; exact Bx.new w1 [.int .i64 2] _
    rw [s1] at this
    exact (this.old b3).old b6
  · have : Bx w3 w2.heap.size 59 (aPl w.heap.size) := by rw [h3]; exact Bx.new _ _ _
    rw [s2] at this
    exact this.old b6
  · rw [e]
    exact x5.set 1 _
  · rw [e]
    have : Bx w5 (w.heap.size + 4) 47 aOb := by rw [h5, ← sb]; exact Bx.new _ _ _
    exact this.other _ _ (by omega)
theorem take_get {α : Type} {l : List α} {n i : Nat} {u : α} (h : (l.take n)[i]? = some u) : l[i]? = some u := by
  rw [List.getElem?_take] at h
  split at h
  · exact h
  · cases h
theorem a_rd (w : World) : RdL (fun _ => True) 400 (aW w) kState (aSt w.heap.size) aDs := by
  obtain ⟨_, hs, x0, x1, x2, _, x4, _⟩ := a_blocks w
  have i0 : RdC (fun _ => True) 400 (aW w) kInts (.slice (some ⟨w.heap.size, 0, none⟩) 1 1) (.sl [[dI 1]]) := .slSome rfl (by omega) (by omega) trivial (by omega) (.cons (vs := [.int .i64 1]) (fun i u hu => by rw [Nat.zero_add]; exact x0.cell i u hu) (.cons (.lit ⟨1, rfl⟩) .nil) .nil)
  have i1 : RdC (fun _ => True) 400 (aW w) kInts (.slice (some ⟨w.heap.size + 1, 0, none⟩) 1 1) (.sl [[dI 2]]) := .slSome rfl (by omega) (by omega) trivial (by omega) (.cons (vs := [.int .i64 2]) (fun i u hu => by rw [Nat.zero_add]; exact x1.cell i u hu) (.cons (.lit ⟨2, rfl⟩) .nil) .nil)
  have p1 : RdL (fun _ => True) 400 (aW w) kPlayer ((aPl w.heap.size).take 14) aP1 :=
    (litS_rd _ _ _ (kPlayer.take 11) [.int .i64 0, .int .i64 0, .int .i64 0, .int .i64 0, .int .i64 0, .int .i64 0, .int .i64 0, .int .i64 0, .int .i64 0, .bool false, .bool false] rfl rfl).append (.cons i1 (.cons i0 (.cons (.slNil (fun _ => rfl)) .nil)))
  have p2 : RdL (fun _ => True) 400 (aW w) kPlayer ((aPl w.heap.size).drop 14) aP2 := litS_rd _ _ _ kPlayer _ rfl rfl
  have q1 : RdL (fun _ => True) 400 (aW w) kObject (aOb.take 19) ((aOb.take 19).map .lit) := (lits_rd (aW w) kObject _ rfl rfl).any flatObject
  have q2 : RdL (fun _ => True) 400 (aW w) kObject (aOb.drop 19) ((aOb.drop 19).map .lit) := (lits_rd (aW w) kObject _ rfl rfl).any flatObject
  refine .cons (.slSome rfl (by omega) (by omega) trivial (by omega) ?_) (.cons (.slSome rfl (by omega) (by omega) trivial (by omega) ?_) (litS_rd _ _ _ (kState.drop 2) _ rfl rfl))
  · exact .cons (fun i u hu => by rw [Nat.zero_add]; exact x2.cell i u (take_get hu)) p1 (.cons (fun i u hu => by
      have : (0 + kPlayer.length + i) = 14 + i := by rw [show kPlayer.length = 14 by decide]
      rw [this]
      exact x2.cell (14 + i) u (by rwa [List.getElem?_drop] at hu)) p2 .nil)
  · exact .cons (fun i u hu => by rw [Nat.zero_add]; exact x4.cell i u (take_get hu)) q1 (.cons (fun i u hu => by
      have : (0 + kObject.length + i) = 19 + i := by rw [kObject_len]
      rw [this]
      exact x4.cell (19 + i) u (by rwa [List.getElem?_drop] at hu)) q2 .nil)
def aT : List D := (moveT aDs 1 0 1 false).1
theorem aT_facts : (moveT aDs 1 0 1 false).2 = 3 ∧ hasO 3 (dxs aT 1) = true ∧ dint (findO 3 (dxs aT 1)) 1 = 4 ∧ dint (findO 3 (dxs aT 1)) 2 = 0 ∧ dint (findO 3 (dxs aT 1)) 3 = 1 ∧ dbool (findO 3 (dxs aT 1)) 7 = true ∧ dint (findO 3 (dxs aT 1)) 13 = 9 ∧ whereT aT 3 = (0, 0, true) ∧ (dxs aT 0).length = 2 ∧ (dxs ((dxs aT 0).getD 0 []) 12).length = 0 ∧ dint aT 13 = 4 ∧ dint aT 14 = 10 ∧ (dxs (makeT aT 6 1) 2).length = 2 ∧ dint (makeT aT 6 1) 14 = 11 := by
  refine ⟨?_, ?_, ?_, ?_, ?_, ?_, ?_, ?_, ?_, ?_, ?_, ?_, ?_, ?_⟩ <;> kernel_rfl
theorem zsC_len : zsC.length = 19 := rfl
set_option maxRecDepth 100000 in
set_option maxHeartbeats 8000000 in
theorem alive_prog (w : World) : Calls Try.prog 11 #[] w fun e w' => e = .returned (.bool true) ∧ Below w.heap.size w w' := by
  obtain ⟨ba, hsz, _, _, _, xs, xo, zb, tz, xb⟩ := a_blocks w
  obtain ⟨W1, hW1⟩ : ∃ W, W = aW w := ⟨_, rfl⟩
  obtain ⟨cs, hcs⟩ : ∃ cs, cs = aSt w.heap.size := ⟨_, rfl⟩
  have RD := Lib.hid (show RdL (fun _ => True) 400 W1 kState cs aDs by rw [hW1, hcs]; exact a_rd w)
  obtain ⟨f1, f2, f3, f4, f5, f6, f7, f8, f9, f10, f11, f12, f13, f14⟩ := aT_facts
  have d13 : IntKind.i64.wrap (dint aDs 13 + 1) = dint aDs 13 + 1 := by kernel_rfl
  have d14 : IntKind.i64.wrap (dint aDs 14 + 1) = dint aDs 14 + 1 := by kernel_rfl
  have HM := Lib.hid (move_prog _ 400 cs aDs 1 0 1 false W1 RD.out (by omega) d13 d14)
  rw [f1] at HM
  have HAT := Lib.hid (show (moveT aDs 1 0 1 false).1 = aT from rfl)
  rw [HAT.out] at HM
  have XS := Lib.hid (show Bx W1 (w.heap.size + 3) 30 cs by rw [hW1, hcs]; exact xs)
  have XO := Lib.hid (show Bx W1 (w.heap.size + 4) 47 aOb by rw [hW1]; exact xo)
  have BA := Lib.hid (show Below w.heap.size w W1 by rw [hW1]; exact ba)
  have HSZ := Lib.hid (show W1.heap.size = w.heap.size + 5 by rw [hW1]; exact hsz)
  have HCL := Lib.hid (show cs.length = 19 by rw [hcs]; rfl)
  have HCS := Lib.hid hcs
  obtain ⟨WB, hWB⟩ : ∃ W, W = aWB w := ⟨_, rfl⟩
  obtain ⟨cs0, hcs0⟩ : ∃ l, l = aS0 w.heap.size := ⟨_, rfl⟩
  have HCA := Lib.hid (show cs0.toArray = #[.slice (some ⟨w.heap.size + 1 + 1, 0, none⟩) 2 2, .slice none 0 0, .slice none 0 0, .slice none 0 0, .slice none 0 0, .slice none 0 0, .slice none 0 0, .int .i64 0, .int .i64 0, .int .i64 0, .bool false, .int .i64 0, .int .i64 0, .int .i64 3, .int .i64 9, .int .u64 0, .slice none 0 0, .int .i64 0, .int .i64 0] by rw [hcs0]; rfl)
  have HWB := Lib.hid (show ((((w.alloc (.cells #[.int .i64 1] 3)).alloc (.cells #[.int .i64 2] 3)).alloc (.cells #[.int .i64 0, .int .i64 0, .int .i64 0, .int .i64 0, .int .i64 0, .int .i64 0, .int .i64 0, .int .i64 0, .int .i64 0, .bool false, .bool false, .slice (some ⟨w.heap.size + 1, 0, none⟩) 1 1, .slice (some ⟨w.heap.size, 0, none⟩) 1 1, .slice none 0 0, .int .i64 0, .int .i64 0, .int .i64 0, .int .i64 0, .int .i64 0, .int .i64 0, .int .i64 0, .int .i64 0, .int .i64 0, .bool false, .bool false, .slice none 0 0, .slice none 0 0, .slice none 0 0] 59)).alloc (.cells #[.slice none 0 0, .slice none 0 0, .slice none 0 0, .slice none 0 0, .slice none 0 0, .slice none 0 0, .slice none 0 0, .int .i64 0, .int .i64 0, .int .i64 0, .bool false, .int .i64 0, .int .i64 0, .int .i64 0, .int .i64 0, .int .u64 0, .slice none 0 0, .int .i64 0, .int .i64 0] 30)).setCells (w.heap.size + 1 + 1 + 1) 0 cs0 = WB by rw [hWB, hcs0]; rfl)
  rw [← hWB, ← hcs0] at xb
  have TZ := Lib.hid (show ((((w.alloc (.cells #[.int .i64 1] 3)).alloc (.cells #[.int .i64 2] 3)).alloc (.cells #[.int .i64 0, .int .i64 0, .int .i64 0, .int .i64 0, .int .i64 0, .int .i64 0, .int .i64 0, .int .i64 0, .int .i64 0, .bool false, .bool false, .slice (some ⟨w.heap.size + 1, 0, none⟩) 1 1, .slice (some ⟨w.heap.size, 0, none⟩) 1 1, .slice none 0 0, .int .i64 0, .int .i64 0, .int .i64 0, .int .i64 0, .int .i64 0, .int .i64 0, .int .i64 0, .int .i64 0, .int .i64 0, .bool false, .bool false, .slice none 0 0, .slice none 0 0, .slice none 0 0] 59)).alloc (.cells #[.slice none 0 0, .slice none 0 0, .slice none 0 0, .slice none 0 0, .slice none 0 0, .slice none 0 0, .slice none 0 0, .int .i64 0, .int .i64 0, .int .i64 0, .bool false, .int .i64 0, .int .i64 0, .int .i64 0, .int .i64 0, .int .u64 0, .slice none 0 0, .int .i64 0, .int .i64 0] 30)).there (w.heap.size + 1 + 1 + 1) 0 cs0.length from by rw [hcs0]; exact tz)
  have IZ := Lib.hid (show (Try.prog.info? 30).map (·.size) = some cs0.length by rw [infoState, hcs0]; rfl)
  have OZ := Lib.hid (show ∀ u ∈ cs0, u.oneCell' = true by
    intro u hu
    simp only [hcs0, aS0, List.mem_cons, List.not_mem_nil, or_false] at hu
    rcases hu with rfl | rfl | rfl | rfl | rfl | rfl | rfl | rfl | rfl | rfl | rfl | rfl | rfl | rfl | rfl | rfl | rfl | rfl | rfl <;> rfl)
  have zw : WB.heap.size = w.heap.size + 4 := by rw [hWB]; exact zb
  have HZW := Lib.hid zw
  have k1 : (WB.alloc (.cells #[.int .i64 1, .int .i64 4, .int .i64 0, .int .i64 0, .int .i64 1, .bool false, .bool false, .bool false, .bool false, .int .i64 0, .int .i64 0, .int .i64 0, .int .i64 0, .int .i64 0, .int .i64 (-1), .int .i64 (-1), .bool false, .int .i64 0, .int .i64 0, .int .i64 2, .int .i64 5, .int .i64 0, .int .i64 0, .int .i64 2, .bool false, .bool false, .bool false, .bool false, .int .i64 0, .int .i64 0, .int .i64 0, .int .i64 0, .int .i64 0, .int .i64 (-1), .int .i64 (-1), .bool false, .int .i64 0, .int .i64 0] 47)).cell? ⟨w.heap.size + 1 + 1 + 1, 1, none⟩ = some (.slice none 0 0) := xb.cell 1 _ (by rw [hcs0]; rfl)
  have k2 : (WB.alloc (.cells #[.int .i64 1, .int .i64 4, .int .i64 0, .int .i64 0, .int .i64 1, .bool false, .bool false, .bool false, .bool false, .int .i64 0, .int .i64 0, .int .i64 0, .int .i64 0, .int .i64 0, .int .i64 (-1), .int .i64 (-1), .bool false, .int .i64 0, .int .i64 0, .int .i64 2, .int .i64 5, .int .i64 0, .int .i64 0, .int .i64 2, .bool false, .bool false, .bool false, .bool false, .int .i64 0, .int .i64 0, .int .i64 0, .int .i64 0, .int .i64 0, .int .i64 (-1), .int .i64 (-1), .bool false, .int .i64 0, .int .i64 0] 47)).frozen? ⟨w.heap.size + 1 + 1 + 1, 1, none⟩ = false := xb.frozen 1
  have HW1 := Lib.hid (show (WB.alloc (.cells #[.int .i64 1, .int .i64 4, .int .i64 0, .int .i64 0, .int .i64 1, .bool false, .bool false, .bool false, .bool false, .int .i64 0, .int .i64 0, .int .i64 0, .int .i64 0, .int .i64 0, .int .i64 (-1), .int .i64 (-1), .bool false, .int .i64 0, .int .i64 0, .int .i64 2, .int .i64 5, .int .i64 0, .int .i64 0, .int .i64 2, .bool false, .bool false, .bool false, .bool false, .int .i64 0, .int .i64 0, .int .i64 0, .int .i64 0, .int .i64 0, .int .i64 (-1), .int .i64 (-1), .bool false, .int .i64 0, .int .i64 0] 47)).setCell ⟨w.heap.size + 1 + 1 + 1, 1, none⟩ (.slice (some ⟨WB.heap.size, 0, none⟩) 2 2) = W1 by rw [hW1, zw, hWB]; rfl)
  have rg1 : W1.rangeAt (w.heap.size + 3) 0 cs := by rw [hW1, hcs]; exact xs.range
  rw [← HW1.out] at rg1
  have RG1 := Lib.hid rg1
  have HI1 := Lib.hid (show (Try.prog.info? 30).map (·.size) = some cs.length by rw [infoState, hcs]; rfl)
  have HF2 := Lib.hid f2
  have F3 := Lib.hid (And.intro f3 (And.intro f4 (And.intro f5 (And.intro f6 f7))))
  have F8 := Lib.hid f8
  have F9 := Lib.hid (And.intro f9 f10)
  have F11 := Lib.hid (And.intro f11 f12)
  have F13 := Lib.hid (And.intro f13 f14)
  clear ba hsz xs xo zb tz xb hWB hcs0 zw rg1 hW1 hcs d13 d14 f1 f2 f3 f4 f5 f6 f7 f8 f9 f10 f11 f12 f13 f14
  go_enter Try.func11, Try.ntmps11
  go_wp2_with (first | ((with_reducible refine wpList_store_cs rfl 30 (.tmp 1) (.tmp 16) rfl (w.heap.size + 1 + 1 + 1) 0 cs0 ?_ ?_ TZ.out IZ.out OZ.out ?_); rfl; (rw [HCA.out]; rfl); rw [HWB.out]) | ((with_reducible refine wpList_load_mid rfl 30 (.tmp 1) rfl (w.heap.size + 3) 0 ?_ cs _ RG1.out Try.underlying30 rfl HI1.out ?_); rfl))
  rw [HW1.out]
  refine HM.out.mono ?_
  rintro e w2 ⟨cs2, F2, rfl, r2, b2⟩
  have hl2 := r2.len.1
  rw [kState_len] at hl2
  obtain ⟨W3a, hW3a⟩ : ∃ W, W = w2.alloc (.cells #[.slice none 0 0, .slice none 0 0, .slice none 0 0, .slice none 0 0, .slice none 0 0, .slice none 0 0, .slice none 0 0, .int .i64 0, .int .i64 0, .int .i64 0, .bool false, .int .i64 0, .int .i64 0, .int .i64 0, .int .i64 0, .int .u64 0, .slice none 0 0, .int .i64 0, .int .i64 0] 30) := ⟨_, rfl⟩
  have zW3 : Bx W3a w2.heap.size 30 zsC := by rw [hW3a]; exact Bx.new w2 zsC _
  have lW3 : zsC.length = cs2.length := by rw [hl2]; rfl
  have tW3 := zW3.there
  rw [lW3, hW3a] at tW3
  have TW3 := Lib.hid tW3
  have IW3 := Lib.hid (show (Try.prog.info? 30).map (·.size) = some cs2.length by rw [infoState, hl2])
  have OW3 := Lib.hid (r2.one)
  obtain ⟨W3, hW3⟩ : ∃ W, W = W3a.setCells w2.heap.size 0 cs2 := ⟨_, rfl⟩
  have XW3 := Lib.hid (show Bx W3 w2.heap.size 30 cs2 by rw [hW3]; exact zW3.setAll cs2 lW3.symm)
  have bW3 : Below w2.heap.size w2 W3 := by rw [hW3]; exact below_sets _ _ _ (show Below w2.heap.size w2 W3a by rw [hW3a]; exact (Below.refl _ _).alloc (Nat.le_refl _) _) _ (Nat.le_refl _)
  have BW3 := Lib.hid bW3
  have HW3 := Lib.hid (show W3 = _ by rw [hW3, hW3a])
  clear hW3a zW3 lW3 tW3 hW3 bW3
  have R3 := Lib.hid (r2.old BW3.out)
  have HFI := Lib.hid (find_prog F2 _ cs2 aT 3 W3 R3.out (by omega))
  rw [HF2.out] at HFI
  have rg3 := XW3.out.range
  rw [HW3.out] at rg3
  have RG3 := Lib.hid rg3
  have B2 := Lib.hid b2
  have HL2 := Lib.hid hl2
  clear rg3 r2 b2 hl2
  go_wp2_with (first | ((with_reducible refine wpList_store_cs rfl 30 (.tmp 2) (.tmp 24) rfl w2.heap.size 0 cs2 ?_ ?_ TW3.out IW3.out OW3.out ?_); rfl; rfl) | ((with_reducible refine wpList_load_mid rfl 30 (.tmp 2) rfl w2.heap.size 0 ?_ cs2 _ RG3.out Try.underlying30 rfl IW3.out ?_); rfl))
  rw [← HW3.out]
  refine HFI.out.mono ?_
  rintro e w4 ⟨oc, rfl, ro, b4⟩
  have hol := ro.len.1
  rw [kObject_len] at hol
  obtain ⟨W5a, hW5a⟩ : ∃ W, W = w4.alloc (.cells #[.int .i64 0, .int .i64 0, .int .i64 0, .int .i64 0, .int .i64 0, .bool false, .bool false, .bool false, .bool false, .int .i64 0, .int .i64 0, .int .i64 0, .int .i64 0, .int .i64 0, .int .i64 0, .int .i64 0, .bool false, .int .i64 0, .int .i64 0] 47) := ⟨_, rfl⟩
  have zW5 : Bx W5a w4.heap.size 47 zObjC.1 := by rw [hW5a]; exact Bx.new w4 zObjC.1 _
  have lW5 : zObjC.1.length = oc.length := by rw [hol]; rfl
  have tW5 := zW5.there
  rw [lW5, hW5a] at tW5
  have TW5 := Lib.hid tW5
  have IW5 := Lib.hid (show (Try.prog.info? 47).map (·.size) = some oc.length by rw [infoObject, hol])
  have OW5 := Lib.hid (ro.one)
  obtain ⟨W5, hW5⟩ : ∃ W, W = W5a.setCells w4.heap.size 0 oc := ⟨_, rfl⟩
  have XW5 := Lib.hid (show Bx W5 w4.heap.size 47 oc by rw [hW5]; exact zW5.setAll oc lW5.symm)
  have bW5 : Below w4.heap.size w4 W5 := by rw [hW5]; exact below_sets _ _ _ (show Below w4.heap.size w4 W5a by rw [hW5a]; exact (Below.refl _ _).alloc (Nat.le_refl _) _) _ (Nat.le_refl _)
  have BW5 := Lib.hid bW5
  have HW5 := Lib.hid (show W5 = _ by rw [hW5, hW5a])
  clear hW5a zW5 lW5 tW5 hW5 bW5
  have bb := b4.trans (BW5.out.mono b4.size)
  have R5 := Lib.hid (R3.out.old bb)
  have HWH := Lib.hid (where_prog F2 _ cs2 aT 3 W5 R5.out (by omega))
  rw [F8.out] at HWH
  have XT5 := Lib.hid (XW3.out.old bb)
  have rg5 := XT5.out.range
  rw [HW5.out] at rg5
  have RG5 := Lib.hid rg5
  have B4 := Lib.hid b4
  have BB5 := Lib.hid bb
  have RO := Lib.hid ro
  clear rg5 ro b4 hol bb
  go_wp2_with (first | ((with_reducible refine wpList_store_cs rfl 47 (.tmp 4) (.tmp 29) rfl w4.heap.size 0 oc ?_ ?_ TW5.out IW5.out OW5.out ?_); rfl; rfl) | ((with_reducible refine wpList_load_mid rfl 30 (.tmp 2) rfl w2.heap.size 0 ?_ cs2 _ RG5.out Try.underlying30 rfl IW3.out ?_); rfl))
  rw [← HW5.out]
  refine HWH.out.mono ?_
  rintro e w6 ⟨rfl, b6⟩
  have e13 : IntKind.i64.wrap (dint aT 13 + 1) = dint aT 13 + 1 := by rw [F11.out.1]; rfl
  have e14 : IntKind.i64.wrap (dint aT 14 + 1) = dint aT 14 + 1 := by rw [F11.out.2]; rfl
  have HMK := Lib.hid (make_prog F2 _ cs2 aT 6 1 w6 (R5.out.old b6) (by omega) e13 e14)
  rw [F11.out.1] at HMK
  have RG6 := Lib.hid (XT5.out.old b6).range
  have B6 := Lib.hid b6
  clear b6 e13 e14
  go_wp2_with ((with_reducible refine wpList_load_mid rfl 30 (.tmp 2) rfl w2.heap.size 0 ?_ cs2 _ RG6.out Try.underlying30 rfl IW3.out ?_); rfl)
  refine HMK.out.mono ?_
  rintro e w7 ⟨cs7, F7, rfl, r7, b7⟩
  have hl7 := r7.len.1
  rw [kState_len] at hl7
  obtain ⟨W8a, hW8a⟩ : ∃ W, W = w7.alloc (.cells #[.slice none 0 0, .slice none 0 0, .slice none 0 0, .slice none 0 0, .slice none 0 0, .slice none 0 0, .slice none 0 0, .int .i64 0, .int .i64 0, .int .i64 0, .bool false, .int .i64 0, .int .i64 0, .int .i64 0, .int .i64 0, .int .u64 0, .slice none 0 0, .int .i64 0, .int .i64 0] 30) := ⟨_, rfl⟩
  have zW8 : Bx W8a w7.heap.size 30 zsC := by rw [hW8a]; exact Bx.new w7 zsC _
  have lW8 : zsC.length = cs7.length := by rw [hl7]; rfl
  have tW8 := zW8.there
  rw [lW8, hW8a] at tW8
  have TW8 := Lib.hid tW8
  have IW8 := Lib.hid (show (Try.prog.info? 30).map (·.size) = some cs7.length by rw [infoState, hl7])
  have OW8 := Lib.hid (r7.one)
  obtain ⟨W8, hW8⟩ : ∃ W, W = W8a.setCells w7.heap.size 0 cs7 := ⟨_, rfl⟩
  have XW8 := Lib.hid (show Bx W8 w7.heap.size 30 cs7 by rw [hW8]; exact zW8.setAll cs7 lW8.symm)
  have bW8 : Below w7.heap.size w7 W8 := by rw [hW8]; exact below_sets _ _ _ (show Below w7.heap.size w7 W8a by rw [hW8a]; exact (Below.refl _ _).alloc (Nat.le_refl _) _) _ (Nat.le_refl _)
  have BW8 := Lib.hid bW8
  have HW8 := Lib.hid (show W8 = _ by rw [hW8, hW8a])
  clear hW8a zW8 lW8 tW8 hW8 bW8
  have r8 := r7.old BW8.out
  have b78 := b7.trans (BW8.out.mono b7.size)
  have b58 := B6.out.trans (b78.mono B6.out.size)
  have b38 := BB5.out.trans (b58.mono BB5.out.size)
  have b28 := BW3.out.trans (b38.mono BW3.out.size)
  have b18 := B2.out.trans (b28.mono B2.out.size)
  have k1 := XW5.out.old b58
  have o1 := k1.cell 1 _ (RO.out.int 1 rfl).1
  have o2 := k1.cell 2 _ (RO.out.int 2 rfl).1
  have o3 := k1.cell 3 _ (RO.out.int 3 rfl).1
  have o7 := k1.cell 7 _ (RO.out.bool 7 rfl).1
  have o13 := k1.cell 13 _ (RO.out.int 13 rfl).1
  rw [F3.out.1] at o1
  rw [F3.out.2.1] at o2
  rw [F3.out.2.2.1] at o3
  rw [F3.out.2.2.2.1] at o7
  rw [F3.out.2.2.2.2] at o13
  obtain ⟨v0, hv0, _, r0⟩ := (R5.out.old (B6.out.trans (b78.mono B6.out.size))).sl 0 _ _ rfl
  obtain ⟨a0, k0, rfl, _, _, _, hx0⟩ := r0.form
  have ct0 := (XT5.out.old b58).cell 0 _ hv0
  rcases hx0 with hx0 | ⟨g, o, rfl, hF, hgl, hE⟩
  · have := F9.out.1
    rw [hx0] at this
    cases this
  obtain ⟨vs, hvs, hrd⟩ := hE.get 0 ((dxs aT 0).getD 0 []) (by
    have := F9.out.1
    rw [List.getD_eq_getElem?_getD, List.getElem?_eq_getElem (show 0 < (dxs aT 0).length by omega)]
    rfl)
  rw [show kPlayer.length = 14 by decide, Nat.zero_mul] at hvs
  obtain ⟨vh, hvh, _, rh⟩ := hrd.sl 12 _ _ rfl
  obtain ⟨ah, kh, rfl, _, _, _, _⟩ := rh.form
  have ch := hvs 12 _ hvh
  rw [F9.out.2] at ch
  rw [F9.out.1] at ct0
  have x8 := XW8.out
  obtain ⟨v2, hv2, _, rb⟩ := r8.sl 2 _ _ rfl
  obtain ⟨a2, k2, rfl, _, _, _, _⟩ := rb.form
  have cu2 := x8.cell 2 _ hv2
  rw [F13.out.1] at cu2
  have cu14 := x8.cell 14 _ (r8.int 14 rfl).1
  rw [F13.out.2] at cu14
  have s1 := (XS.out.old b18).cell 1 (.slice (some ⟨w.heap.size + 4, 0, none⟩) 2 2) (by rw [HCS.out]; rfl)
  have p0 := (XO.out.old b18).cell 0 (.int .i64 1) rfl
  rw [HW8.out] at o1 o2 o3 o7 o13 ct0 ch cu2 cu14 s1 p0
  have BF := Lib.hid (BA.out.trans (b18.mono BA.out.size))
  have p0' := p0
  have s1' := s1
  clear r7 b7 hl7 r8 b78 b58 b38 b28 b18 k1 hv0 r0 hgl hE hvs hrd hvh rh x8 hv2 rb
  go_wp2_with ((with_reducible refine wpList_store_cs rfl 30 (.tmp 9) (.tmp 40) rfl w7.heap.size 0 cs7 ?_ ?_ TW8.out IW8.out OW8.out ?_); rfl; rfl)
  rw [← HW8.out]
  go_ret
  exact ⟨rfl, BF.out⟩
end Go.Proofs.Ytiebjkbofoppaaa
