/- Chapter 10: line.Parse, the program's. -/
import Derived.Test.YtgnffmlcjnnneaaDoorLnL
namespace Go.Proofs.YtgnffmlcjnnneaaDoor
open Go Go.RowKit Go.Sort Cg
/-- The words before place k that are neither supertypes nor types. -/
def subsW (xs : List ByteArray) : Nat → List ByteArray
  | 0 => []
  | k + 1 => if bitW superN (xs.getD k ByteArray.empty) 2 = 0 ∧ bitW typeN (xs.getD k ByteArray.empty) 6 = 0 then subsW xs k ++ [xs.getD k ByteArray.empty] else subsW xs k
theorem subsW_len (xs : List ByteArray) : ∀ k, (subsW xs k).length ≤ k
  | 0 => Nat.le_refl 0
  | k + 1 => by
    have := subsW_len xs k
    unfold subsW
    split
    · rw [List.length_append, List.length_singleton]; omega
    · omega
theorem cells_set (w : World) (g k : Nat) (cs : Array Value) (t : TypeId) (fr : Nat × Nat) (u : Value) (h : w.heap[g]? = some (.cells cs t fr)) : (w.setCell ⟨g, k, none⟩ u).heap[g]? = some (.cells (cs.setIfInBounds k u) t fr) := by
  simp only [World.setCell, Array.getElem?_modify]
  simp [h]
theorem set3 (w : World) (g : Nat) (x y z a b c : Value) (t : TypeId) (fr : Nat × Nat) (h : w.heap[g]? = some (.cells #[x, y, z] t fr)) : (((w.setCell ⟨g, 0, none⟩ a).setCell ⟨g, 1, none⟩ b).setCell ⟨g, 2, none⟩ c).heap[g]? = some (.cells #[a, b, c] t fr) :=
  cells_set _ g 2 _ t fr c (cells_set _ g 1 _ t fr b (cells_set _ g 0 _ t fr a h))
theorem below_set3 {B : Nat} {w0 w : World} (h : Below B w0 w) (g : Nat) (a b c : Value) (hg : B ≤ g) : Below B w0 (((w.setCell ⟨g, 0, none⟩ a).setCell ⟨g, 1, none⟩ b).setCell ⟨g, 2, none⟩ c) :=
  ((h.setCell (p := ⟨g, 0, none⟩) hg a).setCell (p := ⟨g, 1, none⟩) hg b).setCell (p := ⟨g, 2, none⟩) hg c
theorem own_set3 {w : World} {B e n : Nat} {v : Value} {xs : List Value} (h : w.ownsRow B e 1 v n xs) (g : Nat) (a b c : Value) (hg : g < B) : (((w.setCell ⟨g, 0, none⟩ a).setCell ⟨g, 1, none⟩ b).setCell ⟨g, 2, none⟩ c).ownsRow B e 1 v n xs :=
  ownsRow_setCell_below (ownsRow_setCell_below (ownsRow_setCell_below h (a := ⟨g, 0, none⟩) hg a) (a := ⟨g, 1, none⟩) hg b) (a := ⟨g, 2, none⟩) hg c
theorem super_type (p : ByteArray) : bitW superN p 2 ≠ 0 → bitW typeN p 6 = 0 := by
  intro h
  have h2 : ¬ ∀ i, i < 2 → ¬ superN i = p := fun e => h ((bitW_zero superN p 2).2 e)
  have h3 : superN 0 = p ∨ superN 1 = p := by
    by_cases a : superN 0 = p
    · exact .inl a
    by_cases b : superN 1 = p
    · exact .inr b
    exact absurd (fun i hi => by
      rcases (show i = 0 ∨ i = 1 by omega) with rfl | rfl
      · exact a
      · exact b) h2
  rcases h3 with rfl | rfl <;> decide
theorem splitS2 (s : ByteArray) (c : UInt8) (hs : s.size < 4294967281) (w : World) (hm : Mx w) : Calls Tryd.prog 29 #[.string s, .string ⟨#[c]⟩] w fun e w' => e = .returned (.slice (some ⟨w.heap.size, 0, none⟩) (splS s c).length (splS s c).length) ∧ (∀ j, j < (splS s c).length → w'.cell? ⟨w.heap.size, j, none⟩ = some (.string ((splS s c).getD j ByteArray.empty))) ∧ w.heap.size < w'.heap.size ∧ Below w.heap.size w w' := by
  obtain ⟨m, hm⟩ := hm
  refine (Tryd.strings_Split s ⟨#[c]⟩ m w hs hm (Nat.le_refl 1)).mono ?_
  rintro e w' ⟨rfl, rfl⟩
  refine ⟨by rw [splS_len], fun j hj => ?_, by show w.heap.size < (w.heap.push _).size; simp, (Below.refl _ _).alloc (Nat.le_refl _) _⟩
  rw [cell_of_row _ _ j _ 9 (0, 0) (heap_alloc_new w _), List.getD_eq_getElem?_getD, List.getElem?_eq_getElem hj]
  have hj' : j < (Lib.splitB ⟨#[c]⟩ 0 (Lib.countB s ⟨#[c]⟩) s).length := hj
  simp [hj', splS]
/-- The line that lies in block B, and its row of subtypes; the block behind it is as it was. -/
def LnAt (B : Nat) (wo : World) (su ty : Nat) (ys : List ByteArray) (w : World) : Prop :=
  ∃ v, w.heap[B]? = some (.cells #[.int .i64 (su : Int), .int .i64 (ty : Int), v] 24 (0, 0)) ∧ w.ownsRow (B + 2) 9 1 v ys.length (ys.map Value.string) ∧ Below B wo w ∧ B + 2 ≤ w.heap.size ∧ w.heap[B + 1]? = wo.heap[B + 1]?
theorem LnAt.set0 {B su ty : Nat} {wo w : World} {ys : List ByteArray} (h : LnAt B wo su ty ys w) (n : Nat) : LnAt B wo n ty ys (w.setCell ⟨B, 0, none⟩ (.int .i64 (n : Int))) := by
  obtain ⟨v, h1, h2, h3, h4, h5⟩ := h
  exact ⟨v, cells_set w B 0 _ _ _ _ h1, ownsRow_setCell_below h2 (by show B < B + 2; omega) _, h3.setCell (Nat.le_refl _) _, by simpa [World.setCell] using h4, (Below.heap_setCell w _ _ _ (by show B + 1 ≠ B; omega)).trans h5⟩
theorem LnAt.set1 {B su ty : Nat} {wo w : World} {ys : List ByteArray} (h : LnAt B wo su ty ys w) (n : Nat) : LnAt B wo su n ys (w.setCell ⟨B, 1, none⟩ (.int .i64 (n : Int))) := by
  obtain ⟨v, h1, h2, h3, h4, h5⟩ := h
  exact ⟨v, cells_set w B 1 _ _ _ _ h1, ownsRow_setCell_below h2 (by show B < B + 2; omega) _, h3.setCell (Nat.le_refl _) _, by simpa [World.setCell] using h4, (Below.heap_setCell w _ _ _ (by show B + 1 ≠ B; omega)).trans h5⟩
theorem LnAt.set2 {B su ty : Nat} {wo w w' : World} {ys zs : List ByteArray} {v' : Value} (h : LnAt B wo su ty ys w) (hb : Below (B + 2) w w') (ho : w'.ownsRow (B + 2) 9 1 v' zs.length (zs.map Value.string)) : LnAt B wo su ty zs (w'.setCell ⟨B, 2, none⟩ v') := by
  obtain ⟨v, h1, h2, h3, h4, h5⟩ := h
  exact ⟨v', cells_set w' B 2 _ _ _ _ ((hb.block B (by omega)).trans h1), ownsRow_setCell_below ho (by show B < B + 2; omega) _, (h3.trans (hb.mono (by omega))).setCell (Nat.le_refl _) _, by have := hb.size; simp [World.setCell]; omega, (Below.heap_setCell w' _ _ _ (by show B + 1 ≠ B; omega)).trans ((hb.block (B + 1) (by omega)).trans h5)⟩
/-- The line's three cells. -/
theorem LnAt.cells {B su ty : Nat} {wo w : World} {ys : List ByteArray} (h : LnAt B wo su ty ys w) : ∃ v, w.ownsRow (B + 2) 9 1 v ys.length (ys.map Value.string) ∧ w.cell? ⟨B, 0, none⟩ = some (.int .i64 (su : Int)) ∧ w.cell? ⟨B, 1, none⟩ = some (.int .i64 (ty : Int)) ∧ w.cell? ⟨B, 2, none⟩ = some v ∧ w.frozen? ⟨B, 0, none⟩ = false ∧ w.frozen? ⟨B, 1, none⟩ = false ∧ w.frozen? ⟨B, 2, none⟩ = false := by
  obtain ⟨v, h1, h2, _⟩ := h
  exact ⟨v, h2, cell_of_row _ _ 0 _ _ _ h1, cell_of_row _ _ 1 _ _ _ h1, cell_of_row _ _ 2 _ _ _ h1, by simp [World.frozen?, h1], by simp [World.frozen?, h1], by simp [World.frozen?, h1]⟩
def pSu (s : ByteArray) : Nat := orW superN 2 (splS s 32) (splS s 32).length
def pTy (s : ByteArray) : Nat := orW typeN 6 (splS s 32) (splS s 32).length
def pSubs (s : ByteArray) : List ByteArray := subsW (splS s 32) (splS s 32).length
def pOk (s : ByteArray) : Prop := isL (pSu s) (pTy s) (pSubs s) = true ∧ lineText (pSu s) (pTy s) (pSubs s) = s
instance (s : ByteArray) : Decidable (pOk s) := by unfold pOk; infer_instance
/-- What Parse answers. -/
def parseL (s : ByteArray) : Nat × Nat × List ByteArray × Nat := if pOk s then (pSu s, pTy s, pSubs s, 0) else (0, 0, [], 3)
set_option maxRecDepth 100000 in
set_option maxHeartbeats 1000000 in
theorem parse_prog (s : ByteArray) (hs : s.size ≤ 1000000) (w : World) (hm : Mx w) : Calls Tryd.prog 11 #[.string s] w fun e w' => ∃ v, e = .returned (.tuple #[lineV (parseL s).1 (parseL s).2.1 v, .int .i64 (parseL s).2.2.2]) ∧ RowAt Value.string w' v (parseL s).2.2.1 ∧ Below w.heap.size w w' := by
  have hll := splS_le s 32
  have b0 := ((Below.refl w.heap.size w).alloc (Nat.le_refl _) (.cells #[.int .i64 0, .int .i64 0, .slice none 0 0] 24)).alloc (by show w.heap.size ≤ (w.heap.push _).size; simp) (.cells #[.int .i64 0, .int .i64 0, .slice none 0 0] 24)
  have HM := Lib.hid (hm.below b0)
  obtain ⟨wa, hwa⟩ : ∃ wa, wa = (w.alloc (.cells #[.int .i64 0, .int .i64 0, .slice none 0 0] 24)).alloc (.cells #[.int .i64 0, .int .i64 0, .slice none 0 0] 24) := ⟨_, rfl⟩
  have HA := Lib.hid hwa
  have HZ := Lib.hid (show wa.heap.size = w.heap.size + 2 by rw [hwa]; show ((w.heap.push _).push _).size = _; simp)
  have HL := Lib.hid (show wa.heap[w.heap.size + 1]? = some (.cells #[.int .i64 0, .int .i64 0, .slice none 0 0] 24 (0, 0)) by rw [hwa]; show ((w.heap.push _).push _)[w.heap.size + 1]? = _; simp [Array.getElem_push])
  have HL0 := Lib.hid (show wa.heap[w.heap.size]? = some (.cells #[.int .i64 0, .int .i64 0, .slice none 0 0] 24 (0, 0)) by rw [hwa]; show ((w.heap.push _).push _)[w.heap.size]? = _; simp [Array.getElem?_push])
  have HP1 := Lib.hid (show pSu s = orW superN 2 (splS s 32) (splS s 32).length from rfl)
  have HP2 := Lib.hid (show pTy s = orW typeN 6 (splS s 32) (splS s 32).length from rfl)
  have HP3 := Lib.hid (show pSubs s = subsW (splS s 32) (splS s 32).length from rfl)
  rw [← hwa] at HM b0
  have B0 := Lib.hid b0
  have HM0 := Lib.hid hm
  clear hm hwa b0
  go_enter Tryd.func11, Tryd.ntmps11
  go_wp2_with fail
  rw [← HA.out]
  refine (splitS2 s 32 (by omega) _ HM.out).mono ?_
  rintro e w1 ⟨rfl, hcell, hlt1, b1⟩
  have LA := Lib.hid (show LnAt (w.heap.size + 1) w1 0 0 [] w1 from ⟨_, (b1.block _ (by have := HZ.out; omega)).trans HL.out, World.ownsRow_nil _ _ _ _, Below.refl _ _, by have := HZ.out; omega, rfl⟩)
  have LB0 := Lib.hid ((b1.block w.heap.size (by have := HZ.out; omega)).trans HL0.out)
  have B1 := Lib.hid (B0.out.trans (b1.mono B0.out.size))
  have HM := Lib.hid (HM.out.below b1)
  have hbz := B1.out.size
  have HC := Lib.hid hcell
  obtain ⟨xs, hxs⟩ : ∃ xs, xs = splS s 32 := ⟨_, rfl⟩
  rw [← hxs] at hll HC HP1 HP2 HP3 ⊢
  rw [HZ.out] at HC ⊢
  clear hxs b1 hcell hlt1
  go_wp2_with fail
  go_loopw [12] (fun i wr => ∃ j : Nat, j ≤ xs.length ∧ i = .int .i64 j ∧ Hid (LnAt (w.heap.size + 1) w1 (orW superN 2 xs j) (orW typeN 6 xs j) (subsW xs j) wr)) (fun i _ => xs.length - (intOf i).toNat)
  case atStart => exact ⟨0, by omega, rfl, LA⟩
  case round =>
    obtain ⟨j, hj, rfl, HR⟩ := hrel
    by_cases hlt : j < xs.length
    · have q : wr.cell? ⟨w.heap.size + 2, j, none⟩ = some (.string (xs.getD j ByteArray.empty)) := by
        obtain ⟨_, _, _, _, _, h5⟩ := HR.out
        exact (World.cell?_of_block h5).trans (HC.out j hlt)
      have hs0 := orW_lt superN 2 xs j
      have ht0 := orW_lt typeN 6 xs j
      have hsl := subsW_len xs j
      obtain ⟨p, hp⟩ : ∃ p, p = xs.getD j ByteArray.empty := ⟨_, rfl⟩
      have HS := Lib.hid (show orW superN 2 xs (j + 1) = orW superN 2 xs j ||| bitW superN p 2 by rw [orW, hp])
      have HT := Lib.hid (show orW typeN 6 xs (j + 1) = orW typeN 6 xs j ||| bitW typeN p 6 by rw [orW, hp])
      have HU := Lib.hid (show subsW xs (j + 1) = if bitW superN p 2 = 0 ∧ bitW typeN p 6 = 0 then subsW xs j ++ [p] else subsW xs j by rw [subsW, hp])
      rw [← hp] at q
      have hb1 := bitW_lt superN p 2
      have hb2 := bitW_lt typeN p 6
      have HX := Lib.hid (super_type p)
      obtain ⟨m1, hm1⟩ : ∃ m1, m1 = orW superN 2 xs j := ⟨_, rfl⟩
      obtain ⟨m2, hm2⟩ : ∃ m2, m2 = orW typeN 6 xs j := ⟨_, rfl⟩
      obtain ⟨ys, hys⟩ : ∃ ys, ys = subsW xs j := ⟨_, rfl⟩
      obtain ⟨n1, hn1⟩ : ∃ n1, n1 = bitW superN p 2 := ⟨_, rfl⟩
      obtain ⟨n2, hn2⟩ : ∃ n2, n2 = bitW typeN p 6 := ⟨_, rfl⟩
      rw [← hm1] at hs0 HS HR
      rw [← hm2] at ht0 HT HR
      rw [← hys] at hsl HU HR
      rw [← hn1] at hb1 HS HU HX
      rw [← hn2] at hb2 HT HU HX
      have HN1 := Lib.hid hn1
      have HN2 := Lib.hid hn2
      clear hp hm1 hm2 hys hn1 hn2
      obtain ⟨v, hown, c0, c1, c2, f0, f1, f2⟩ := HR.out.cells
      have HO := Lib.hid hown
      clear hown
      by_cases e1 : n1 = 0
      · have hs1 : orW superN 2 xs (j + 1) = m1 := by rw [HS.out, e1, Nat.or_zero]
        have HS1 := Lib.hid hs1
        have z1 : ((n1 : Int) != 0) = false := by simpa using e1
        by_cases e2 : n2 = 0
        · have HT1 := Lib.hid (show orW typeN 6 xs (j + 1) = m2 by rw [HT.out, e2, Nat.or_zero])
          have HU1 := Lib.hid (show subsW xs (j + 1) = ys ++ [p] by rw [HU.out, if_pos ⟨e1, e2⟩])
          have z2 : ((n2 : Int) != 0) = false := by simpa using e2
          clear e1 e2 hs1
          go_wp2_with fail
          refine (bit_superN p _).mono ?_
          rintro e w2 ⟨rfl, rfl⟩
          rw [← HN1.out]
          go_wp2_with fail
          refine (bit_typeN p _).mono ?_
          rintro e w2 ⟨rfl, rfl⟩
          rw [← HN2.out]
          have hown := HO.out
          have hsz : w.heap.size + 1 + 2 ≤ wr.heap.size := by
            obtain ⟨_, _, _, _, h, _⟩ := HR.out
            exact h
          go_wp2_with (at_builtin; refine wpList_append_new rfl (.tmp 35) (.tmp 37) 22 rfl (w.heap.size + 1 + 2) stringsElem _ _ _ rfl hown [.string p] rfl rfl rfl (by omega) (by omega) hsz ?_; intro v' w3 hown' hbel _; have c2' := (hbel.cell (p := ⟨w.heap.size + 1, 2, none⟩) (by show w.heap.size + 1 < w.heap.size + 1 + 2; omega)).trans c2; have f2' := (hbel.frozen (p := ⟨w.heap.size + 1, 2, none⟩) (by show w.heap.size + 1 < w.heap.size + 1 + 2; omega)).trans f2; have ho2 : w3.ownsRow (w.heap.size + 1 + 2) 9 1 v' (ys ++ [p]).length ((ys ++ [p]).map Value.string) := (by rw [List.length_append, List.length_singleton, List.map_append]; exact hown'); have HW := Lib.hid (HR.out.set2 hbel ho2); obtain ⟨a5, k5, rfl⟩ := (rowAt_own ho2).form; clear hown hown' ho2 hbel c0 c1 c2 f0 f1 f2)
          go_roundw
          case rel => exact ⟨j + 1, by omega, by go_num, Lib.hid (by rw [HS1.out, HT1.out, HU1.out]; have e := HW.out; rw [List.length_append, List.length_singleton] at e; exact e)⟩
          case measure => simp [intOf]; omega
        · have HT1 := HT
          have HU1 := Lib.hid (show subsW xs (j + 1) = ys by rw [HU.out, if_neg (fun h => e2 h.2)])
          have hor := i64_or_nat m2 n2 (by omega) (by omega)
          have z2 : ((n2 : Int) != 0) = true := by simpa using e2
          clear e1 e2 hs1
          go_wp2_with fail
          refine (bit_superN p _).mono ?_
          rintro e w2 ⟨rfl, rfl⟩
          rw [← HN1.out]
          go_wp2_with fail
          refine (bit_typeN p _).mono ?_
          rintro e w2 ⟨rfl, rfl⟩
          rw [← HN2.out]
          go_wp2_with fail
          go_roundw
          case rel => exact ⟨j + 1, by omega, by go_num, Lib.hid (by rw [HS1.out, HT1.out, HU1.out]; exact HR.out.set1 _)⟩
          case measure => simp [intOf]; omega
      · have e2 := HX.out e1
        have HT1 := Lib.hid (show orW typeN 6 xs (j + 1) = m2 by rw [HT.out, e2, Nat.or_zero])
        have HU1 := Lib.hid (show subsW xs (j + 1) = ys by rw [HU.out, if_neg (fun h => e1 h.1)])
        have hor := i64_or_nat m1 n1 (by omega) (by omega)
        have z1 : ((n1 : Int) != 0) = true := by simpa using e1
        clear e1 e2
        go_wp2_with fail
        refine (bit_superN p _).mono ?_
        rintro e w2 ⟨rfl, rfl⟩
        rw [← HN1.out]
        go_wp2_with fail
        go_roundw
        case rel => exact ⟨j + 1, by omega, by go_num, Lib.hid (by rw [HS.out, HT1.out, HU1.out]; exact HR.out.set0 _)⟩
        case measure => simp [intOf]; omega
    · obtain rfl : j = xs.length := by omega
      rw [← HP1.out, ← HP2.out, ← HP3.out] at HR
      have hsl : (pSubs s).length ≤ xs.length := by rw [HP3.out]; exact subsW_len xs xs.length
      have HW := Lib.hid (show Below w.heap.size w wr by obtain ⟨_, _, _, h, _⟩ := HR.out; exact B1.out.trans (h.mono (by omega)))
      have HB0 := Lib.hid (show wr.heap[w.heap.size]? = _ by obtain ⟨_, _, _, h, _⟩ := HR.out; exact (h.block w.heap.size (by omega)).trans LB0.out)
      have hmx : Mx wr := HM0.out.below HW.out
      obtain ⟨v, hown, c0, c1, c2, f0, f1, f2⟩ := HR.out.cells
      have RV := Lib.hid (rowAt_own hown)
      have HI := Lib.hid (isL_prog (pSu s) (pTy s) v (pSubs s) wr RV.out (by omega) hmx)
      obtain ⟨a5, k5, rfl⟩ := RV.out.form
      have HX := Lib.hid (text_prog (pSu s) (pTy s) (.slice a5 (pSubs s).length k5) (pSubs s))
      have HMX := Lib.hid hmx
      have hlt0 : w.heap.size + 1 < wr.heap.size := by obtain ⟨_, _, _, _, h, _⟩ := HR.out; omega
      have HLT := Lib.hid hlt0
      have HB1 := Lib.hid (show ∃ v', wr.heap[w.heap.size + 1]? = some (.cells #[.int .i64 (pSu s : Int), .int .i64 (pTy s : Int), v'] 24 (0, 0)) by obtain ⟨v', h, _⟩ := HR.out; exact ⟨v', h⟩)
      have HOW := Lib.hid hown
      clear hown hmx hlt hj hlt0 HM
      cases hl : isL (pSu s) (pTy s) (pSubs s)
      · have HPL := Lib.hid (show parseL s = (0, 0, [], 3) by rw [parseL, if_neg (fun h => Bool.noConfusion (hl.symm.trans h.1))])
        rw [hl] at HI
        clear hl
        go_wp2_with fail
        refine HI.out.mono ?_
        rintro e wb ⟨rfl, bI⟩
        have hb0 := (bI.block w.heap.size (by have := HLT.out; omega)).trans HB0.out
        have d0 := cell_of_row _ _ 0 _ _ _ hb0
        have d1 := cell_of_row _ _ 1 _ _ _ hb0
        have d2 := cell_of_row _ _ 2 _ _ _ hb0
        have g0 : wb.frozen? ⟨w.heap.size, 0, none⟩ = false := by simp [World.frozen?, hb0]
        have g1 : wb.frozen? ⟨w.heap.size, 1, none⟩ = false := by simp [World.frozen?, hb0]
        have g2 : wb.frozen? ⟨w.heap.size, 2, none⟩ = false := by simp [World.frozen?, hb0]
        simp only [List.getElem?_toArray, List.getElem?_cons_succ, List.getElem?_cons_zero] at d0 d1 d2
        have HS3 := Lib.hid (set3 wb w.heap.size _ _ _ (.int .i64 0) (.int .i64 0) (.slice none 0 0) _ _ hb0)
        have HB3 := Lib.hid (below_set3 (HW.out.trans (bI.mono HW.out.size)) w.heap.size (.int .i64 0) (.int .i64 0) (.slice none 0 0) (Nat.le_refl _))
        clear hb0
        go_wp2_with fail
        generalize hWW : World.setCell (World.setCell (World.setCell wb _ _) _ _) _ _ = W at HS3 HB3 ⊢
        have k0 := cell_of_row _ _ 0 _ _ _ HS3.out
        have k1 := cell_of_row _ _ 1 _ _ _ HS3.out
        have k2 := cell_of_row _ _ 2 _ _ _ HS3.out
        simp only [List.getElem?_toArray, List.getElem?_cons_succ, List.getElem?_cons_zero] at k0 k1 k2
        refine bodyPost_ret (v := .tuple #[.agg #[.int .i64 0, .int .i64 0, .slice none 0 0], .int .i64 3]) (by simp [results, Tryd.results11, go_sem, k0, k1, k2]) rfl ⟨.slice none 0 0, ?_, ?_, HB3.out⟩
        · rw [HPL.out]; rfl
        · rw [HPL.out]; exact rowAt_nil _ _
      · rw [hl] at HI
        have HTX := Lib.hid (show lineText (pSu s) (pTy s) (pSubs s) = jo (lineWords (pSu s) (pTy s) (pSubs s)) ⟨#[32]⟩ by rw [lineText, hl]; rfl)
        by_cases he : lineText (pSu s) (pTy s) (pSubs s) = s
        · have HPL := Lib.hid (show parseL s = (pSu s, pTy s, pSubs s, 0) by rw [parseL, if_pos ⟨hl, he⟩])
          have hsame2 := same_true he
          clear hl he
          go_wp2_with fail
          refine HI.out.mono ?_
          rintro e wb ⟨rfl, bI⟩
          have HBI := Lib.hid bI
          have q0 := (bI.cell (p := ⟨w.heap.size + 1, 0, none⟩) HLT.out).trans c0
          have q1 := (bI.cell (p := ⟨w.heap.size + 1, 1, none⟩) HLT.out).trans c1
          have q2 := (bI.cell (p := ⟨w.heap.size + 1, 2, none⟩) HLT.out).trans c2
          clear bI
          go_wp2_with fail
          refine (HX.out wb (RV.out.below HBI.out) (by omega) (HMX.out.below HBI.out)).mono ?_
          rintro e wc ⟨rfl, bT⟩
          have HBC := Lib.hid (HBI.out.trans (bT.mono HBI.out.size))
          have r0 := (HBC.out.cell (p := ⟨w.heap.size + 1, 0, none⟩) HLT.out).trans c0
          have r1 := (HBC.out.cell (p := ⟨w.heap.size + 1, 1, none⟩) HLT.out).trans c1
          have r2 := (HBC.out.cell (p := ⟨w.heap.size + 1, 2, none⟩) HLT.out).trans c2
          have hb0 := (HBC.out.block w.heap.size (by have := HLT.out; omega)).trans HB0.out
          have d0 := cell_of_row _ _ 0 _ _ _ hb0
          have d1 := cell_of_row _ _ 1 _ _ _ hb0
          have d2 := cell_of_row _ _ 2 _ _ _ hb0
          have g0 : wc.frozen? ⟨w.heap.size, 0, none⟩ = false := by simp [World.frozen?, hb0]
          have g1 : wc.frozen? ⟨w.heap.size, 1, none⟩ = false := by simp [World.frozen?, hb0]
          have g2 : wc.frozen? ⟨w.heap.size, 2, none⟩ = false := by simp [World.frozen?, hb0]
          simp only [List.getElem?_toArray, List.getElem?_cons_succ, List.getElem?_cons_zero] at d0 d1 d2
          have HS3 := Lib.hid (set3 wc w.heap.size _ _ _ (.int .i64 (pSu s : Int)) (.int .i64 (pTy s : Int)) (.slice a5 (pSubs s).length k5) _ _ hb0)
          have HB3 := Lib.hid (below_set3 (HW.out.trans (HBC.out.mono HW.out.size)) w.heap.size (.int .i64 (pSu s : Int)) (.int .i64 (pTy s : Int)) (.slice a5 (pSubs s).length k5) (Nat.le_refl _))
          have HRW := Lib.hid (rowAt_own (own_set3 (own_block HOW.out HBC.out) w.heap.size (.int .i64 (pSu s : Int)) (.int .i64 (pTy s : Int)) (.slice a5 (pSubs s).length k5) (by omega)))
          clear hb0 bT
          go_wp2_with fail
          generalize hWW : World.setCell (World.setCell (World.setCell wc _ _) _ _) _ _ = W at HS3 HB3 HRW ⊢
          have k0 := cell_of_row _ _ 0 _ _ _ HS3.out
          have k1 := cell_of_row _ _ 1 _ _ _ HS3.out
          have k2 := cell_of_row _ _ 2 _ _ _ HS3.out
          simp only [List.getElem?_toArray, List.getElem?_cons_succ, List.getElem?_cons_zero] at k0 k1 k2
          refine bodyPost_ret (v := .tuple #[.agg #[.int .i64 (pSu s : Int), .int .i64 (pTy s : Int), .slice a5 (pSubs s).length k5], .int .i64 0]) (by simp [results, Tryd.results11, go_sem, k0, k1, k2]) rfl ⟨.slice a5 (pSubs s).length k5, ?_, ?_, HB3.out⟩
          · rw [HPL.out]; rfl
          · rw [HPL.out]; exact HRW.out
        · have HPL := Lib.hid (show parseL s = (0, 0, [], 3) by rw [parseL, if_neg (fun h => he h.2)])
          have hsame2 := same_false he
          clear hl he
          go_wp2_with fail
          refine HI.out.mono ?_
          rintro e wb ⟨rfl, bI⟩
          have HBI := Lib.hid bI
          have q0 := (bI.cell (p := ⟨w.heap.size + 1, 0, none⟩) HLT.out).trans c0
          have q1 := (bI.cell (p := ⟨w.heap.size + 1, 1, none⟩) HLT.out).trans c1
          have q2 := (bI.cell (p := ⟨w.heap.size + 1, 2, none⟩) HLT.out).trans c2
          clear bI
          go_wp2_with fail
          refine (HX.out wb (RV.out.below HBI.out) (by omega) (HMX.out.below HBI.out)).mono ?_
          rintro e wc ⟨rfl, bT⟩
          have HBC := Lib.hid (HBI.out.trans (bT.mono HBI.out.size))
          have r0 := (HBC.out.cell (p := ⟨w.heap.size + 1, 0, none⟩) HLT.out).trans c0
          have r1 := (HBC.out.cell (p := ⟨w.heap.size + 1, 1, none⟩) HLT.out).trans c1
          have r2 := (HBC.out.cell (p := ⟨w.heap.size + 1, 2, none⟩) HLT.out).trans c2
          have hb0 := (HBC.out.block w.heap.size (by have := HLT.out; omega)).trans HB0.out
          have d0 := cell_of_row _ _ 0 _ _ _ hb0
          have d1 := cell_of_row _ _ 1 _ _ _ hb0
          have d2 := cell_of_row _ _ 2 _ _ _ hb0
          have g0 : wc.frozen? ⟨w.heap.size, 0, none⟩ = false := by simp [World.frozen?, hb0]
          have g1 : wc.frozen? ⟨w.heap.size, 1, none⟩ = false := by simp [World.frozen?, hb0]
          have g2 : wc.frozen? ⟨w.heap.size, 2, none⟩ = false := by simp [World.frozen?, hb0]
          simp only [List.getElem?_toArray, List.getElem?_cons_succ, List.getElem?_cons_zero] at d0 d1 d2
          have HS3 := Lib.hid (set3 wc w.heap.size _ _ _ (.int .i64 0) (.int .i64 0) (.slice none 0 0) _ _ hb0)
          have HB3 := Lib.hid (below_set3 (HW.out.trans (HBC.out.mono HW.out.size)) w.heap.size (.int .i64 0) (.int .i64 0) (.slice none 0 0) (Nat.le_refl _))
          skip
          clear hb0 bT
          go_wp2_with fail
          generalize hWW : World.setCell (World.setCell (World.setCell wc _ _) _ _) _ _ = W at HS3 HB3 ⊢
          have k0 := cell_of_row _ _ 0 _ _ _ HS3.out
          have k1 := cell_of_row _ _ 1 _ _ _ HS3.out
          have k2 := cell_of_row _ _ 2 _ _ _ HS3.out
          simp only [List.getElem?_toArray, List.getElem?_cons_succ, List.getElem?_cons_zero] at k0 k1 k2
          refine bodyPost_ret (v := .tuple #[.agg #[.int .i64 0, .int .i64 0, .slice none 0 0], .int .i64 3]) (by simp [results, Tryd.results11, go_sem, k0, k1, k2]) rfl ⟨.slice none 0 0, ?_, ?_, HB3.out⟩
          · rw [HPL.out]; rfl
          · rw [HPL.out]; exact rowAt_nil _ _
end Go.Proofs.YtgnffmlcjnnneaaDoor
