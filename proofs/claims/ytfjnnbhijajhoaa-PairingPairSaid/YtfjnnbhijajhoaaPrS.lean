/- Chapter 56: alive; few. -/
import Derived.Test.YtfjnnbhijajhoaaPrN
import Derived.Test.YtfjnnbhijajhoaaPrR
namespace Go.Proofs.Ytfjnnbhijajhoaa
open Go Go.RowKit Go.Sort Go.Shelf Cg
theorem few_law (n : Int) (v : Value) (l : List Rs) (w : World) (h : Cg.RowK 5 encR w v l) : Calls Try.prog 9 #[.int .i64 n, v] w fun e w' => e = .returned (.bool (decide (n ≤ 40) && decide ((l.length : Int) ≤ 150))) ∧ w' = w := by
  obtain ⟨ao, cap, rfl, _⟩ := h
  by_cases h1 : n ≤ 40
  · have d1 : decide (n ≤ 40) = true := decide_eq_true h1
    by_cases h2 : (l.length : Int) ≤ 150
    · have d2 : decide ((l.length : Int) ≤ 150) = true := decide_eq_true h2
      go_enter Try.func9, Try.ntmps9
      go_wp2_with fail
      go_ret
      exact ⟨by rw [d1, d2] <;> rfl, rfl⟩
    · have d2 : decide ((l.length : Int) ≤ 150) = false := decide_eq_false h2
      go_enter Try.func9, Try.ntmps9
      go_wp2_with fail
      go_ret
      exact ⟨rfl, rfl⟩
  · have d1 : decide (n ≤ 40) = false := decide_eq_false h1
    go_enter Try.func9, Try.ntmps9
    go_wp2_with fail
    go_ret
    exact ⟨rfl, rfl⟩
theorem st_uniq {N : Nat} {l : List Rs} {s t : List St} (hs : s.Perm ((List.range N).map fun (p : Nat) => recT N l p)) (ss : Srt s) (ht : t.Perm ((List.range N).map fun (p : Nat) => recT N l p)) (st : Srt t) : s = t :=
  srt_uniq s t (hs.trans ht.symm) ss st ((hs.map (·.pl)).nodup_iff.2 (recT_nodup N l))
instance (l : List St) : Decidable (Srt l) := by unfold Srt; infer_instance
def lA : List Rs := [⟨0, 1, 2, 0, 0⟩, ⟨2, 3, 1, 1, 0⟩]
def lB : List Rs := [⟨0, 1, 2, 0, 0⟩, ⟨2, -1, 0, 0, 0⟩]
theorem alive_p (s : List St) (hs : s.Perm ((List.range 4).map fun (p : Nat) => recT (4 : Nat) [] p)) (ss : Srt s) : pairOut [] s = [⟨0, 1, 0, 0, 0⟩, ⟨2, 3, 0, 0, 0⟩] := by
  rw [st_uniq hs ss (.refl _) (by decide +kernel)]
  decide +kernel
theorem alive_s (s : List St) (hs : s.Perm ((List.range 4).map fun (p : Nat) => recT (4 : Nat) lA p)) (ss : Srt s) : s = [⟨0, 3, 1, 0, 0, 0, [1], 0⟩, ⟨2, 1, 0, 0, 1, 0, [3], 1⟩, ⟨3, 1, 0, 0, 1, 0, [2], 1⟩, ⟨1, 0, 0, 1, 0, 0, [0], 3⟩] :=
  st_uniq hs ss (by decide +kernel) (by decide +kernel)
theorem alive_q (s : List St) (hs : s.Perm ((List.range 3).map fun (p : Nat) => recT (3 : Nat) lB p)) (ss : Srt s) : pairOut lB s = [⟨0, 2, 0, 0, 0⟩, ⟨1, -1, 0, 0, 0⟩] := by
  rw [st_uniq hs ss (t := [recT 3 lB 0, recT 3 lB 2, recT 3 lB 1]) (by decide +kernel) (by decide +kernel)]
  decide +kernel
theorem two_rows {w : World} {v : Value} {r s : Rs} (h : Cg.RowK 5 encR w v [r, s]) : ∃ b o cap, v = .slice (some ⟨b, o, none⟩) 2 cap ∧ b < w.heap.size ∧
    w.cell? ⟨b, o, none⟩ = some (.int .i64 r.a) ∧ w.cell? ⟨b, o + 1, none⟩ = some (.int .i64 r.b) ∧ w.cell? ⟨b, o + 2, none⟩ = some (.int .i64 r.wa) ∧ w.cell? ⟨b, o + 3, none⟩ = some (.int .i64 r.wb) ∧ w.cell? ⟨b, o + 4, none⟩ = some (.int .i64 r.dr) ∧
    w.cell? ⟨b, o + 5, none⟩ = some (.int .i64 s.a) ∧ w.cell? ⟨b, o + 5 + 1, none⟩ = some (.int .i64 s.b) ∧ w.cell? ⟨b, o + 5 + 2, none⟩ = some (.int .i64 s.wa) ∧ w.cell? ⟨b, o + 5 + 3, none⟩ = some (.int .i64 s.wb) ∧ w.cell? ⟨b, o + 5 + 4, none⟩ = some (.int .i64 s.dr) := by
  obtain ⟨ao, cap, rfl, _, h⟩ := h
  rcases h with h | ⟨b, o, rfl, hb, h⟩
  · cases h
  · exact ⟨b, o, cap, rfl, hb, h 0 _ rfl 0 _ rfl, h 0 _ rfl 1 _ rfl, h 0 _ rfl 2 _ rfl, h 0 _ rfl 3 _ rfl, h 0 _ rfl 4 _ rfl, h 1 _ rfl 0 _ rfl, h 1 _ rfl 1 _ rfl, h 1 _ rfl 2 _ rfl, h 1 _ rfl 3 _ rfl, h 1 _ rfl 4 _ rfl⟩
theorem lit_rows (w : World) (xs : List Rs) (t : TypeId) : Cg.RowK 5 encR (w.alloc (.cells (xs.flatMap encR).toArray t)) (.slice (some ⟨w.heap.size, 0, none⟩) xs.length xs.length) xs :=
  BlkK.row (t := t) ⟨_, heap_alloc_new w _, by rw [List.size_toArray, flat_len encR_len]; exact Nat.le_refl _, fun j x hj i u hu => by
    have hi := (List.getElem?_eq_some_iff.1 hu).1
    rw [encR_len] at hi
    rw [List.getElem?_toArray, flat_get encR_len xs j x hj i hi]
    exact hu⟩ xs.length (Nat.le_refl _)
set_option maxRecDepth 100000 in
set_option maxHeartbeats 4000000 in
theorem alive56 (w0 w : World) (hg : Below w0.heap.size w0 w) : Calls Try.prog 10 #[] w fun e w' => e = .returned (.bool true) ∧ Below w0.heap.size w0 w' := by
  have G := Lib.hid hg
  clear hg
  go_enter Try.func10, Try.ntmps10
  go_wp2_with fail
  refine (pair_prog 4 4 _ [] w (rowK_nil 5 encR w) (by decide) rfl (by decide)).mono ?_
  rintro e w1 ⟨v1, s1, rfl, r1, b1, p1, t1⟩
  rw [alive_p s1 p1 t1] at r1
  have G := Lib.hid (G.out.trans (b1.mono G.out.size))
  have R1 := Lib.hid r1
  clear r1 b1 p1 t1
  obtain ⟨x1, y1, z1, rfl, _⟩ := two_rows R1.out
  go_wp2_with fail
  have L := Lib.hid (lit_rows w1 lA 31)
  have A := Lib.hid ((Below.refl w1.heap.size w1).alloc (Nat.le_refl _) (.cells (lA.flatMap encR).toArray 31))
  have G := Lib.hid (G.out.trans (A.out.mono G.out.size))
  have R1 := Lib.hid (R1.out.below A.out)
  refine (standings_prog 4 4 _ lA _ L.out (by decide) rfl (by decide)).mono ?_
  rintro e w2 ⟨g, rows, rfl, hlen, st⟩
  have B := Lib.hid st.bel
  have L := Lib.hid (L.out.below B.out)
  have R1 := Lib.hid (R1.out.below B.out)
  have G := Lib.hid (G.out.trans (B.out.mono G.out.size))
  have SV := Lib.hid (alive_s _ st.perm (srt_of st.srt))
  have K := Lib.hid st.blk
  clear st
  go_wp2_with fail
  have L2 := Lib.hid (lit_rows w2 lB 31)
  have A := Lib.hid ((Below.refl w2.heap.size w2).alloc (Nat.le_refl _) (.cells (lB.flatMap encR).toArray 31))
  have K := Lib.hid (K.out.same (A.out.block g K.out.lt))
  have L := Lib.hid (L.out.below A.out)
  have R1 := Lib.hid (R1.out.below A.out)
  have G := Lib.hid (G.out.trans (A.out.mono G.out.size))
  refine (pair_prog 3 3 _ lB _ L2.out (by decide) rfl (by decide)).mono ?_
  rintro e w4 ⟨v4, s4, rfl, r4, b4, p4, t4⟩
  rw [alive_q s4 p4 t4] at r4
  have B := Lib.hid b4
  have K := Lib.hid (K.out.same (B.out.block g K.out.lt))
  have L := Lib.hid (L.out.below B.out)
  have R1 := Lib.hid (R1.out.below B.out)
  have R4 := Lib.hid r4
  have G := Lib.hid (G.out.trans (B.out.mono G.out.size))
  clear r4 b4 p4 t4 L2 A B
  obtain ⟨x4, y4, z4, rfl, _⟩ := two_rows R4.out
  obtain ⟨_, _, _, hv, _, a0, a1, a2, a3, a4, a5, a6, a7, a8, a9⟩ := two_rows R1.out
  cases hv
  have row : ∀ (j : Nat) (y : St), (rows.map (·.1))[j]? = some y → ∀ (i : Nat) (z : Int), i ≠ 6 → (∀ u, (encS (y, u))[i]? = some (.int .i64 z)) → w4.cell? ⟨g, j * 8 + i, none⟩ = some (.int .i64 z) := fun j y hj i z _ hz => by
    rw [List.getElem?_map] at hj
    obtain ⟨x, hx, rfl⟩ := Option.map_eq_some_iff.1 hj
    exact K.out.cell j x hx i _ (hz _)
  rw [SV.out] at row
  have e00 := row 0 _ rfl 0 0 (by decide) (fun _ => rfl)
  have e01 := row 0 _ rfl 1 3 (by decide) (fun _ => rfl)
  have e07 := row 0 _ rfl 7 0 (by decide) (fun _ => rfl)
  have e10 := row 1 _ rfl 0 2 (by decide) (fun _ => rfl)
  have e11 := row 1 _ rfl 1 1 (by decide) (fun _ => rfl)
  have e17 := row 1 _ rfl 7 1 (by decide) (fun _ => rfl)
  have e30 := row 3 _ rfl 0 1 (by decide) (fun _ => rfl)
  have e37 := row 3 _ rfl 7 3 (by decide) (fun _ => rfl)
  clear row
  simp only [Nat.zero_mul, Nat.zero_add, Nat.one_mul, Nat.add_zero, Nat.reduceMul, Nat.reduceAdd] at e00 e01 e07 e10 e11 e17 e30 e37
  simp only at a0 a1 a2 a3 a4 a5 a6 a7 a8 a9
  go_wp2_with fail
  clear a0 a1 a2 a3 a4 a5 a6 a7 a8 a9 e00 e01 e07 e10 e11 e17 e30 e37
  refine (played_prog _ lA 1 0 _ L.out (by decide)).mono ?_
  rintro e w5 ⟨rfl, b5⟩
  rw [show plays lA 1 0 = true by decide]
  have B := Lib.hid b5
  have L := Lib.hid (L.out.below B.out)
  have R4 := Lib.hid (R4.out.below B.out)
  have G := Lib.hid (G.out.trans (B.out.mono G.out.size))
  clear b5 B
  go_wp2_with fail
  refine (played_prog _ lA 0 2 _ L.out (by decide)).mono ?_
  rintro e w6 ⟨rfl, b6⟩
  rw [show plays lA 0 2 = false by decide]
  have B := Lib.hid b6
  have R4 := Lib.hid (R4.out.below B.out)
  have G := Lib.hid (G.out.trans (B.out.mono G.out.size))
  clear b6 B
  obtain ⟨_, _, _, hv, _, a0, a1, a2, a3, a4, a5, a6, a7, a8, a9⟩ := two_rows R4.out
  cases hv
  simp only at a0 a1 a2 a3 a4 a5 a6 a7 a8 a9
  go_wp2_with fail
  go_ret
  exact ⟨rfl, G.out⟩
end Go.Proofs.Ytfjnnbhijajhoaa
