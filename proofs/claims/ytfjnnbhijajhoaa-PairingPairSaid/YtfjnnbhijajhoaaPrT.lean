/- Chapter 56: what the statements share: how a list of results is read; the law Played. -/
import Derived.Test.YtfjnnbhijajhoaaRows
import Derived.Test.YtfjnnbhijajhoaaPrS
import Derived.ProofKit
import Derived.OpenShut
import Derived.ShutString
import Derived.ChangeOld
import Derived.SizedLaws
import Derived.ChangeSlices
import Derived.Deep.Fields
namespace Go.Proofs.Ytfjnnbhijajhoaa
open Go Go.ChangeShapes Go.WideShapes Go.ChangeAt Go.RowKit Go.Deep Cg
theorem own : ownKnob Try.prog.godebug = none := by kernel_rfl
theorem laidOut : laidOutB Try.prog = true := by kernel_rfl
theorem res_fields : ∃ fs : Array Field, Try.prog.underlying 31 = some (.struct fs) ∧ oneCellFields Try.prog fs = true ∧ fs.size = 5 ∧ ∀ (j : Nat) (f : Field), fs[j]? = some f → f.type = 3 := by
  refine ⟨_, Try.underlying31, by kernel_rfl, rfl, fun j f hf => ?_⟩
  have hj := (Array.getElem?_eq_some_iff.1 hf).1
  have hj5 : j < 5 := hj
  rcases j with _ | _ | _ | _ | _ | j
  · cases hf; rfl
  · cases hf; rfl
  · cases hf; rfl
  · cases hf; rfl
  · cases hf; rfl
  · omega
theorem res_cells {H : Type} {enc : TypeId × Value → H} {W : World} {base : Nat} {spare : Nat → Bool} {held : Bool} {n : Nat} {cs : List Value} {x : DataW H × List MemPlace} (h : DataW.trod enc Try.prog W base spare held n 31 cs = some x) (hl : cs.length = 5) : ∃ r : Rs, cs = encR r := by
  obtain ⟨fs, hfs, h1, h5, hty⟩ := res_fields
  obtain ⟨xs, m, _, _, _, hxl, hf⟩ := DataW.trod_struct hfs h
  have key : ∀ j, j < 5 → ∃ a : Int, cs.getD j undef = .int .i64 a := fun j hj => by
    have hjs : j < fs.size := by omega
    have hfj := Array.getElem?_eq_getElem hjs
    obtain ⟨ho, hc1⟩ := hone_of h1 j _ hfj
    have g := hf j _ hfj
    rw [ho, hc1, take1_drop cs j undef (by omega), hty j _ hfj, List.getElem?_eq_getElem (by omega)] at g
    obtain ⟨a, e, _⟩ := DataW.trod_int Try.underlying3 g
    exact ⟨a, List.singleton_inj.1 e⟩
  obtain ⟨a, ha⟩ := key 0 (by omega)
  obtain ⟨b, hb⟩ := key 1 (by omega)
  obtain ⟨c, hc⟩ := key 2 (by omega)
  obtain ⟨d, hd⟩ := key 3 (by omega)
  obtain ⟨e, he⟩ := key 4 (by omega)
  match cs, hl with
  | [v0, v1, v2, v3, v4], _ =>
    refine ⟨⟨a, b, c, d, e⟩, ?_⟩
    simp only [List.getD_cons_zero, List.getD_cons_succ] at ha hb hc hd he
    rw [ha, hb, hc, hd, he]
    rfl
theorem results_of {H : Type} {enc : TypeId × Value → H} {W : World} {v : Value} {d : DataW H} {ps : List MemPlace} (h : DataW.Trod enc Try.prog W 0 (fun _ => true) true 22 v d ps) (hv : ∃ a l c, v = .slice a l c) : ∃ l : List Rs, Cg.RowK 5 encR W v l := by
  obtain ⟨a, l, c, rfl⟩ := hv
  obtain ⟨fuel, h⟩ := h
  have hC : Try.prog.cellsOf 31 = 5 := by kernel_rfl
  rcases open_slice Try.underlying22 h with ⟨h0, _⟩ | ⟨ad, len, cap, m, n, D, Pl, h0, _, hlc, _, hm, _, he⟩
  · have h0 : Value.slice a l c = .slice none 0 0 := List.singleton_inj.1 h0
    rw [h0]
    exact ⟨[], rowK_nil _ _ _⟩
  · have h0 : Value.slice a l c = .slice (some ad) len cap := List.singleton_inj.1 h0
    rw [h0]
    have hmc : m = cap := hm
    rw [hC] at he
    have hr : ∀ i, i < len → ∃ r : Rs, ∀ j, j < 5 → W.cell? ((ad.add (i * 5)).add j) = (encR r)[j]? := fun i hi => by
      obtain ⟨cs', hc, ht⟩ := he i (by omega)
      obtain ⟨_, hl5, hcell⟩ := World.cells?_some hc
      obtain ⟨r, rfl⟩ := res_cells ht hl5
      exact ⟨r, hcell⟩
    obtain ⟨f, hf⟩ := choose_lt hr
    have hll : ((List.range len).map f).length = len := by simp
    refine ⟨(List.range len).map f, some ad, cap, by rw [hll], ⟨by rw [hll]; exact hlc, fun h => by cases h⟩, ?_⟩
    by_cases h00 : len = 0
    · left; rw [h00]; rfl
    · right
      have hcell0 : W.cell? ad = some (.int .i64 (f 0).a) := by
        have := hf 0 (by omega) 0 (by omega)
        rw [show (ad.add (0 * 5)).add 0 = ad by simp [Addr.add]] at this
        exact this
      obtain ⟨b, o, sp⟩ := ad
      have hsp : sp = none := by simpa using World.cell?_spot hcell0
      subst hsp
      refine ⟨b, o, rfl, block_lt_of_cell hcell0, fun j x hj i u hu => ?_⟩
      have hjl : j < len := by
        have := (List.getElem?_eq_some_iff.1 hj).1
        rwa [hll] at this
      rw [List.getElem?_map, List.getElem?_range hjl] at hj
      obtain rfl : f j = x := by simpa using hj
      have hi : i < 5 := by
        have := (List.getElem?_eq_some_iff.1 hu).1
        rwa [encR_len] at this
      have hadd : ((⟨b, o, none⟩ : Addr).add (j * 5)).add i = ⟨b, o + j * 5 + i, none⟩ := by
        rw [Addr.add_lit, Addr.add_lit]
      have := hf j hjl i hi
      rw [hadd] at this
      rw [this, hu]
set_option maxHeartbeats 4000000 in
theorem law_pairingPlayed (v : Value) (l : List Rs) (a b : Int) (w : World) (h : Cg.RowK 5 encR w v l) : Calls Try.prog 4 #[v, .int .i64 a, .int .i64 b] w fun e w' => e = .returned (.bool true) ∧ Below w.heap.size w w' := by
  have HF := Lib.hid (few_law 0 v l w h)
  have HL := Lib.hid h
  obtain ⟨ao, cap, rfl⟩ := h.form
  clear h
  by_cases hl : (l.length : Int) ≤ 150
  · have d2 := Lib.hid (show (decide ((0 : Int) ≤ 40) && decide ((l.length : Int) ≤ 150)) = true by rw [decide_eq_true hl]; rfl)
    have HN := Lib.hid (show l.length ≤ 1000000 by omega)
    have HC := Lib.hid (plays_comm l a b)
    go_enter Try.func4, Try.ntmps4
    go_wp2_with fail
    refine HF.out.mono ?_
    rintro e w1 ⟨rfl, rfl⟩
    rw [d2.out]
    go_wp2_with fail
    refine (played_prog _ l a b w1 HL.out HN.out).mono ?_
    rintro e w2 ⟨rfl, b2⟩
    have B := Lib.hid b2
    clear b2
    obtain ⟨p, hp⟩ : ∃ p, p = plays l a b := ⟨_, rfl⟩
    have HP := Lib.hid hp
    rw [← hp]
    clear hp
    go_wp2_with fail
    refine (played_ref _ l a b w2 (HL.out.below B.out) HN.out).mono ?_
    rintro e w3 ⟨rfl, b3⟩
    rw [← HP.out]
    have B := Lib.hid (B.out.trans (b3.mono B.out.size))
    clear b3
    have pp : (p == p) = true := beq_self_eq_true p
    go_wp2_with fail
    refine (played_prog _ l a b w3 (HL.out.below B.out) HN.out).mono ?_
    rintro e w4 ⟨rfl, b4⟩
    rw [← HP.out]
    have B := Lib.hid (B.out.trans (b4.mono B.out.size))
    clear b4
    go_wp2_with fail
    refine (played_prog _ l b a w4 (HL.out.below B.out) HN.out).mono ?_
    rintro e w5 ⟨rfl, b5⟩
    rw [← HC.out, ← HP.out]
    have B := Lib.hid (B.out.trans (b5.mono B.out.size))
    clear b5
    go_wp2_with fail
    refine (alive56 w1 w5 B.out).mono ?_
    rintro e w6 ⟨rfl, b6⟩
    go_wp2_with fail
    go_ret
    exact ⟨rfl, b6⟩
  · have d2 := Lib.hid (show (decide ((0 : Int) ≤ 40) && decide ((l.length : Int) ≤ 150)) = false by rw [decide_eq_false hl]; rfl)
    go_enter Try.func4, Try.ntmps4
    go_wp2_with fail
    refine HF.out.mono ?_
    rintro e w1 ⟨rfl, rfl⟩
    rw [d2.out]
    go_wp2_with fail
    refine (alive56 w1 w1 (Below.refl _ _)).mono ?_
    rintro e w6 ⟨rfl, b6⟩
    go_wp2_with fail
    go_ret
    exact ⟨rfl, b6⟩
end Go.Proofs.Ytfjnnbhijajhoaa
