/- Chapter 56: the standings sorted: slices.SortFunc with better, at records. -/
import Derived.Test.YtfjnnbhijajhoaaPrD
import Derived.Test.YtfjnnbhijajhoaaSrt
import Derived.Shelf.SlSortCmp.WholeK
import Derived.Shelf.SlicesG.Cmp
import Derived.Shelf.Small.Bits
namespace Go.Proofs.Ytfjnnbhijajhoaa
open Go Go.RowKit Go.Sort Go.Shelf Cg
abbrev Sl := Option Addr × Nat × Nat
abbrev slv (s : Sl) : Value := .slice s.1 s.2.1 s.2.2
def encT (x : St × Sl) : List Value := encS (x.1, slv x.2)
theorem encT_len (x : St × Sl) : (encT x).length = 8 := rfl
theorem encT_one (x : St × Sl) : ∀ u ∈ encT x, u.oneCell' = true := fun u hu => by
  unfold encT encS at hu
  simp only [List.mem_cons, List.not_mem_nil, or_false] at hu
  rcases hu with rfl | rfl | rfl | rfl | rfl | rfl | rfl | rfl <;> rfl
theorem cmpI_neg (x y : Int) : cmpI x y < 0 ↔ x < y := by
  unfold cmpI
  split
  · omega
  · split <;> omega
theorem cmpI_zero (x y : Int) : cmpI x y = 0 ↔ x = y := by
  unfold cmpI
  split
  · omega
  · split <;> omega
theorem cfS_neg (x y : St) : cfS x y < 0 ↔ better x y = true := by
  unfold cfS better
  rw [orI, orI, orI, orI, decide_eq_true_eq]
  have h1 := cmpI_neg y.pt x.pt
  have h2 := cmpI_neg y.tie x.tie
  have h3 := cmpI_neg x.pl y.pl
  have z1 := cmpI_zero y.pt x.pt
  have z2 := cmpI_zero y.tie x.tie
  have z3 := cmpI_zero x.pl y.pl
  split
  · split
    · split
      · omega
      · omega
    · omega
  · omega
theorem swo_std : SWO (ltOf fun x y : St × Sl => cfS x.1 y.1) where
  irrefl x := by
    unfold ltOf
    rw [decide_eq_false_iff_not, cfS_neg]
    unfold better
    simp
  trans x y z h1 h2 := by
    unfold ltOf at *
    rw [decide_eq_true_eq, cfS_neg] at *
    unfold better at *
    rw [decide_eq_true_eq] at *
    omega
  ntrans x y z h1 h2 := by
    unfold ltOf at *
    rw [decide_eq_false_iff_not, cfS_neg] at *
    unfold better at *
    rw [decide_eq_true_eq] at *
    omega
theorem cmp_std (blk off size : Nat) (w : World) : CmpLays Try.prog 22 #[] encT 8 (fun x y => cfS x.1 y.1) blk off size w :=
  fun _ _ _ _ x y => better_any x.1 y.1 (slv x.2) (slv y.2) _
theorem getI {α : Type} [Inhabited α] (l : List α) (j : Nat) (h : j < l.length) : l.toArray[j]! = l[j] := by rw [getElem!_pos l.toArray j (by simpa using h)]; simp
theorem blk_holds {t : TypeId} {w : World} {g : Nat} {rows : List (St × Sl)} (h : BlkK 8 encT t w g rows) : HoldsK encT 8 w g 0 rows.toArray := fun j hj => by
  rw [size_flatK] at hj
  have hj2 : j < rows.length * 8 := by simpa using hj
  have hq : j / 8 < rows.length := by omega
  refine ⟨?_, by rw [Nat.zero_add]; exact h.frozen j⟩
  rw [get_flatK _ _ _ _ hj, getI _ _ hq, Nat.zero_add]
  have h8 : j % 8 < (encT rows[j / 8]).length := by rw [encT_len]; omega
  have := h.cell (j / 8) _ (List.getElem?_eq_getElem hq) (j % 8) _ (List.getElem?_eq_getElem h8)
  rw [show j / 8 * 8 + j % 8 = j by omega] at this
  rw [this, getElem!_pos (encT rows[j / 8]) (j % 8) h8]
  rfl
theorem sort_blk {t : TypeId} {w : World} {g : Nat} {rows : List (St × Sl)} (h : BlkK 8 encT t w g rows) (d : Array (St × Sl)) (hd : d.size = rows.length) (n : Nat) (os : Array Obj) :
    BlkK 8 encT t (sortWorldK encT 8 w g 0 n d os) g d.toList ∧ w.grownBy (sortWorldK encT 8 w g 0 n d os) (some g) := by
  obtain ⟨cur, hg, hl, hc⟩ := h
  have hlt := (Array.getElem?_eq_some_iff.1 hg).1
  have hsz : (putRowK encT 8 (Go.Sort.ahead w n) g 0 d).heap.size = w.heap.size := by
    show (w.heap.modify g _).size = _
    rw [Array.size_modify]
  have hgg : (putRowK encT 8 (Go.Sort.ahead w n) g 0 d).heap[g]? = some (.cells (putCells id 0 (flatK encT 8 d) cur) t (0, 0)) := by
    show (w.heap.modify g _)[g]? = _
    rw [Array.getElem?_modify, if_pos rfl, hg]
    rfl
  have hgo : ∀ k, k < w.heap.size → (sortWorldK encT 8 w g 0 n d os).heap[k]? = (putRowK encT 8 (Go.Sort.ahead w n) g 0 d).heap[k]? := fun k hk => by
    show (_ ++ os)[k]? = _
    rw [Array.getElem?_append_left (by rw [hsz]; exact hk)]
  refine ⟨⟨_, (hgo g hlt).trans hgg, ?_, fun j x hj i u hu => ?_⟩, ⟨rfl, rfl, rfl, ?_, fun k hk hr => ?_⟩⟩
  · show _ ≤ (Array.mapIdx _ cur).size
    rw [Array.size_mapIdx, Array.length_toList, hd]; exact hl
  · have hj2 := (List.getElem?_eq_some_iff.1 hj)
    obtain ⟨hjl, hx⟩ := hj2
    rw [Array.length_toList] at hjl
    have hi := (List.getElem?_eq_some_iff.1 hu).1
    rw [encT_len] at hi
    have hin : j * 8 + i < d.size * 8 := by omega
    show (Array.mapIdx _ cur)[j * 8 + i]? = _
    rw [Array.getElem?_mapIdx, Array.getElem?_eq_getElem (by rw [← hd] at hl; omega), Option.map_some, if_pos ⟨Nat.zero_le _, by rw [size_flatK]; omega⟩, Nat.sub_zero, get_flatK _ _ _ _ hin]
    have e1 : (j * 8 + i) / 8 = j := by omega
    have e2 : (j * 8 + i) % 8 = i := by omega
    rw [e1, e2, getElem!_pos d j hjl]
    rw [Array.getElem_toList] at hx
    rw [hx]
    have := (List.getElem?_eq_some_iff.1 hu).2
    rw [getElem!_pos _ _ (by rw [encT_len]; exact hi), this]
    rfl
  · show w.heap.size ≤ (_ ++ os).size
    rw [Array.size_append]
    have := hsz
    omega
  · rw [hgo k hk]
    show (w.heap.modify g _)[k]? = _
    rw [Array.getElem?_modify, if_neg (fun e => hr (by rw [e]))]
theorem sort_prog (g cap : Nat) (rows : List (St × Sl)) (w : World) (h : BlkK 8 encT 35 w g rows) (hn : rows.length ≤ 100000) :
    Calls Try.prog 23 #[.slice (some ⟨g, 0, none⟩) rows.length cap, .func (.func 22) #[] #[]] w fun e w' => e = .returned (.tuple #[]) ∧ ∃ rows', rows'.Perm rows ∧ (∀ i j (hi : i < rows'.length) (hj : j < rows'.length), i < j → better rows'[j].1 rows'[i].1 = false) ∧ BlkK 8 encT 35 w' g rows' ∧ w.grownBy w' (some g) := by
  have eg : ∀ args w, (callFunc 22 args).run Try.prog w = .ok (.enter 22 args) w := enters_of Try.func22 (by kernel_rfl) rfl
  have hcon := AnyQ.slices_SortFunc Try.sortStd 8 Try.isAgg35 Try.sizeOf35 encT encT_len encT_one (fun x y => cfS x.1 y.1) swo_std 22 #[] g 0 cap rows.toArray w eg (cmp_std g 0 _ w) (blk_holds h) h.lt (by rw [List.size_toArray]; omega)
  change Calls Try.prog 23 _ _ _ at hcon
  rw [List.size_toArray] at hcon
  refine hcon.mono ?_
  rintro e w' ⟨rfl, d', n, os, hp, hs, rfl⟩
  obtain ⟨h1, _, h3⟩ := hp
  have h1 : d'.size = rows.length := by simpa using h1
  have hb := sort_blk h d' h1 n os
  refine ⟨rfl, d'.toList, ?_, fun i j hi hj hij => ?_, hb.1, hb.2⟩
  · have e1 : (d'.extract 0 rows.length) = d' := by rw [← h1]; simp
    have e2 : (rows.toArray.extract 0 rows.length) = rows.toArray := by simp
    rw [e1, e2] at h3
    simpa using h3
  · rw [Array.length_toList] at hi hj
    have := hs i j (Nat.zero_le _) hij (by rw [← h1]; exact hj)
    unfold ltOf at this
    rw [decide_eq_false_iff_not, cfS_neg, getElem!_pos d' i hi, getElem!_pos d' j hj] at this
    simpa using this
end Go.Proofs.Ytfjnnbhijajhoaa
