/- Chapter 10: slices.Insert at one string, slices.Clone and slices.IndexFunc with the closure of AddSub. -/
import Derived.Test.YtgnffmlcjnnneaaDoorLnT
import Derived.Test.YtgnffmlcjnnneaaDoorIns
namespace Go.Proofs.YtgnffmlcjnnneaaDoor
open Go Go.RowKit Go.Sort Cg
theorem belowSC {B : Nat} {a : World} (b : Nat) (hb : B ≤ b) : ∀ (vs : List Value) (o : Nat) {w : World}, Below B a w → Below B a (w.setCells b o vs)
  | [], _, _, h => h
  | v :: r, o, _, h => belowSC b hb r (o + 1) (h.setCell (p := ⟨b, o, none⟩) hb v)
theorem sizeSC (b : Nat) : ∀ (vs : List Value) (o : Nat) (w : World), (w.setCells b o vs).heap.size = w.heap.size
  | [], _, _ => rfl
  | v :: r, o, w => by rw [World.setCells, sizeSC b r]; simp [World.setCell]
/-- x put in at place i. -/
def insAt (xs : List ByteArray) (i : Nat) (x : ByteArray) : List ByteArray := xs.take i ++ x :: xs.drop i
theorem insAt_len (xs : List ByteArray) (i : Nat) (x : ByteArray) (hi : i ≤ xs.length) : (insAt xs i x).length = xs.length + 1 := by
  unfold insAt
  rw [List.length_append, List.length_take, List.length_cons, List.length_drop]
  omega
theorem insAt_get (xs : List ByteArray) (i : Nat) (x : ByteArray) (hi : i ≤ xs.length) (j : Nat) (y : ByteArray) (h : (insAt xs i x)[j]? = some y) :
    (j < i ∧ xs[j]? = some y) ∨ (j = i ∧ y = x) ∨ (i < j ∧ xs[j - 1]? = some y) := by
  unfold insAt at h
  have hl : (xs.take i).length = i := by rw [List.length_take]; omega
  rcases Nat.lt_trichotomy j i with hj | hj | hj
  · rw [List.getElem?_append_left (by omega), List.getElem?_take_of_lt hj] at h
    exact .inl ⟨hj, h⟩
  · subst hj
    rw [List.getElem?_append_right (by omega), hl, Nat.sub_self] at h
    simp at h
    exact .inr (.inl ⟨rfl, h.symm⟩)
  · rw [List.getElem?_append_right (by omega), hl] at h
    obtain ⟨d, rfl⟩ : ∃ d, j = i + d + 1 := ⟨j - i - 1, by omega⟩
    rw [show i + d + 1 - i = d + 1 by omega, List.getElem?_cons_succ, List.getElem?_drop] at h
    exact .inr (.inr ⟨hj, by rw [show i + d + 1 - 1 = i + d by omega]; exact h⟩)
theorem rowAt_cells {α : Type} {enc : α → Value} {w : World} {b cap n : Nat} {ys : List α} (hn : ys.length = n) (hc : n ≤ cap) (hb : b < w.heap.size) (h : ∀ (j : Nat) y, ys[j]? = some y → w.cell? ⟨b, j, none⟩ = some (enc y)) :
    RowAt enc w (.slice (some ⟨b, 0, none⟩) n cap) ys := by
  subst hn
  exact ⟨_, _, rfl, ⟨hc, fun h => by cases h⟩, .inr ⟨b, 0, rfl, hb, fun j y hj => by rw [Nat.zero_add]; exact h j y hj⟩⟩
theorem one_new (w : World) (nb : Nat) (x : ByteArray) (h : w.heap[nb]? = some (.cells #[.string x] 9 (0, 0))) (j : Nat) (v : Value) (hj : ([Value.string x] : List Value)[j]? = some v) : w.cell? ⟨nb, 0 + j, none⟩ = some v := by
  cases j with
  | zero => simp at hj; rw [← hj]; exact cell_of_row _ _ 0 _ _ _ h
  | succ j => simp at hj
theorem zip_str (xs : List ByteArray) (j : Nat) (y : ByteArray) (h : xs[j]? = some y) : (xs.map Value.string)[j]? = some (.string y) := by rw [List.getElem?_map, h]; rfl
theorem ins_grow (w : World) (T : TypeId) (C : Array Value) (cp : Nat) (xs : List ByteArray) (i : Nat) (x : ByteArray) (hi : i ≤ xs.length) (hcs : xs.length + 1 ≤ C.size) (hcp : xs.length + 1 ≤ cp)
    (hCt : ∀ (j : Nat) y, j < i → xs[j]? = some y → C[j]? = some (.string y)) (base : Nat) (hbase : base ≤ w.heap.size) :
    RowAt Value.string ((((w.alloc (.cells C T)).drew.setCells w.heap.size i [Value.string x]).drew).setCells w.heap.size (i + 1) ((xs.map Value.string).drop i)) (.slice (some ⟨w.heap.size, 0, none⟩) (xs.length + 1) cp) (insAt xs i x) ∧
    Below base w ((((w.alloc (.cells C T)).drew.setCells w.heap.size i [Value.string x]).drew).setCells w.heap.size (i + 1) ((xs.map Value.string).drop i)) := by
  have hlen := insAt_len xs i x hi
  have hcl : (xs.map Value.string).length = xs.length := List.length_map _
  have hnew : ∀ k, (w.alloc (.cells C T)).cell? ⟨w.heap.size, k, none⟩ = C[k]? := fun k => cell_of_row _ _ k _ _ (0, 0) (heap_alloc_new w _)
  have hsm : ∀ k, k < xs.length + 1 → ((w.alloc (.cells C T)).drew.cell? ⟨w.heap.size, k, none⟩).isSome = true := fun k hk => by
    show ((w.alloc (.cells C T)).cell? ⟨w.heap.size, k, none⟩).isSome = true
    rw [hnew, Array.getElem?_eq_getElem (by omega)]
    rfl
  refine ⟨rowAt_cells hlen hcp ?_ (fun j y hj => ?_), belowSC _ hbase _ _ ((belowSC _ hbase _ _ (((Below.refl base w).alloc hbase _).drew)).drew)⟩
  · rw [sizeSC]
    show w.heap.size < ((w.alloc (.cells C T)).drew.setCells w.heap.size i [Value.string x]).heap.size
    rw [sizeSC]
    show w.heap.size < (w.heap.push _).size
    simp
  · rcases insAt_get xs i x hi j y hj with ⟨h1, h2⟩ | ⟨rfl, rfl⟩ | ⟨h1, h2⟩
    · rw [World.cell?_setCells_out _ _ _ _ _ (fun _ _ => .inl (by show j < _; omega))]
      show ((w.alloc (.cells C T)).drew.setCells w.heap.size i [Value.string x]).cell? _ = _
      rw [World.cell?_setCells_out _ _ _ _ _ (fun _ _ => .inl (by show j < _; omega))]
      exact (hnew j).trans (hCt j y h1 h2)
    · rw [World.cell?_setCells_out _ _ _ _ _ (fun _ _ => .inl (by show j < _; omega))]
      have := World.cell?_setCells_in w.heap.size [Value.string y] j (w.alloc (.cells C T)).drew (fun k hk => hsm _ (by simp at hk; omega)) 0 (by simp)
      simpa using this
    · obtain ⟨d, rfl⟩ : ∃ d, j = i + 1 + d := ⟨j - i - 1, by omega⟩
      have hdl : d < ((xs.map Value.string).drop i).length := by
        have := (List.getElem?_eq_some_iff.1 h2).1
        rw [List.length_drop, hcl]; omega
      have := World.cell?_setCells_in w.heap.size ((xs.map Value.string).drop i) (i + 1) (((w.alloc (.cells C T)).drew.setCells w.heap.size i [Value.string x]).drew) (fun k hk => by
        show (((w.alloc (.cells C T)).drew.setCells w.heap.size i [Value.string x]).cell? _).isSome = true
        rw [World.cell?_setCells_out _ _ _ _ _ (fun _ _ => .inr (by show i + 1 ≤ i + 1 + k; omega))]
        exact hsm _ (by rw [List.length_drop, hcl] at hk; omega)) d hdl
      rw [this, List.getElem_drop, List.getElem_map]
      have e2 : xs[i + d]? = some y := by rw [show i + d = i + 1 + d - 1 by omega]; exact h2
      rw [(List.getElem?_eq_some_iff.1 e2).2]
theorem insert_s (base : Nat) (v : Value) (xs : List ByteArray) (i : Nat) (nb : Nat) (x : ByteArray) (w : World) (hown : w.ownsRow base 9 1 v xs.length (xs.map Value.string)) (hi : i ≤ xs.length) (hn : xs.length ≤ 1000) (hbase : base ≤ w.heap.size)
    (hnb : w.heap[nb]? = some (.cells #[.string x] 9 (0, 0))) (hne : v.ownBlock ≠ some nb) :
    Calls Tryd.prog 51 #[v, .int .i64 i, .slice (some ⟨nb, 0, none⟩) 1 1] w fun e w' => ∃ v', e = .returned v' ∧ RowAt Value.string w' v' (insAt xs i x) ∧ Below base w w' := by
  have hlen := insAt_len xs i x hi
  have hcl : (xs.map Value.string).length = xs.length := List.length_map _
  have h1v : ∀ v ∈ [Value.string x], v.oneCell' = true := fun v hv => by rw [List.mem_singleton.1 hv]; rfl
  have h1c : ∀ v ∈ xs.map Value.string, v.oneCell' = true := fun v hv => by obtain ⟨y, _, rfl⟩ := List.mem_map.1 hv; rfl
  rcases hown.2 with ⟨rfl, h0⟩ | ⟨g, cap, cur, rfl, hg, hgg, hnc, hcm, hcs, htake⟩
  · have hx : xs = [] := List.eq_nil_of_length_eq_zero h0
    subst hx
    obtain rfl : i = 0 := by simpa using hi
    refine (Any2.slices_Insert_string_end_grow Tryd.laysIns none 0 0 nb 0 1 1 [] [.string x] w (by omega) (by omega) (by omega) (by omega) rfl rfl (fun _ => rfl) (fun a h => by cases h) (one_new w nb x hnb) h1v).mono ?_
    rintro e w' ⟨rfl, rfl⟩
    refine ⟨_, rfl, rowAt_cells hlen (grownCap_ge w _ _ _) (by show w.heap.size < (w.heap.push _).size; simp) (fun j y hj => ?_), ((Below.refl _ _).drew).alloc hbase _⟩
    refine (cell_of_row (w.drew.alloc _) w.heap.size j _ _ (0, 0) (heap_alloc_new w.drew _)).trans ?_
    cases j with
    | zero =>
      obtain rfl : x = y := by simpa [insAt] using hj
      rw [Array.getElem?_append_left (by simp)]
      rfl
    | succ j => simp [insAt] at hj
  · have hglt : g < w.heap.size := (Array.getElem?_eq_some_iff.1 hgg).1
    have hcells : ∀ (j : Nat) u, (xs.map Value.string)[j]? = some u → w.cell? ⟨g, 0 + j, none⟩ = some u := fun j u hj => by
      rw [cell_of_row _ _ _ _ _ _ hgg, Nat.zero_add]
      have hj' := hj
      rw [← htake, Nat.mul_one] at hj'
      rw [List.getElem?_take] at hj'
      split at hj'
      · simpa using hj'
      · cases hj'
    have hsome : ∀ j, j < cap → (w.cell? ⟨g, 0 + j, none⟩).isSome = true := fun j hj => by
      rw [cell_of_row _ _ _ _ _ _ hgg, Nat.zero_add, Array.getElem?_eq_getElem (by omega)]
      rfl
    have hfz : ∀ j, w.frozen? ⟨g, j, none⟩ = false := fun j => by simp [World.frozen?, hgg]
    have hgn : g ≠ nb := fun e => hne (by rw [e]; rfl)
    have hold : ∀ (j : Nat) y, xs[j]? = some y → w.cell? ⟨g, j, none⟩ = some (.string y) := fun j y hj => by have := hcells j _ (zip_str xs j y hj); rwa [Nat.zero_add] at this
    by_cases hroom : xs.length + 1 ≤ cap
    · by_cases hie : i = xs.length
      · subst hie
        refine (Any2.slices_Insert_string_end_room Tryd.laysIns g 0 xs.length cap nb 0 1 1 [.string x] w (by omega) hroom (by unfold maxLen at hcm; omega) rfl (fun j hj => by rw [show 0 + xs.length + j = 0 + (xs.length + j) by omega]; exact hsome _ (by omega)) (fun j hj => hfz _) (one_new w nb x hnb) h1v).mono ?_
        rintro e w' ⟨rfl, rfl⟩
        refine ⟨_, rfl, rowAt_cells hlen hroom ?_ (fun j y hj => ?_), belowSC g hg _ _ (Below.refl _ _)⟩
        · rw [sizeSC]; exact hglt
        · rcases insAt_get xs _ x hi j y hj with ⟨h1, h2⟩ | ⟨rfl, rfl⟩ | ⟨h1, h2⟩
          · rw [World.cell?_setCells_out _ _ _ _ _ (fun _ _ => .inl (by show j < _; omega))]
            exact hold j y h2
          · have := World.cell?_setCells_in g [Value.string y] (0 + xs.length) w (fun k hk => by rw [show 0 + xs.length + k = 0 + (xs.length + k) by omega]; exact hsome _ (by simp at hk; omega)) 0 (by simp)
            simpa using this
          · have := (List.getElem?_eq_some_iff.1 h2).1
            omega
      · refine (Any2.slices_Insert_string_shift Tryd.laysIns g 0 xs.length cap i nb 0 1 1 (xs.map Value.string) [.string x] w (by omega) (by omega) hroom (by unfold maxLen at hcm; omega) (fun e => hgn e.symm) hcl rfl hcells (fun j hj => hsome j (by omega)) (fun j hj => hfz _) (one_new w nb x hnb) h1c h1v 9 9 1 cur.size (by simp [World.shape?, hnb]) (by simp [World.shape?, hgg]) (by omega) (by simp [World.frozen?, hnb]) (by simp [World.frozen?, hnb])).mono ?_
        rintro e w' ⟨rfl, rfl⟩
        refine ⟨_, rfl, rowAt_cells hlen hroom ?_ (fun j y hj => ?_), belowSC g hg _ _ (belowSC g hg _ _ ((Below.refl _ _).drew))⟩
        · rw [sizeSC, sizeSC]; exact hglt
        · rcases insAt_get xs i x hi j y hj with ⟨h1, h2⟩ | ⟨rfl, rfl⟩ | ⟨h1, h2⟩
          · rw [World.cell?_setCells_out _ _ _ _ _ (fun _ _ => .inl (by show j < _; omega)), World.cell?_setCells_out _ _ _ _ _ (fun _ _ => .inl (by show j < _; omega))]
            exact hold j y h2
          · have := World.cell?_setCells_in g [Value.string y] (0 + j) (w.drew.setCells g (0 + (j + 1)) ((xs.map Value.string).drop j)) (fun k hk => by
              rw [World.cell?_setCells_out _ _ _ _ _ (fun _ _ => .inl (by show 0 + j + k < _; simp at hk; omega))]
              exact hsome (j + k) (by simp at hk; omega) |> (by rw [Nat.add_assoc]; exact ·)) 0 (by simp)
            simpa using this
          · obtain ⟨d, rfl⟩ : ∃ d, j = i + 1 + d := ⟨j - i - 1, by omega⟩
            have hdl : d < ((xs.map Value.string).drop i).length := by
              have := (List.getElem?_eq_some_iff.1 h2).1
              rw [List.length_drop, hcl]; omega
            rw [World.cell?_setCells_out _ _ _ _ _ (fun _ _ => .inr (by show 0 + i + 1 ≤ i + 1 + d; omega))]
            have := World.cell?_setCells_in g ((xs.map Value.string).drop i) (0 + (i + 1)) w.drew (fun k hk => by rw [Nat.add_assoc]; exact hsome (i + 1 + k) (by rw [List.length_drop, hcl] at hk; omega)) d hdl
            rw [show 0 + (i + 1) + d = i + 1 + d by omega] at this
            rw [this, List.getElem_drop, List.getElem_map]
            have e2 : xs[i + d]? = some y := by rw [show i + d = i + 1 + d - 1 by omega]; exact h2
            rw [(List.getElem?_eq_some_iff.1 e2).2]
    · by_cases hie : i = xs.length
      · subst hie
        refine (Any2.slices_Insert_string_end_grow Tryd.laysIns (some ⟨g, 0, none⟩) xs.length cap nb 0 1 1 (xs.map Value.string) [.string x] w (by omega) hnc (by omega) (by omega) hcl rfl (fun h => by cases h) (fun a ha j u hj => by
          cases ha
          have hadd : (⟨g, 0, none⟩ : Addr).add j = ⟨g, 0 + j, none⟩ := by unfold Addr.add; split <;> simp_all
          rw [hadd]
          exact hcells j u hj) (one_new w nb x hnb) h1v).mono ?_
        rintro e w' ⟨rfl, rfl⟩
        refine ⟨_, rfl, rowAt_cells hlen (grownCap_ge w _ _ _) (by show w.heap.size < (w.heap.push _).size; simp) (fun j y hj => ?_), ((Below.refl _ _).drew).alloc hbase _⟩
        refine (cell_of_row (w.drew.alloc _) w.heap.size j _ _ (0, 0) (heap_alloc_new w.drew _)).trans ?_
        have hj2 : (xs.map Value.string ++ [Value.string x])[j]? = some (.string y) := by
          have := zip_str _ j y hj
          unfold insAt at this
          rw [List.take_length, List.drop_length] at this
          simpa using this
        have hjl := (List.getElem?_eq_some_iff.1 hj2).1
        rw [Array.getElem?_append_left (by simpa using hjl)]
        simpa using hj2
      · refine (Any2.slices_Insert_string_grow Tryd.laysIns g 0 xs.length cap i nb 0 1 1 (xs.map Value.string) [.string x] w (by omega) (by omega) hnc (by omega) (by omega) hcl rfl hcells (one_new w nb x hnb) h1c h1v).mono ?_
        rintro e w' ⟨rfl, rfl⟩
        have hk := ins_grow w 9 (((xs.map Value.string).take i).toArray ++ Builtin.zeroCells (Value.string ⟨#[]⟩).cells (xs.length + 1 - i) ++ Builtin.zeroCells (Value.string ⟨#[]⟩).cells (grownCap w (xs.length + 1) cap 9 - (xs.length + 1))) (grownCap w (xs.length + 1) cap 9) xs i x hi
          (by simp [Builtin.zeroCells, Value.cells]; omega) (grownCap_ge w _ _ _) (fun j y hj hy => by
            have hl : ((xs.map Value.string).take i).length = i := by rw [List.length_take, hcl]; omega
            rw [Array.append_assoc, Array.getElem?_append_left (by simpa [hl] using hj)]
            have : ((xs.map Value.string).take i)[j]? = some (.string y) := by rw [List.getElem?_take_of_lt hj]; exact zip_str xs j y hy
            simpa using this) base hbase
        exact ⟨_, rfl, hk.1, hk.2⟩
end Go.Proofs.YtgnffmlcjnnneaaDoor
