/- The shape of a type, reckoned from the program's table of types; an argument that came in reads by its type's shape. -/
import Derived.Test.YtiebjkbofoppaaaShp
import Derived.Deep.Fields
import Derived.Deep.Slices
import Derived.OpenShut
namespace Cg
open Go Go.RowKit Go.Sort Go.Lib Go.ChangeShapes Go.WideShapes Go.Deep
/-- The shapes of a struct's fields, one behind the other from offset o on. -/
def fieldsShape (f : TypeId → Option (List K)) (P : Program) : Nat → List Field → Option (List K)
  | _, [] => some []
  | o, x :: xs => match f x.type with
    | none => none
    | some ks => if x.offset = o ∧ P.cellsOf x.type = ks.length then (fieldsShape f P (o + ks.length) xs).map (ks ++ ·) else none
def shapeOf (P : Program) : Nat → TypeId → Option (List K)
  | 0, _ => none
  | n + 1, t => match P.underlying t with
    | some .bool => some [.lit .bool]
    | some .string => some [.lit .str]
    | some (.int .i64) => some [.lit .int]
    | some (.int .u64) => some [.lit .u64]
    | some (.slice e) => match shapeOf P n e with
      | none => none
      | some ks => if P.cellsOf e = ks.length ∧ 0 < ks.length then some [.sl ks (P.bytesOf e)] else none
    | some (.array m e) => match shapeOf P n e with
      | none => none
      | some ks => if P.cellsOf e = ks.length ∧ P.cellsOf t = m * ks.length then some (List.replicate m ks).flatten else none
    | some (.struct fs) => match fieldsShape (shapeOf P n) P 0 fs.toList with
      | none => none
      | some ks => if P.cellsOf t = ks.length then some ks else none
    | _ => none
variable {H : Type} {enc : TypeId × Value → H} {P : Program} {w : World} {base : Nat} {spare : Nat → Bool} {held : Bool}
abbrev Rd (w : World) := RdL (fun _ => True) reachBytes w
def wok (P : Program) (t : TypeId) (d : DataW H) : Prop := (DataW.weights P t d).all (· ≤ reachBytes) = true
theorem wok_all {e : TypeId} : ∀ {l : List (DataW H)}, (DataW.weightsAll P e l).all (· ≤ reachBytes) = true → ∀ d ∈ l, wok P e d
  | [], _, _, hd => by cases hd
  | x :: l, h, d, hd => by
    rw [DataW.weightsAll, List.all_append, Bool.and_eq_true] at h
    rcases List.mem_cons.1 hd with rfl | hd
    · exact h.1
    · exact wok_all h.2 d hd
theorem wok_each : ∀ {ts : List TypeId} {l : List (DataW H)}, (DataW.weightsEach P ts l).all (· ≤ reachBytes) = true → ∀ (i : Nat) t d, ts[i]? = some t → l[i]? = some d → wok P t d
  | [], _, _, _, _, _, ht, _ => by simp at ht
  | _ :: _, [], _, _, _, _, _, hd => by simp at hd
  | t0 :: ts, x :: l, h, 0, t, d, ht, hd => by
    rw [DataW.weightsEach, List.all_append, Bool.and_eq_true] at h
    obtain rfl := Option.some.inj ht
    obtain rfl := Option.some.inj hd
    exact h.1
  | t0 :: ts, x :: l, h, i + 1, t, d, ht, hd => by
    rw [DataW.weightsEach, List.all_append, Bool.and_eq_true] at h
    exact wok_each h.2 i t d ht hd
theorem rd_fields {f : TypeId → Option (List K)} {m : Nat} (cs : List Value) (hf : ∀ t ks us (y : DataW H × List MemPlace), f t = some ks → DataW.trod enc P w base spare held m t us = some y → wok P t y.1 → ∃ ds, Rd w ks us ds) :
    ∀ (fs : List Field) (o : Nat) (ks : List K), fieldsShape f P o fs = some ks → (∀ x ∈ fs, ∃ y, DataW.trod enc P w base spare held m x.type ((cs.drop x.offset).take (P.cellsOf x.type)) = some y ∧ wok P x.type y.1) → ∃ ds, Rd w ks ((cs.drop o).take ks.length) ds
  | [], o, ks, h, _ => by
    obtain rfl := Option.some.inj h
    exact ⟨[], by rw [List.length_nil, List.take_zero]; exact .nil⟩
  | x :: xs, o, ks, h, hx => by
    rw [fieldsShape] at h
    cases e : f x.type with
    | none => rw [e] at h; cases h
    | some k1 =>
      rw [e] at h
      simp only at h
      by_cases hc : x.offset = o ∧ P.cellsOf x.type = k1.length
      · rw [if_pos hc] at h
        cases e2 : fieldsShape f P (o + k1.length) xs with
        | none => rw [e2] at h; cases h
        | some k2 =>
          rw [e2] at h
          obtain rfl := Option.some.inj h
          obtain ⟨y, hy, hwy⟩ := hx x List.mem_cons_self
          rw [hc.1, hc.2] at hy
          obtain ⟨d1, h1⟩ := hf _ _ _ _ e hy hwy
          obtain ⟨d2, h2⟩ := rd_fields cs hf xs _ k2 e2 (fun z hz => hx z (List.mem_cons_of_mem _ hz))
          refine ⟨d1 ++ d2, ?_⟩
          rw [List.length_append, List.take_add, List.drop_drop]
          exact h1.append h2
      · rw [if_neg hc] at h; cases h
theorem rd_rep {m k : Nat} {e : TypeId} {ks : List K} (cs : List Value) (hk : ks.length = k) (hf : ∀ us (y : DataW H × List MemPlace), DataW.trod enc P w base spare held m e us = some y → wok P e y.1 → ∃ ds, Rd w ks us ds) :
    ∀ (n i : Nat), (∀ j, i ≤ j → j < i + n → ∃ y, DataW.trod enc P w base spare held m e ((cs.drop (j * k)).take k) = some y ∧ wok P e y.1) → ∃ ds, Rd w (List.replicate n ks).flatten ((cs.drop (i * k)).take (n * k)) ds
  | 0, i, _ => ⟨[], by rw [Nat.zero_mul, List.take_zero]; exact .nil⟩
  | n + 1, i, h => by
    obtain ⟨y, hy, hwy⟩ := h i (Nat.le_refl _) (by omega)
    obtain ⟨d1, h1⟩ := hf _ _ hy hwy
    obtain ⟨d2, h2⟩ := rd_rep cs hk hf n (i + 1) (fun j h1 h2 => h j (by omega) (by omega))
    refine ⟨d1 ++ d2, ?_⟩
    rw [List.replicate_succ, List.flatten_cons, Nat.add_mul, Nat.one_mul, Nat.add_comm (n * k) k, List.take_add, List.drop_drop]
    rw [Nat.add_mul, Nat.one_mul] at h2
    exact h1.append h2
theorem rd_of : ∀ (n : Nat) (t : TypeId) (ks : List K), shapeOf P n t = some ks → ∀ (fuel : Nat) (cs : List Value) (x : DataW H × List MemPlace), DataW.trod enc P w base spare held fuel t cs = some x → wok P t x.1 → ∃ ds, Rd w ks cs ds
  | 0, _, _, h, _, _, _, _, _ => by cases h
  | n + 1, t, ks, h, fuel, cs, x, ht, hw => by
    rw [shapeOf] at h
    split at h
    · rename_i hu
      obtain rfl := Option.some.inj h
      obtain ⟨b, rfl, _⟩ := DataW.trod_bool hu ht
      exact ⟨_, .cons (.lit ⟨b, rfl⟩) .nil⟩
    · rename_i hu
      obtain rfl := Option.some.inj h
      obtain ⟨s, rfl, _⟩ := DataW.trod_string hu ht
      exact ⟨_, .cons (.lit ⟨s, rfl⟩) .nil⟩
    · rename_i hu
      obtain rfl := Option.some.inj h
      obtain ⟨z, rfl, _⟩ := DataW.trod_int hu ht
      exact ⟨_, .cons (.lit ⟨z, rfl⟩) .nil⟩
    · rename_i hu
      obtain rfl := Option.some.inj h
      obtain ⟨z, rfl, _⟩ := DataW.trod_int hu ht
      exact ⟨_, .cons (.lit ⟨z, rfl⟩) .nil⟩
    · rename_i e hu
      cases he : shapeOf P n e with
      | none => rw [he] at h; cases h
      | some k1 =>
        rw [he] at h
        simp only at h
        by_cases hc : P.cellsOf e = k1.length ∧ 0 < k1.length
        · rw [if_pos hc] at h
          obtain rfl := Option.some.inj h
          rcases open_slice hu ht with ⟨rfl, _⟩ | ⟨a, len, cap, m, q, Da, Pl, rfl, _, hlc, _, hm, rfl, hi⟩
          · exact ⟨[.sl []], .cons (.slNil (fun _ => rfl)) .nil⟩
          · have hlm : len ≤ m := by rw [hm]; split <;> omega
            rw [hc.1] at hi
            unfold wok at hw
            rw [DataW.weights, hu] at hw
            simp only [List.all_cons, List.all_append, Bool.and_eq_true, decide_eq_true_eq, List.length_map, List.length_range] at hw
            have hby : len * P.bytesOf e ≤ reachBytes := Nat.le_trans (Nat.mul_le_mul_right _ (by omega)) hw.1
            have hr : ∀ i, i < len → ∃ p : List Value × List D, (∀ j, j < k1.length → w.cell? ((a.add (i * k1.length)).add j) = p.1[j]?) ∧ p.1.length = k1.length ∧ Rd w k1 p.1 p.2 := fun i hil => by
              obtain ⟨cs', h1, h2⟩ := hi i (by omega)
              obtain ⟨ds, hd⟩ := rd_of n e k1 he _ _ _ h2 (wok_all hw.2.1 _ (List.mem_map.2 ⟨i, List.mem_range.2 hil, rfl⟩))
              obtain ⟨_, hl, hcell⟩ := World.cells?_some h1
              exact ⟨(cs', ds), hcell, hl, hd⟩
            obtain ⟨f, hf⟩ := choose_lt hr
            by_cases h0 : len = 0
            · subst h0
              exact ⟨[.sl []], .cons (.slNil (fun e => by cases e)) .nil⟩
            · have hcell0 : ∃ u, w.cell? a = some u := by
                obtain ⟨h1, h2, _⟩ := hf 0 (by omega)
                have := h1 0 hc.2
                rw [show (a.add (0 * k1.length)).add 0 = a by simp [Addr.add], List.getElem?_eq_getElem (by omega)] at this
                exact ⟨_, this⟩
              obtain ⟨u0, hu0⟩ := hcell0
              obtain ⟨b, o, sp⟩ := a
              have hsp : sp = none := by simpa using World.cell?_spot hu0
              subst hsp
              refine ⟨[.sl ((List.range len).map fun i => (f i).2)], .cons (.slSome (by simp) hlc hby trivial (block_lt_of_cell hu0) (RdE.mk _ _ fun j ds hj => ?_)) .nil⟩
              have hjl : j < len := by
                have := (List.getElem?_eq_some_iff.1 hj).1
                simpa using this
              rw [List.getElem?_map, List.getElem?_range hjl] at hj
              obtain rfl : (f j).2 = ds := by simpa using hj
              obtain ⟨h1, h2, h3⟩ := hf j hjl
              refine ⟨(f j).1, fun i u hu => ?_, h3⟩
              have hik : i < k1.length := by
                have := (List.getElem?_eq_some_iff.1 hu).1
                omega
              have := h1 i hik
              rw [Addr.add_lit, Addr.add_lit] at this
              rw [this, hu]
        · rw [if_neg hc] at h; cases h
    · rename_i m e hu
      cases he : shapeOf P n e with
      | none => rw [he] at h; cases h
      | some k1 =>
        rw [he] at h
        simp only at h
        by_cases hc : P.cellsOf e = k1.length ∧ P.cellsOf t = m * k1.length
        · rw [if_pos hc] at h
          obtain rfl := Option.some.inj h
          obtain ⟨xs, q, _, rfl, hl, hxl, hi⟩ := DataW.trod_array hu ht
          rw [hc.1] at hi
          unfold wok at hw
          rw [DataW.weights, hu] at hw
          simp only at hw
          obtain ⟨ds, hd⟩ := rd_rep (P := P) (enc := enc) (base := base) (spare := spare) (held := held) (m := q) (e := e) cs rfl (fun us y hy hwy => rd_of n e k1 he _ _ _ hy hwy) m 0 (fun j _ hj => ⟨xs[j]'(by omega), by rw [hi j (by omega), List.getElem?_eq_getElem (by omega)], wok_all hw _ (List.mem_map.2 ⟨_, List.getElem_mem _, rfl⟩)⟩)
          refine ⟨ds, ?_⟩
          rw [Nat.zero_mul, List.drop_zero, List.take_of_length_le (by rw [hl, hc.2]; exact Nat.le_refl _)] at hd
          exact hd
        · rw [if_neg hc] at h; cases h
    · rename_i fs hu
      cases he : fieldsShape (shapeOf P n) P 0 fs.toList with
      | none => rw [he] at h; cases h
      | some k1 =>
        rw [he] at h
        simp only at h
        by_cases hc : P.cellsOf t = k1.length
        · rw [if_pos hc] at h
          obtain rfl := Option.some.inj h
          obtain ⟨xs, q, _, rfl, hl, hxl, hi⟩ := DataW.trod_struct hu ht
          unfold wok at hw
          rw [DataW.weights, hu] at hw
          simp only at hw
          obtain ⟨ds, hd⟩ := rd_fields (P := P) (enc := enc) (base := base) (spare := spare) (held := held) (m := q) cs (fun t ks us y h1 h2 h3 => rd_of n t ks h1 _ _ _ h2 h3) fs.toList 0 _ he (fun z hz => by
            obtain ⟨i, hil, rfl⟩ := List.getElem_of_mem hz
            rw [Array.length_toList] at hil
            have hg : fs[i]? = some fs.toList[i] := by rw [Array.getElem?_eq_getElem hil]; rfl
            exact ⟨xs[i]'(by omega), by rw [hi i _ hg, List.getElem?_eq_getElem (by omega)], wok_each hw i _ _ (by rw [List.getElem?_map, List.getElem?_eq_getElem (by rw [Array.length_toList]; exact hil)]; rfl) (by rw [List.getElem?_map, List.getElem?_eq_getElem (by omega)]; rfl)⟩)
          refine ⟨ds, ?_⟩
          rw [List.drop_zero, List.take_of_length_le (by rw [hl, hc]; exact Nat.le_refl _)] at hd
          exact hd
        · rw [if_neg hc] at h; cases h
    · cases h
end Cg
