/- Parts of the proof, joined: Small lemmas that every walk of this seat uses: equations of endings, append of one new element to a slice that the call owns, bits of an int. They hold for any program; A slice whose elements take one cell each, as a list, wherever it lies; what the call owns read so. They hold for any program; A slice whose elements take k cells each (structs), as a list, wherever it lies; rows in a known block, one element written. They hold for any program; Nested structs and slices, read out of memory as trees, by the shape of the type; no program in sight; The shape of a type, reckoned from the program's table of types; an argument that came in reads by its type's shape; Chapter 25: the shapes of the types; Chapter 25: place, Find (both); Elements as lists of cells: from the reading by shape to rows of cells and back; no program in sight; Chapter 25: slices.Clone at every element type of the states; Chapter 25: structs in boxes; copyPlayer; Chapter 25: copyPlayer; Blocks of elements as lists of cells: parts of an element written; loops over elements. They hold for any program; Chapter 25: copyAbility; Chapter 25: what a state copied holds: who owns what; Chapter 25: a state of the call's own: which block plays which part. -/
import Derived.WalkKit
import Derived.Lib.Hide
import Derived.Maps.AppendAt
import Derived.Laws.Strings
import Derived.Lib.OwnBridge
import Derived.Sort.OwnSortedInts
import Derived.WalkSmall
import Derived.Laws.AppendOwnNone
import Derived.Deep.Fields
import Derived.Deep.Slices
import Derived.OpenShut
import Derived.Test.YtiebjkbofoppaaaProg
import Derived.WalkLawsBesides
import Derived.WalkSpells
import Derived.BigQuiet
import Derived.Deep.MidRow
import Derived.Shelf.Abstract
import Derived.Lib.SliceRun
import Derived.Deep.RegionHeld3
import Derived.Deep.RegionLaw
section
namespace Cg
open Go Go.RowKit
theorem ret_string {a b : ByteArray} (h : a = b) : Ending.returned (.string a) = Ending.returned (.string b) := by rw [h]
theorem ret_int {k : IntKind} {a b : Int} (h : a = b) : Ending.returned (.int k a) = .returned (.int k b) := by rw [h]
theorem ret_bool {a b : Bool} (h : a = b) : Ending.returned (.bool a) = .returned (.bool b) := by rw [h]
theorem str_eq {a b : ByteArray} (h : a = b) : Value.string a = Value.string b := by rw [h]
theorem int_eq {k : IntKind} {a b : Int} (h : a = b) : Value.int k a = Value.int k b := by rw [h]

/-- The row of an element type in the program's table, and the slice type over it. -/
def ElemIs (P : Program) (t e : TypeId) (z : Value) (size bytes : Nat) : Prop :=
 P.underlying t = some (.slice e) ∧ z.cells.size = size ∧ 0 < size ∧ ∃ i, P.info? e = some i ∧ i.zero = some z ∧ i.size = size ∧ i.bytes = bytes

theorem elemIs_mk {P : Program} {t e : TypeId} {z : Value} {size bytes : Nat} (h1 : P.underlying t = some (.slice e)) (h2 : (P.info? e).map (fun i => (i.zero, i.size, i.bytes)) = some (some z, size, bytes))
  (h3 : z.cells.size = size) (h4 : 0 < size) : ElemIs P t e z size bytes := ⟨h1, h3, h4, info_parts h2⟩

theorem cells_new (w : World) (us : List Value) (t : TypeId) : ∀ (j : Nat) u, us[j]? = some u → (w.alloc (.cells us.toArray t)).cell? ((⟨w.heap.size, 0, none⟩ : Addr).add j) = some u := by
 intro j u hj
 have hadd : (⟨w.heap.size, 0, none⟩ : Addr).add j = ⟨w.heap.size, j, none⟩ := by unfold Addr.add; split <;> simp_all
 rw [hadd, cell_of_row _ _ j _ t (0, 0) (heap_alloc_new w _)]
 simpa using hj

/-- 'out = append(out, x)': the element's cells lie in a new block (it is the last one made); out is nil or the call's own. -/
theorem wpList_append_new {P : Program} {w : World} {ops : Array Oper} {rest : List Oper} {o : Oper} {a : Act} {Q : Exit → Act → World → Prop} (hgd : o.guard = none) (s x : Operand) (t : TypeId)
  (ho : o.op = .call { callee := .builtin .append, args := #[s, x], argTypes := #[t, t] })
  (base : Nat) {e : TypeId} {z : Value} {size bytes : Nat} (hE : ElemIs P t e z size bytes)
  (v : Value) (n : Nat) (xs : List Value) (hs : a.eval s = v) (hown : w.ownsRow base e size v n xs)
  (us : List Value) (hx : a.eval x = .slice (some ⟨w.heap.size, 0, none⟩) 1 1) (hul : us.length = size) (h1 : us.all (·.oneCell') = true)
  (hn : (n + 1) * bytes ≤ 140737488355328) (hn1 : n < 140737488355328) (hbase : base ≤ w.heap.size)
  (h : ∀ v' w', w'.ownsRow base e size v' (n + 1) (xs ++ us) → Below base w w' → v' ≠ .slice none 0 0 → wpList P ops Q rest (a.put o.dst v') w') :
  wpList P ops Q (o :: rest) a (w.alloc (.cells us.toArray e)) := by
 obtain ⟨ht, hzs, hsz, i, hi, hz, hsize, hby⟩ := hE
 refine wpList_append_own (P := P) (w.alloc (.cells us.toArray e)) hgd s x t ho base e i z size bytes ht hi hz hsize hby hzs hsz v n xs hs (hown.alloc _) ⟨w.heap.size, 0, none⟩ 1 1 us hx (by rw [hul]; omega) (cells_new w us e)
  (fun u hu => by have := List.all_eq_true.1 h1 u hu; exact this) (by simp only [maxLen]; omega) hn (by simp; omega) ?_
 intro v' w' hown' hgrow hnil
 refine h v' w' hown' ?_ (fun hv => ?_)
 ·refine ((Below.refl base w).alloc hbase _).grown hgrow (by simp; omega) (fun k hk => ?_)
  exact ((hown.alloc (.cells us.toArray e)).lt k hk).1
 ·exact absurd (hnil.1 hv).2 (by decide)

/-- What is owned from 'base' on lies so in every later world that has kept its block. -/
theorem own_nil_or {w : World} {base : Nat} {e : TypeId} {size : Nat} {v : Value} {n : Nat} {xs : List Value} (h : w.ownsRow base e size v n xs) (hn : 0 < n) :
  ∃ g cap, v = .slice (some ⟨g, 0, none⟩) n cap ∧ base ≤ g ∧ g < w.heap.size ∧ n ≤ cap ∧ ∀ (j : Nat) u, xs[j]? = some u → w.cell? ⟨g, j, none⟩ = some u := by
 rcases h.2 with ⟨_, rfl⟩ | ⟨g, cap, cur, rfl, hb, hg, hnc, _, _, htake⟩
 ·omega
 ·refine ⟨g, cap, rfl, hb, (Array.getElem?_eq_some_iff.1 hg).1, hnc, fun j u hj => ?_⟩
  have := h.cells (g := g) rfl j u hj
  have hadd : (⟨g, 0, none⟩ : Addr).add j = ⟨g, j, none⟩ := by unfold Addr.add; split <;> simp_all
  rwa [hadd] at this

theorem bits_ofInt_nat (a : Nat) (ha : a < 9223372036854775808) : (BitVec.ofInt 64 (a : Int)).toNat = a := by
 rw [BitVec.ofInt_natCast, BitVec.toNat_ofNat]; exact Nat.mod_eq_of_lt (by omega)
theorem i64_and_nat (a b : Nat) (ha : a < 9223372036854775808) (hb : b < 9223372036854775808) : bits .and .i64 (a : Int) (b : Int) = ((a &&& b : Nat) : Int) := by
 have hx : a &&& b < 2 ^ 63 := Nat.and_lt_two_pow _ (by omega)
 show IntKind.i64.wrap ((BitVec.ofInt 64 (a : Int) &&& BitVec.ofInt 64 (b : Int)).toNat : Int) = _
 rw [BitVec.toNat_and, bits_ofInt_nat a ha, bits_ofInt_nat b hb, IntKind.wrap_i64]
 omega
theorem i64_or_nat (a b : Nat) (ha : a < 9223372036854775808) (hb : b < 9223372036854775808) : bits .or .i64 (a : Int) (b : Int) = ((a ||| b : Nat) : Int) := by
 have hx : a ||| b < 2 ^ 63 := Nat.or_lt_two_pow (by omega) (by omega)
 show IntKind.i64.wrap ((BitVec.ofInt 64 (a : Int) ||| BitVec.ofInt 64 (b : Int)).toNat : Int) = _
 rw [BitVec.toNat_or, bits_ofInt_nat a ha, bits_ofInt_nat b hb, IntKind.wrap_i64]
 omega
theorem i64_and_one (a : Nat) (ha : a < 9223372036854775808) : bits .and .i64 (a : Int) 1 = ((a % 2 : Nat) : Int) := by
 have h := i64_and_nat a 1 ha (by decide)
 rw [Nat.and_one_is_mod] at h
 exact h
theorem bytes_ext {a b : ByteArray} (h : a.data.toList = b.data.toList) : a = b := by
 cases a with | mk a => cases b with | mk b => exact congrArg ByteArray.mk (Array.toList_inj.1 h)
theorem same_list {a b : ByteArray} : (a.toList == b.toList) = true ↔ a = b := by
 rw [beq_iff_eq, ByteArray.toList_eq, ByteArray.toList_eq]
 exact ⟨bytes_ext, fun h => by rw [h]⟩
theorem same_true {a b : ByteArray} (h : a = b) : (a.toList == b.toList) = true := same_list.2 h
theorem same_false {a b : ByteArray} (h : ¬ a = b) : (a.toList == b.toList) = false := by rw [Bool.eq_false_iff]; exact fun e => h (same_list.1 e)
theorem same_dec (a b : ByteArray) : (a.toList == b.toList) = decide (a = b) := by
 by_cases h : a = b
 ·rw [same_true h, decide_eq_true h]
 ·rw [same_false h, decide_eq_false h]
/-- '[]byte(s)': a new block that holds the bytes; nothing is said of the capacity but that it is enough. -/
theorem wpList_bytes {P : Program} {w : World} {ops : Array Oper} {rest : List Oper} {o : Oper} {a : Act} {Q : Exit → Act → World → Prop} (hgd : o.guard = none) (src dst e : TypeId) (x : Operand) (ho : o.op = .convert src dst x)
  (hs : P.underlying src = some .string) (hd : P.underlying dst = some (.slice e)) (he : P.underlying e = some (.int .u8)) (s : ByteArray) (hx : a.eval x = .string s)
  (h : ∀ cap w', s.size ≤ cap → Below w.heap.size w w' → w'.heap.size = w.heap.size + 1 → (∀ (j : Nat) (hj : j < s.size), w'.cell? ⟨w.heap.size, j, none⟩ = some (.int .u8 ((s[j]'hj).toNat : Int))) →
   wpList P ops Q rest (a.put o.dst (.slice (some ⟨w.heap.size, 0, none⟩) s.size cap)) w') : wpList P ops Q (o :: rest) a w := by
 refine wpList_plain hgd fun K hK => ?_
 unfold Oper.wp execOp
 simp only [ho, hx, Sem.run_bind, run_bytes_of_string w src dst e s hs hd he, Result.andThen_ok, Sem.run_pure, Oper.upon]
 refine hK _ _ (h _ _ (grownCap_ge w s.size 0 e) (((Below.refl _ _).drew).alloc (Nat.le_refl _) _) ?_ ?_)
 ·show (w.heap.push _).size = _
  simp
 ·intro j hj
  have hb : (w.drew.alloc (.cells (bytesRow s (grownCap w s.size 0 e)) e ((bytesRow s (grownCap w s.size 0 e)).size, (bytesRow s (grownCap w s.size 0 e)).size + 1))).heap[w.heap.size]? = some _ := heap_alloc_new w.drew _
  rw [cell_of_row _ _ j _ _ _ hb, bytesRow_at s _ j hj]
  rfl

/-- A value that is a slice of the strings xs, wherever it lies. -/
def StrsAt (w : World) (v : Value) (xs : List ByteArray) : Prop :=
 ∃ ao cap, v = .slice ao xs.length cap ∧ (xs = [] ∨ ∃ b o, ao = some ⟨b, o, none⟩ ∧ b < w.heap.size ∧ xs.length ≤ cap ∧ ∀ (j : Nat) x, xs[j]? = some x → w.cell? ⟨b, o + j, none⟩ = some (.string x))
theorem StrsAt.below {w w' : World} {v : Value} {xs : List ByteArray} (h : StrsAt w v xs) (hb : Below w.heap.size w w') : StrsAt w' v xs := by
 obtain ⟨ao, cap, rfl, h⟩ := h
 refine ⟨ao, cap, rfl, ?_⟩
 rcases h with h | ⟨b, o, rfl, hlt, hc, hx⟩
 ·exact .inl h
 ·exact .inr ⟨b, o, rfl, Nat.lt_of_lt_of_le hlt hb.size, hc, fun j x hj => (hb.cell (p := ⟨b, o + j, none⟩) hlt).trans (hx j x hj)⟩
theorem strsAt_own {w : World} {base : Nat} {e : TypeId} {v : Value} {xs : List ByteArray} (h : w.ownsRow base e 1 v xs.length (xs.map Value.string)) : StrsAt w v xs := by
 by_cases hn : xs = []
 ·subst hn
  rcases h.2 with ⟨rfl, _⟩ | ⟨g, cap, cur, rfl, _⟩
  ·exact ⟨none, 0, rfl, .inl rfl⟩
  ·exact ⟨_, cap, rfl, .inl rfl⟩
 ·obtain ⟨g, cap, rfl, _, hlt, hc, hx⟩ := own_nil_or h (List.length_pos_iff.2 hn)
  exact ⟨_, cap, rfl, .inr ⟨g, 0, rfl, hlt, hc, fun j x hj => by rw [Nat.zero_add]; exact hx j _ (by simp [hj])⟩⟩
end Cg
end
section
namespace Cg
open Go Go.RowKit Go.Sort Go.Lib
variable {α : Type}
/-- A value that is a slice of the elements xs, wherever it lies. -/
def RowAt (enc : α → Value) (w : World) (v : Value) (xs : List α) : Prop :=
 ∃ ao cap, v = .slice ao xs.length cap ∧ (xs.length ≤ cap ∧ (ao = none → cap = 0)) ∧ (xs = [] ∨ ∃ b o, ao = some ⟨b, o, none⟩ ∧ b < w.heap.size ∧ ∀ (j : Nat) x, xs[j]? = some x → w.cell? ⟨b, o + j, none⟩ = some (enc x))
theorem RowAt.below {enc : α → Value} {w w' : World} {v : Value} {xs : List α} (h : RowAt enc w v xs) (hb : Below w.heap.size w w') : RowAt enc w' v xs := by
 obtain ⟨ao, cap, rfl, hc, h⟩ := h
 refine ⟨ao, cap, rfl, hc, ?_⟩
 rcases h with h | ⟨b, o, rfl, hlt, hx⟩
 ·exact .inl h
 ·exact .inr ⟨b, o, rfl, Nat.lt_of_lt_of_le hlt hb.size, fun j x hj => (hb.cell (p := ⟨b, o + j, none⟩) hlt).trans (hx j x hj)⟩
theorem rowAt_own {enc : α → Value} {w : World} {base : Nat} {e : TypeId} {v : Value} {xs : List α} (h : w.ownsRow base e 1 v xs.length (xs.map enc)) : RowAt enc w v xs := by
 by_cases hn : xs = []
 ·subst hn
  rcases h.2 with ⟨rfl, _⟩ | ⟨g, cap, cur, rfl, _, _, hc, _⟩
  ·exact ⟨none, 0, rfl, ⟨Nat.le_refl _, fun _ => rfl⟩, .inl rfl⟩
  ·exact ⟨_, cap, rfl, ⟨hc, fun h => by cases h⟩, .inl rfl⟩
 ·obtain ⟨g, cap, rfl, _, hlt, hc, hx⟩ := own_nil_or h (List.length_pos_iff.2 hn)
  exact ⟨_, cap, rfl, ⟨hc, fun h => by cases h⟩, .inr ⟨g, 0, rfl, hlt, fun j x hj => by rw [Nat.zero_add]; exact hx j _ (by simp [hj])⟩⟩
theorem rowAt_nil (enc : α → Value) (w : World) : RowAt enc w (.slice none 0 0) [] := ⟨none, 0, rfl, ⟨Nat.le_refl _, fun _ => rfl⟩, .inl rfl⟩
theorem rowAt_lit (enc : α → Value) (w : World) (xs : List α) (t : TypeId) : RowAt enc (w.alloc (.cells (xs.map enc).toArray t)) (.slice (some ⟨w.heap.size, 0, none⟩) xs.length xs.length) xs := by
 refine ⟨_, _, rfl, ⟨Nat.le_refl _, fun h => by cases h⟩, .inr ⟨w.heap.size, 0, rfl, ?_, fun j x hj => ?_⟩⟩
 ·show w.heap.size < (w.heap.push _).size
  simp
 ·rw [Nat.zero_add, cell_of_row _ _ j _ t (0, 0) (heap_alloc_new w _)]
  simp [hj]
theorem RowAt.form {enc : α → Value} {w : World} {v : Value} {xs : List α} (h : RowAt enc w v xs) : ∃ ao cap, v = .slice ao xs.length cap := by
 obtain ⟨ao, cap, rfl, _⟩ := h
 exact ⟨ao, cap, rfl⟩
/-- The slice is empty, or its elements lie so. -/
theorem RowAt.cases {enc : α → Value} {w : World} {v : Value} {xs : List α} (h : RowAt enc w v xs) : (xs = [] ∧ ∃ ao cap, v = .slice ao 0 cap) ∨
  (¬ xs = [] ∧ ∃ b o cap, v = .slice (some ⟨b, o, none⟩) xs.length cap ∧ xs.length ≤ cap ∧ b < w.heap.size ∧ ∀ (j : Nat) x, xs[j]? = some x → w.cell? ⟨b, o + j, none⟩ = some (enc x)) := by
 obtain ⟨ao, cap, rfl, hc, h⟩ := h
 by_cases hx : xs = []
 ·subst hx
  exact .inl ⟨rfl, ao, cap, rfl⟩
 ·rcases h with h | ⟨b, o, rfl, hlt, hcell⟩
  ·exact absurd h hx
  ·exact .inr ⟨hx, b, o, cap, rfl, hc.1, hlt, hcell⟩
theorem cells_getD {enc : α → Value} {w : World} {b o : Nat} {xs : List α} (z : α) (h : ∀ (j : Nat) x, xs[j]? = some x → w.cell? ⟨b, o + j, none⟩ = some (enc x)) : ∀ j, j < xs.length → w.cell? ⟨b, o + j, none⟩ = some (enc (xs.getD j z)) := by
 intro j hj
 rw [List.getD_eq_getElem?_getD, List.getElem?_eq_getElem hj]
 exact h j _ (List.getElem?_eq_getElem hj)
theorem own_block {w w' : World} {B e size n : Nat} {v : Value} {xs : List Value} (h : w.ownsRow B e size v n xs) (hb : Below w.heap.size w w') : w'.ownsRow B e size v n xs := by
 refine ⟨h.1, ?_⟩
 rcases h.2 with hn | ⟨g, cap, cur, rfl, hg, hgg, rest⟩
 ·exact .inl hn
 ·exact .inr ⟨g, cap, cur, rfl, hg, by rw [hb.block g (Array.getElem?_eq_some_iff.1 hgg).1]; exact hgg, rest⟩
theorem own_low {w : World} {B B' e size n : Nat} {v : Value} {xs : List Value} (h : w.ownsRow B e size v n xs) (hb : B' ≤ B) : w.ownsRow B' e size v n xs := by
 refine ⟨h.1, ?_⟩
 rcases h.2 with hn | ⟨g, cap, cur, rfl, hg, rest⟩
 ·exact .inl hn
 ·exact .inr ⟨g, cap, cur, rfl, by omega, rest⟩
theorem below_grow {B : Nat} {w0 w : World} (h : Below B w0 w) (hB : B ≤ w.heap.size) (os : Array Obj) : Below B w0 (grow w os) :=
 ⟨h.os, h.tape, h.output, by show w0.heap.size ≤ (w.heap ++ os).size; rw [Array.size_append]; have := h.size; omega, fun k hk => by
  rw [heap_grow_old w os (by omega)]; exact h.block k hk⟩
/-- 'out = append(out, ys...)': out is the call's own, ys lies wherever it lies. -/
theorem wpList_append_row {P : Program} {w : World} {ops : Array Oper} {rest : List Oper} {o : Oper} {a : Act} {Q : Exit → Act → World → Prop} (hgd : o.guard = none) (s x : Operand) (t : TypeId)
  (ho : o.op = .call { callee := .builtin .append, args := #[s, x], argTypes := #[t, t] })
  (base : Nat) {e : TypeId} {z : Value} {bytes : Nat} (hE : ElemIs P t e z 1 bytes)
  (v : Value) (n : Nat) (xs : List Value) (hs : a.eval s = v) (hown : w.ownsRow base e 1 v n xs)
  (enc : α → Value) (h1 : ∀ y, (enc y).oneCell' = true) (ys : List α) (vx : Value) (hx : a.eval x = vx) (hr : RowAt enc w vx ys)
  (hn : (n + ys.length) * bytes ≤ 140737488355328) (hn1 : n + ys.length < 140737488355328) (hbase : base ≤ w.heap.size)
  (h : ∀ v' w', w'.ownsRow base e 1 v' (n + ys.length) (xs ++ ys.map enc) → Below base w w' → wpList P ops Q rest (a.put o.dst v') w') :
  wpList P ops Q (o :: rest) a w := by
 obtain ⟨ht, hzs, hsz, i, hi, hz, hsize, hby⟩ := hE
 obtain ⟨ao, cap, rfl, ⟨hc, hnil⟩, hr⟩ := hr
 cases ao with
 | none =>
  have hc0 := hnil rfl
  subst hc0
  have hy : ys = [] := List.eq_nil_of_length_eq_zero (by omega)
  subst hy
  refine wpList_append_own_none hgd s x t ho base e i 1 ht hi v n xs hs hown hx (h v w ?_ (Below.refl _ _))
  simpa using hown
 | some ad =>
  have hcells : ∀ (j : Nat) u, (ys.map enc)[j]? = some u → w.cell? (ad.add j) = some u := by
   intro j u hj
   rcases hr with rfl | ⟨b, oo, hao, _, hcell⟩
   ·simp at hj
   ·cases hao
    rw [List.getElem?_map] at hj
    cases hq : ys[j]? with
    | none => rw [hq] at hj; simp at hj
    | some y =>
     rw [hq] at hj
     have hadd : (⟨b, oo, none⟩ : Addr).add j = ⟨b, oo + j, none⟩ := by unfold Addr.add; split <;> simp_all
     rw [hadd, hcell j y hq]
     simpa using hj
  refine wpList_append_own w hgd s x t ho base e i z 1 bytes ht hi hz hsize hby hzs hsz v n xs hs hown ad ys.length cap (ys.map enc) hx (by simp) hcells (fun u hu => by
   obtain ⟨y, _, rfl⟩ := List.mem_map.1 hu
   exact h1 y) (by simp only [maxLen]; omega) hn hbase ?_
  intro v' w' hown' hgrow _
  exact h v' w' hown' ((Below.refl base w).grown hgrow hbase (fun k hk => (hown.lt k hk).1))
theorem drewN_grow (w : World) (n : Nat) : Below w.heap.size w (w.drewN n) := below_drewN (Below.refl _ _) n
end Cg
end
section
namespace Cg
open Go Go.RowKit Go.Sort Go.Lib
variable {α : Type}
/-- A value that is a slice of the elements xs, k cells each, wherever it lies. -/
def RowK (k : Nat) (enc : α → List Value) (w : World) (v : Value) (xs : List α) : Prop :=
 ∃ ao cap, v = .slice ao xs.length cap ∧ (xs.length ≤ cap ∧ (ao = none → cap = 0)) ∧ (xs = [] ∨ ∃ b o, ao = some ⟨b, o, none⟩ ∧ b < w.heap.size ∧ ∀ (j : Nat) x, xs[j]? = some x → ∀ (i : Nat) u, (enc x)[i]? = some u → w.cell? ⟨b, o + j * k + i, none⟩ = some u)
theorem RowK.below {k : Nat} {enc : α → List Value} {w w' : World} {v : Value} {xs : List α} (h : RowK k enc w v xs) (hb : Below w.heap.size w w') : RowK k enc w' v xs := by
 obtain ⟨ao, cap, rfl, hc, h⟩ := h
 refine ⟨ao, cap, rfl, hc, ?_⟩
 rcases h with h | ⟨b, o, rfl, hlt, hx⟩
 ·exact .inl h
 ·exact .inr ⟨b, o, rfl, Nat.lt_of_lt_of_le hlt hb.size, fun j x hj i u hu => (hb.cell (p := ⟨b, o + j * k + i, none⟩) hlt).trans (hx j x hj i u hu)⟩
theorem RowK.form {k : Nat} {enc : α → List Value} {w : World} {v : Value} {xs : List α} (h : RowK k enc w v xs) : ∃ ao cap, v = .slice ao xs.length cap := by
 obtain ⟨ao, cap, rfl, _⟩ := h
 exact ⟨ao, cap, rfl⟩
theorem rowK_nil (k : Nat) (enc : α → List Value) (w : World) : RowK k enc w (.slice none 0 0) [] := ⟨none, 0, rfl, ⟨Nat.le_refl _, fun _ => rfl⟩, .inl rfl⟩
/-- The cells of a list of elements. -/
theorem flat_get {k : Nat} {enc : α → List Value} (hk : ∀ x, (enc x).length = k) : ∀ (xs : List α) (j : Nat) x, xs[j]? = some x → ∀ (i : Nat), i < k → (xs.flatMap enc)[j * k + i]? = (enc x)[i]?
 | [], j, x, h, _, _ => by simp at h
 | y :: xs, 0, x, h, i, hi => by
  obtain rfl : y = x := by simpa using h
  rw [List.flatMap_cons, Nat.zero_mul, Nat.zero_add, List.getElem?_append_left (by rw [hk]; exact hi)]
 | y :: xs, j + 1, x, h, i, hi => by
  have ih := flat_get hk xs j x (by simpa using h) i hi
  rw [List.flatMap_cons, List.getElem?_append_right (by rw [hk, Nat.add_mul]; omega), hk, show (j + 1) * k + i - k = j * k + i by rw [Nat.add_mul]; omega]
  exact ih
theorem flat_len {k : Nat} {enc : α → List Value} (hk : ∀ x, (enc x).length = k) (xs : List α) : (xs.flatMap enc).length = xs.length * k := by
 induction xs with
 | nil => simp
 | cons x xs ih => rw [List.flatMap_cons, List.length_append, ih, hk, List.length_cons, Nat.add_mul]; omega
theorem rowK_own {k : Nat} {enc : α → List Value} (hk : ∀ x, (enc x).length = k) {w : World} {base : Nat} {e : TypeId} {v : Value} {xs : List α} (h : w.ownsRow base e k v xs.length (xs.flatMap enc)) : RowK k enc w v xs := by
 by_cases hx : xs = []
 ·subst hx
  rcases h.2 with ⟨rfl, _⟩ | ⟨g, cap, cur, rfl, _, _, hc, _⟩
  ·exact ⟨none, 0, rfl, ⟨Nat.le_refl _, fun _ => rfl⟩, .inl rfl⟩
  ·exact ⟨_, cap, rfl, ⟨hc, fun h => by cases h⟩, .inl rfl⟩
 ·obtain ⟨g, cap, rfl, _, hlt, hc, hcell⟩ := own_nil_or h (List.length_pos_iff.2 hx)
  refine ⟨_, cap, rfl, ⟨hc, fun h => by cases h⟩, .inr ⟨g, 0, rfl, hlt, fun j x hj i u hu => ?_⟩⟩
  have hi : i < k := by have := (List.getElem?_eq_some_iff.1 hu).1; rwa [hk] at this
  rw [Nat.zero_add]
  exact hcell _ u ((flat_get hk xs j x hj i hi).trans hu)
theorem elemIsK {P : Program} {t e : TypeId} {z : Value} {size bytes : Nat} (h : ElemIs P t e z size bytes) : 0 < size := h.2.2.1
/-- 'out = append(out, ys...)' at structs: out is the call's own, ys lies wherever it lies. -/
theorem wpList_append_rowK {P : Program} {w : World} {ops : Array Oper} {rest : List Oper} {o : Oper} {a : Act} {Q : Exit → Act → World → Prop} (hgd : o.guard = none) (s x : Operand) (t : TypeId)
  (ho : o.op = .call { callee := .builtin .append, args := #[s, x], argTypes := #[t, t] })
  (base : Nat) {e : TypeId} {z : Value} {k bytes : Nat} (hE : ElemIs P t e z k bytes)
  (v : Value) (n : Nat) (xs : List Value) (hs : a.eval s = v) (hown : w.ownsRow base e k v n xs)
  (enc : α → List Value) (hk : ∀ x, (enc x).length = k) (h1 : ∀ y, ∀ u ∈ enc y, u.oneCell' = true) (ys : List α) (vx : Value) (hx : a.eval x = vx) (hr : RowK k enc w vx ys)
  (hn : (n + ys.length) * bytes ≤ 140737488355328) (hn1 : n + ys.length < 140737488355328) (hbase : base ≤ w.heap.size)
  (h : ∀ v' w', w'.ownsRow base e k v' (n + ys.length) (xs ++ ys.flatMap enc) → w.grownBy w' v.ownBlock → Below base w w' → wpList P ops Q rest (a.put o.dst v') w') :
  wpList P ops Q (o :: rest) a w := by
 obtain ⟨ht, hzs, hsz, i, hi, hz, hsize, hby⟩ := hE
 obtain ⟨ao, cap, rfl, ⟨hc, hnil⟩, hr⟩ := hr
 cases ao with
 | none =>
  have hc0 := hnil rfl
  subst hc0
  have hy : ys = [] := List.eq_nil_of_length_eq_zero (by omega)
  subst hy
  refine wpList_append_own_none hgd s x t ho base e i k ht hi v n xs hs hown hx (h v w ?_ ⟨rfl, rfl, rfl, Nat.le_refl _, fun _ _ _ => rfl⟩ (Below.refl _ _))
  simpa using hown
 | some ad =>
  have hcells : ∀ (j : Nat) u, (ys.flatMap enc)[j]? = some u → w.cell? (ad.add j) = some u := by
   intro j u hj
   rcases hr with rfl | ⟨b, oo, hao, _, hcell⟩
   ·simp at hj
   ·cases hao
    have hjl := (List.getElem?_eq_some_iff.1 hj).1
    rw [flat_len hk] at hjl
    have hq : j / k < ys.length := Nat.div_lt_of_lt_mul (by rw [Nat.mul_comm]; exact hjl)
    have hm : j % k < k := Nat.mod_lt _ hsz
    have ha : (⟨b, oo, none⟩ : Addr).add j = ⟨b, oo + j, none⟩ := by unfold Addr.add; split <;> simp_all
    have hj2 : j = j / k * k + j % k := by rw [Nat.mul_comm]; exact (Nat.div_add_mod j k).symm
    have hg := flat_get hk ys (j / k) _ (List.getElem?_eq_getElem hq) (j % k) hm
    rw [← hj2, hj] at hg
    have hadd : (⟨b, oo, none⟩ : Addr).add j = ⟨b, oo + j / k * k + j % k, none⟩ := by
     rw [ha, Nat.add_assoc, ← hj2]
    rw [hadd]
    exact hcell (j / k) _ (List.getElem?_eq_getElem hq) (j % k) u hg.symm
  refine wpList_append_own w hgd s x t ho base e i z k bytes ht hi hz hsize hby hzs hsz v n xs hs hown ad ys.length cap (ys.flatMap enc) hx (flat_len hk ys) hcells (fun u hu => by
   obtain ⟨y, _, hu⟩ := List.mem_flatMap.1 hu
   exact h1 y u hu) (by simp only [maxLen]; omega) hn hbase ?_
  intro v' w' hown' hgrow _
  exact h v' w' hown' hgrow ((Below.refl base w).grown hgrow hbase (fun k hk => (hown.lt k hk).1))
/-- The block g holds the elements xs, k cells each, from its beginning on. -/
def BlkK (k : Nat) (enc : α → List Value) (t : TypeId) (w : World) (g : Nat) (xs : List α) : Prop :=
 ∃ cur, w.heap[g]? = some (.cells cur t (0, 0)) ∧ xs.length * k ≤ cur.size ∧ ∀ (j : Nat) x, xs[j]? = some x → ∀ (i : Nat) u, (enc x)[i]? = some u → cur[j * k + i]? = some u
theorem BlkK.cell {k : Nat} {enc : α → List Value} {t : TypeId} {w : World} {g : Nat} {xs : List α} (h : BlkK k enc t w g xs) (j : Nat) (x : α) (hj : xs[j]? = some x) (i : Nat) (u : Value) (hu : (enc x)[i]? = some u) : w.cell? ⟨g, j * k + i, none⟩ = some u := by
 obtain ⟨cur, hg, _, hc⟩ := h
 rw [cell_of_row _ _ _ _ _ _ hg]
 exact hc j x hj i u hu
theorem BlkK.frozen {k : Nat} {enc : α → List Value} {t : TypeId} {w : World} {g : Nat} {xs : List α} (h : BlkK k enc t w g xs) (o : Nat) : w.frozen? ⟨g, o, none⟩ = false := by
 obtain ⟨cur, hg, _⟩ := h
 simp [World.frozen?, hg]
theorem BlkK.lt {k : Nat} {enc : α → List Value} {t : TypeId} {w : World} {g : Nat} {xs : List α} (h : BlkK k enc t w g xs) : g < w.heap.size := by
 obtain ⟨cur, hg, _⟩ := h
 exact (Array.getElem?_eq_some_iff.1 hg).1
theorem BlkK.same {k : Nat} {enc : α → List Value} {t : TypeId} {w w' : World} {g : Nat} {xs : List α} (h : BlkK k enc t w g xs) (hb : w'.heap[g]? = w.heap[g]?) : BlkK k enc t w' g xs := by
 obtain ⟨cur, hg, h⟩ := h
 exact ⟨cur, hb.trans hg, h⟩
theorem BlkK.row {k : Nat} {enc : α → List Value} {t : TypeId} {w : World} {g : Nat} {xs : List α} (h : BlkK k enc t w g xs) (cap : Nat) (hc : xs.length ≤ cap) : RowK k enc w (.slice (some ⟨g, 0, none⟩) xs.length cap) xs :=
 ⟨_, cap, rfl, ⟨hc, fun h => by cases h⟩, .inr ⟨g, 0, rfl, h.lt, fun j x hj i u hu => by rw [Nat.zero_add]; exact h.cell j x hj i u hu⟩⟩
/-- One element written, cell by cell. -/
theorem BlkK.setCells {k : Nat} {enc : α → List Value} (hk : ∀ x, (enc x).length = k) {t : TypeId} {w : World} {g : Nat} {xs : List α} (h : BlkK k enc t w g xs) (j : Nat) (hj : j < xs.length) (y : α) : BlkK k enc t (w.setCells g (j * k) (enc y)) g (xs.set j y) := by
 have key : ∀ (vs : List Value) (o : Nat) (w : World) (cur : Array Value), w.heap[g]? = some (.cells cur t (0, 0)) → o + vs.length ≤ cur.size →
   ∃ cur', (w.setCells g o vs).heap[g]? = some (.cells cur' t (0, 0)) ∧ cur'.size = cur.size ∧ ∀ m, cur'[m]? = if o ≤ m ∧ m < o + vs.length then vs[m - o]? else cur[m]? := by
  intro vs
  induction vs with
  | nil => intro o w cur hg _; exact ⟨cur, hg, rfl, fun m => by rw [if_neg (by simp)]⟩
  | cons v vs ih =>
   intro o w cur hg hl
   rw [List.length_cons] at hl
   have hg2 : (w.setCell ⟨g, o, none⟩ v).heap[g]? = some (.cells (cur.setIfInBounds o v) t (0, 0)) := by
    simp only [World.setCell, Array.getElem?_modify]
    simp [hg]
   obtain ⟨cur', h1, h2, h3⟩ := ih (o + 1) _ _ hg2 (by rw [Array.size_setIfInBounds]; omega)
   refine ⟨cur', h1, by rw [h2, Array.size_setIfInBounds], fun m => ?_⟩
   rw [h3 m, List.length_cons]
   by_cases hm : m = o
   ·subst hm
    rw [if_neg (by omega), if_pos (by omega), Nat.sub_self, Array.getElem?_setIfInBounds, if_pos rfl, if_pos (by omega)]
    simp
   ·by_cases hr : o + 1 ≤ m ∧ m < o + 1 + vs.length
    ·rw [if_pos hr, if_pos (by omega), show m - o = m - (o + 1) + 1 by omega, List.getElem?_cons_succ]
    ·rw [if_neg hr, if_neg (by omega), Array.getElem?_setIfInBounds, if_neg (fun e => hm e.symm)]
 obtain ⟨cur, hg, hl, hc⟩ := h
 have hjk : j * k + k ≤ xs.length * k := by rw [← Nat.succ_mul]; exact Nat.mul_le_mul_right k hj
 obtain ⟨cur', h1, h2, h3⟩ := key (enc y) (j * k) w cur hg (by rw [hk]; omega)
 refine ⟨cur', h1, by rw [List.length_set, h2]; exact hl, fun m x hm i u hu => ?_⟩
 have hi : i < k := by have := (List.getElem?_eq_some_iff.1 hu).1; rwa [hk] at this
 rw [h3, hk]
 by_cases e : m = j
 ·subst e
  rw [if_pos (by omega), show m * k + i - m * k = i by omega]
  rw [List.getElem?_set_self hj] at hm
  cases hm
  exact hu
 ·have hne : ¬ (j * k ≤ m * k + i ∧ m * k + i < j * k + k) := by
   rcases Nat.lt_or_gt_of_ne e with h | h
   ·have : (m + 1) * k ≤ j * k := Nat.mul_le_mul_right k h
    rw [Nat.add_mul] at this
    omega
   ·have : (j + 1) * k ≤ m * k := Nat.mul_le_mul_right k h
    rw [Nat.add_mul] at this
    omega
  rw [if_neg hne]
  rw [List.getElem?_set_ne (fun h => e h.symm)] at hm
  exact hc m x hm i u hu
/-- One cell of one element written. -/
theorem BlkK.setCell {k : Nat} {enc : α → List Value} (hk : ∀ x, (enc x).length = k) {t : TypeId} {w : World} {g : Nat} {xs : List α} (h : BlkK k enc t w g xs) (j : Nat) (x : α) (hj : xs[j]? = some x) (c : Nat) (hck : c < k) (u : Value) (y : α) (hy : ∀ i, (enc y)[i]? = if i = c then some u else (enc x)[i]?) : BlkK k enc t (w.setCell ⟨g, j * k + c, none⟩ u) g (xs.set j y) := by
 obtain ⟨cur, hg, hl, hc⟩ := h
 have hjl := (List.getElem?_eq_some_iff.1 hj).1
 have hjk : j * k + k ≤ xs.length * k := by rw [← Nat.succ_mul]; exact Nat.mul_le_mul_right k hjl
 have hg2 : (w.setCell ⟨g, j * k + c, none⟩ u).heap[g]? = some (.cells (cur.setIfInBounds (j * k + c) u) t (0, 0)) := by
  simp only [World.setCell, Array.getElem?_modify]
  simp [hg]
 refine ⟨_, hg2, by rw [List.length_set, Array.size_setIfInBounds]; exact hl, fun m z hm i v hv => ?_⟩
 have hi : i < k := by have := (List.getElem?_eq_some_iff.1 hv).1; rwa [hk] at this
 rw [Array.getElem?_setIfInBounds]
 by_cases e : m = j
 ·subst e
  rw [List.getElem?_set_self hjl] at hm
  cases hm
  rw [hy i] at hv
  by_cases ec : i = c
  ·subst ec
   rw [if_pos rfl] at hv
   rw [if_pos rfl, if_pos (by omega)]
   exact hv
  ·rw [if_neg ec] at hv
   rw [if_neg (by omega)]
   exact hc m x hj i v hv
 ·rw [List.getElem?_set_ne (fun h => e h.symm)] at hm
  have hne : ¬ (j * k + c = m * k + i) := by
   rcases Nat.lt_or_gt_of_ne e with h | h
   ·have : (m + 1) * k ≤ j * k := Nat.mul_le_mul_right k h
    rw [Nat.add_mul] at this
    omega
   ·have : (j + 1) * k ≤ m * k := Nat.mul_le_mul_right k h
    rw [Nat.add_mul] at this
    omega
  rw [if_neg hne]
  exact hc m z hm i v hv
end Cg
end
section
namespace Cg
open Go Go.RowKit Go.Sort Go.Lib
/-- What a cell of no slice holds. -/
inductive Lk where
 | int
 | u64
 | bool
 | str
deriving DecidableEq
/-- What a cell holds. -/
inductive K where
 | lit (k : Lk)
 | sl (e : List K) (bytes : Nat)
/-- What is read. -/
inductive D where
 | lit (v : Value)
 | sl (xs : List (List D))
instance : Inhabited D := ⟨.sl []⟩
def isLit : Lk → Value → Prop
 | .int, v => ∃ n, v = .int .i64 n
 | .u64, v => ∃ n, v = .int .u64 n
 | .bool, v => ∃ b, v = .bool b
 | .str, v => ∃ s, v = .string s
mutual
/-- One cell's value reads as a tree; F: in which blocks slices may lie; L: how many bytes a slice may have. -/
inductive RdC (F : Nat → Prop) (L : Nat) (w : World) : K → Value → D → Prop
 | lit {k : Lk} {v : Value} : isLit k v → RdC F L w (.lit k) v (.lit v)
 | slNil {e : List K} {by_ : Nat} {ao : Option Addr} {cap : Nat} : (ao = none → cap = 0) → RdC F L w (.sl e by_) (.slice ao 0 cap) (.sl [])
 | slSome {e : List K} {by_ b o cap n : Nat} {xs : List (List D)} : n = xs.length → n ≤ cap → n * by_ ≤ L → F b → b < w.heap.size → RdE F L w e b o xs → RdC F L w (.sl e by_) (.slice (some ⟨b, o, none⟩) n cap) (.sl xs)
/-- The values of many cells. -/
inductive RdL (F : Nat → Prop) (L : Nat) (w : World) : List K → List Value → List D → Prop
 | nil : RdL F L w [] [] []
 | cons {k : K} {v : Value} {d : D} {ks : List K} {vs : List Value} {ds : List D} : RdC F L w k v d → RdL F L w ks vs ds → RdL F L w (k :: ks) (v :: vs) (d :: ds)
/-- The elements that lie in block b from offset o on. -/
inductive RdE (F : Nat → Prop) (L : Nat) (w : World) : List K → Nat → Nat → List (List D) → Prop
 | nil {e : List K} {b o : Nat} : RdE F L w e b o []
 | cons {e : List K} {b o : Nat} {vs : List Value} {ds : List D} {xs : List (List D)} : (∀ (i : Nat) u, vs[i]? = some u → w.cell? ⟨b, o + i, none⟩ = some u) → RdL F L w e vs ds → RdE F L w e b (o + e.length) xs → RdE F L w e b o (ds :: xs)
end
/-- Reading anew where the blocks read are as they were. -/
theorem RdC.frame {F G : Nat → Prop} {L M : Nat} {w w' : World} (hLM : L ≤ M) (hs : w.heap.size ≤ w'.heap.size) (hb : ∀ b, F b → b < w.heap.size → w'.heap[b]? = w.heap[b]?) (hFG : ∀ b, F b → b < w.heap.size → G b) {k : K} {v : Value} {d : D} (h : RdC F L w k v d) : RdC G M w' k v d := by
 refine RdC.rec (motive_1 := fun k v d _ => RdC G M w' k v d) (motive_2 := fun ks vs ds _ => RdL G M w' ks vs ds) (motive_3 := fun e b o xs _ => F b → b < w.heap.size → RdE G M w' e b o xs) ?_ ?_ ?_ ?_ ?_ ?_ ?_ h
 ·exact fun hl => .lit hl
 ·exact fun hc => .slNil hc
 ·exact fun h1 h2 h5 h3 h4 _ ih => .slSome h1 h2 (Nat.le_trans h5 hLM) (hFG _ h3 h4) (Nat.lt_of_lt_of_le h4 hs) (ih h3 h4)
 ·exact .nil
 ·exact fun _ _ ih1 ih2 => .cons ih1 ih2
 ·exact fun _ _ => .nil
 ·exact fun hc _ _ ih1 ih2 hF hlt => .cons (fun i u hu => (World.cell?_of_block (a := ⟨_, _, none⟩) (hb _ hF hlt)).trans (hc i u hu)) ih1 (ih2 hF hlt)
theorem RdL.frame {F G : Nat → Prop} {L M : Nat} {w w' : World} (hLM : L ≤ M) (hs : w.heap.size ≤ w'.heap.size) (hb : ∀ b, F b → b < w.heap.size → w'.heap[b]? = w.heap[b]?) (hFG : ∀ b, F b → b < w.heap.size → G b) : ∀ {ks : List K} {vs : List Value} {ds : List D}, RdL F L w ks vs ds → RdL G M w' ks vs ds
 | _, _, _, .nil => .nil
 | _, _, _, .cons h1 h2 => .cons (h1.frame hLM hs hb hFG) (RdL.frame hLM hs hb hFG h2)
theorem RdE.frame {F G : Nat → Prop} {L M : Nat} {w w' : World} (hLM : L ≤ M) (hs : w.heap.size ≤ w'.heap.size) (hb : ∀ b, F b → b < w.heap.size → w'.heap[b]? = w.heap[b]?) (hFG : ∀ b, F b → b < w.heap.size → G b) {e : List K} {b : Nat} (hF : F b) (hlt : b < w.heap.size) : ∀ {xs : List (List D)} {o : Nat}, RdE F L w e b o xs → RdE G M w' e b o xs
 | _, _, .nil => .nil
 | _, _, .cons hc h1 h2 => .cons (fun i u hu => (World.cell?_of_block (a := ⟨_, _, none⟩) (hb _ hF hlt)).trans (hc i u hu)) (h1.frame hLM hs hb hFG) (RdE.frame hLM hs hb hFG hF hlt h2)
theorem RdL.old {F : Nat → Prop} {L : Nat} {w w' : World} {ks : List K} {vs : List Value} {ds : List D} (h : RdL F L w ks vs ds) (hb : Below w.heap.size w w') : RdL F L w' ks vs ds := h.frame (Nat.le_refl _) hb.size (fun b _ hlt => hb.block b hlt) (fun _ h _ => h)
theorem RdC.old {F : Nat → Prop} {L : Nat} {w w' : World} {k : K} {v : Value} {d : D} (h : RdC F L w k v d) (hb : Below w.heap.size w w') : RdC F L w' k v d := h.frame (Nat.le_refl _) hb.size (fun b _ hlt => hb.block b hlt) (fun _ h _ => h)
theorem RdL.imp {F G : Nat → Prop} {L : Nat} {w : World} {ks : List K} {vs : List Value} {ds : List D} (h : RdL F L w ks vs ds) (hFG : ∀ b, F b → b < w.heap.size → G b) : RdL G L w ks vs ds := h.frame (Nat.le_refl _) (Nat.le_refl _) (fun _ _ _ => rfl) hFG
theorem RdC.imp {F G : Nat → Prop} {L : Nat} {w : World} {k : K} {v : Value} {d : D} (h : RdC F L w k v d) (hFG : ∀ b, F b → b < w.heap.size → G b) : RdC G L w k v d := h.frame (Nat.le_refl _) (Nat.le_refl _) (fun _ _ _ => rfl) hFG
theorem RdL.len {F : Nat → Prop} {L : Nat} {w : World} : ∀ {ks : List K} {vs : List Value} {ds : List D}, RdL F L w ks vs ds → vs.length = ks.length ∧ ds.length = ks.length
 | _, _, _, .nil => ⟨rfl, rfl⟩
 | _, _, _, .cons _ h => by have := RdL.len h; simp [this.1, this.2]
theorem RdL.get {F : Nat → Prop} {L : Nat} {w : World} : ∀ {ks : List K} {vs : List Value} {ds : List D}, RdL F L w ks vs ds → ∀ (i : Nat) k, ks[i]? = some k → ∃ v d, vs[i]? = some v ∧ ds[i]? = some d ∧ RdC F L w k v d
 | _, _, _, .cons h _, 0, k, hk => by
  obtain rfl := Option.some.inj hk
  exact ⟨_, _, rfl, rfl, h⟩
 | _, _, _, .cons _ h, i + 1, k, hk => RdL.get h i k hk
theorem RdL.set {F : Nat → Prop} {L : Nat} {w : World} : ∀ {ks : List K} {vs : List Value} {ds : List D}, RdL F L w ks vs ds → ∀ (i : Nat) k v d, ks[i]? = some k → RdC F L w k v d → RdL F L w ks (vs.set i v) (ds.set i d)
 | _, _, _, .cons _ h2, 0, k, v, d, hk, hc => by
  obtain rfl := Option.some.inj hk
  exact .cons hc h2
 | _, _, _, .cons h1 h2, i + 1, k, v, d, hk, hc => .cons h1 (RdL.set h2 i k v d hk hc)
theorem RdE.get {F : Nat → Prop} {L : Nat} {w : World} {e : List K} {b : Nat} : ∀ {xs : List (List D)} {o : Nat}, RdE F L w e b o xs → ∀ (j : Nat) ds, xs[j]? = some ds → ∃ vs, (∀ (i : Nat) u, vs[i]? = some u → w.cell? ⟨b, o + j * e.length + i, none⟩ = some u) ∧ RdL F L w e vs ds
 | _, _, .cons hc h1 _, 0, ds, hd => by
  obtain rfl := Option.some.inj hd
  exact ⟨_, fun i u hu => by rw [Nat.zero_mul, Nat.add_zero]; exact hc i u hu, h1⟩
 | _, o, .cons _ _ h2, j + 1, ds, hd => by
  obtain ⟨vs, h3, h4⟩ := RdE.get h2 j ds hd
  refine ⟨vs, fun i u hu => ?_, h4⟩
  have := h3 i u hu
  rwa [show o + e.length + j * e.length + i = o + (j + 1) * e.length + i by rw [Nat.add_mul]; omega] at this
theorem RdE.mk {F : Nat → Prop} {L : Nat} {w : World} {e : List K} {b : Nat} : ∀ (xs : List (List D)) (o : Nat), (∀ (j : Nat) ds, xs[j]? = some ds → ∃ vs, (∀ (i : Nat) u, vs[i]? = some u → w.cell? ⟨b, o + j * e.length + i, none⟩ = some u) ∧ RdL F L w e vs ds) → RdE F L w e b o xs
 | [], _, _ => .nil
 | ds :: xs, o, h => by
  obtain ⟨vs, h1, h2⟩ := h 0 ds rfl
  refine .cons (fun i u hu => by have := h1 i u hu; rwa [Nat.zero_mul, Nat.add_zero] at this) h2 (RdE.mk xs (o + e.length) fun j ds' hj => ?_)
  obtain ⟨vs', h3, h4⟩ := h (j + 1) ds' hj
  refine ⟨vs', fun i u hu => ?_, h4⟩
  have := h3 i u hu
  rwa [show o + (j + 1) * e.length + i = o + e.length + j * e.length + i by rw [Nat.add_mul]; omega] at this
theorem RdL.append {F : Nat → Prop} {L : Nat} {w : World} : ∀ {ks : List K} {vs : List Value} {ds : List D} {ks' : List K} {vs' : List Value} {ds' : List D}, RdL F L w ks vs ds → RdL F L w ks' vs' ds' → RdL F L w (ks ++ ks') (vs ++ vs') (ds ++ ds')
 | _, _, _, _, _, _, .nil, h => h
 | _, _, _, _, _, _, .cons h1 h2, h => .cons h1 (RdL.append h2 h)
theorem RdL.take {F : Nat → Prop} {L : Nat} {w : World} : ∀ {ks : List K} {vs : List Value} {ds : List D}, RdL F L w ks vs ds → ∀ n, RdL F L w (ks.take n) (vs.take n) (ds.take n)
 | _, _, _, .nil, n => by simpa using RdL.nil
 | _, _, _, .cons h1 h2, 0 => .nil
 | _, _, _, .cons h1 h2, n + 1 => .cons h1 (RdL.take h2 n)
theorem RdL.drop {F : Nat → Prop} {L : Nat} {w : World} : ∀ {ks : List K} {vs : List Value} {ds : List D}, RdL F L w ks vs ds → ∀ n, RdL F L w (ks.drop n) (vs.drop n) (ds.drop n)
 | _, _, _, .nil, n => by simpa using RdL.nil
 | _, _, _, .cons h1 h2, 0 => .cons h1 h2
 | _, _, _, .cons _ h2, n + 1 => RdL.drop h2 n
/-- The number that a list of cells reads as at i. -/
def dint (ds : List D) (i : Nat) : Int := match ds[i]? with
 | some (.lit (.int _ n)) => n
 | _ => 0
def dbool (ds : List D) (i : Nat) : Bool := match ds[i]? with
 | some (.lit (.bool b)) => b
 | _ => false
def dxs (ds : List D) (i : Nat) : List (List D) := match ds[i]? with
 | some (.sl xs) => xs
 | _ => []
theorem RdL.int {F : Nat → Prop} {L : Nat} {w : World} {ks : List K} {vs : List Value} {ds : List D} (h : RdL F L w ks vs ds) (i : Nat) (hk : ks[i]? = some (.lit .int)) : vs[i]? = some (.int .i64 (dint ds i)) ∧ ds[i]? = some (.lit (.int .i64 (dint ds i))) := by
 obtain ⟨v, d, hv, hd, hc⟩ := h.get i _ hk
 cases hc with
 | lit hl =>
  obtain ⟨n, rfl⟩ := hl
  have e : dint ds i = n := by unfold dint; rw [hd]
  rw [e]
  exact ⟨hv, hd⟩
theorem RdL.bool {F : Nat → Prop} {L : Nat} {w : World} {ks : List K} {vs : List Value} {ds : List D} (h : RdL F L w ks vs ds) (i : Nat) (hk : ks[i]? = some (.lit .bool)) : vs[i]? = some (.bool (dbool ds i)) ∧ ds[i]? = some (.lit (.bool (dbool ds i))) := by
 obtain ⟨v, d, hv, hd, hc⟩ := h.get i _ hk
 cases hc with
 | lit hl =>
  obtain ⟨n, rfl⟩ := hl
  have e : dbool ds i = n := by unfold dbool; rw [hd]
  rw [e]
  exact ⟨hv, hd⟩
theorem RdL.sl {F : Nat → Prop} {L : Nat} {w : World} {ks : List K} {vs : List Value} {ds : List D} (h : RdL F L w ks vs ds) (i : Nat) (e : List K) (by_ : Nat) (hk : ks[i]? = some (.sl e by_)) : ∃ v, vs[i]? = some v ∧ ds[i]? = some (.sl (dxs ds i)) ∧ RdC F L w (.sl e by_) v (.sl (dxs ds i)) := by
 obtain ⟨v, d, hv, hd, hc⟩ := h.get i _ hk
 cases hc with
 | slNil hn =>
  have e : dxs ds i = [] := by unfold dxs; rw [hd]
  rw [e]
  exact ⟨_, hv, hd, .slNil hn⟩
 | slSome h1 h2 h6 h3 h4 h5 =>
  rename_i xs
  have e : dxs ds i = xs := by unfold dxs; rw [hd]
  rw [e]
  exact ⟨_, hv, hd, .slSome h1 h2 h6 h3 h4 h5⟩
/-- A slice as it stands in a slot. -/
theorem RdC.form {F : Nat → Prop} {L : Nat} {w : World} {e : List K} {by_ : Nat} {v : Value} {xs : List (List D)} (h : RdC F L w (.sl e by_) v (.sl xs)) : ∃ ao cap, v = .slice ao xs.length cap ∧ xs.length ≤ cap ∧ xs.length * by_ ≤ L ∧ (ao = none → cap = 0) ∧ (xs = [] ∨ ∃ b o, ao = some ⟨b, o, none⟩ ∧ F b ∧ b < w.heap.size ∧ RdE F L w e b o xs) := by
 cases h with
 | slNil hn => exact ⟨_, _, rfl, Nat.zero_le _, by simp, hn, .inl rfl⟩
 | slSome h1 h2 h6 h3 h4 h5 =>
  subst h1
  exact ⟨_, _, rfl, h2, h6, (fun h => by cases h), .inr ⟨_, _, rfl, h3, h4, h5⟩⟩
/-- The first index that fits, else -1. -/
def fidx {α : Type} (p : α → Bool) (xs : List α) : Int := match xs.findIdx? p with
 | some i => i
 | none => -1
theorem fidx_hit {α : Type} (p : α → Bool) (xs : List α) (k : Nat) (hk : k < xs.length) (hp : p xs[k] = true) (h : ∀ j (hj : j < xs.length), j < k → p xs[j] = false) : fidx p xs = k := by
 unfold fidx
 rw [List.findIdx?_eq_some_iff_getElem.2 ⟨hk, hp, fun j hj => by rw [h j (by omega) hj]; simp⟩]
theorem fidx_miss {α : Type} (p : α → Bool) (xs : List α) (h : ∀ j (hj : j < xs.length), p xs[j] = false) : fidx p xs = -1 := by
 unfold fidx
 rw [List.findIdx?_eq_none_iff.2 fun x hx => by
  obtain ⟨j, hj, rfl⟩ := List.getElem_of_mem hx
  rw [h j hj]]
/-- Shapes without slices. -/
def flatK (ks : List K) : Prop := ∀ k ∈ ks, ∃ l, k = .lit l
theorem RdL.flat {F : Nat → Prop} {L : Nat} {w : World} : ∀ {ks : List K} {vs : List Value} {ds : List D}, RdL F L w ks vs ds → flatK ks → ds = vs.map .lit
 | _, _, _, .nil, _ => rfl
 | _, _, _, .cons h1 h2, hf => by
  obtain ⟨l, hl⟩ := hf _ List.mem_cons_self
  subst hl
  cases h1 with
  | lit _ => rw [List.map_cons, ← RdL.flat h2 (fun k hk => hf k (List.mem_cons_of_mem _ hk))]
theorem RdL.any {F G : Nat → Prop} {L M : Nat} {w w' : World} : ∀ {ks : List K} {vs : List Value} {ds : List D}, RdL F L w ks vs ds → flatK ks → RdL G M w' ks vs ds
 | _, _, _, .nil, _ => .nil
 | _, _, _, .cons h1 h2, hf => by
  obtain ⟨l, hl⟩ := hf _ List.mem_cons_self
  subst hl
  cases h1 with
  | lit hv => exact .cons (.lit hv) (RdL.any h2 (fun k hk => hf k (List.mem_cons_of_mem _ hk)))
end Cg
end
section
namespace Cg
open Go Go.RowKit Go.Sort Go.Lib Go.ChangeShapes Go.WideShapes Go.Deep
/-- The shapes of a struct's fields, one behind the other from offset o on. -/
def fieldsShape (f : TypeId → Option (List K)) (P : Program) : Nat → List Field → Option (List K)
 | _, [] => some []
 | o, x :: xs => match f x.type with
  | none => none
  | some ks => if x.offset = o ∧ P.cellsOf x.type = ks.length then (fieldsShape f P (o + ks.length) xs).map (ks ++ ·) else none
def shapeOf (P : Program) : Nat → TypeId → Option (List K)
 | 0, _ => none
 | n + 1, t => match P.underlying t with
  | some .bool => some [.lit .bool]
  | some .string => some [.lit .str]
  | some (.int .i64) => some [.lit .int]
  | some (.int .u64) => some [.lit .u64]
  | some (.slice e) => match shapeOf P n e with
   | none => none
   | some ks => if P.cellsOf e = ks.length ∧ 0 < ks.length then some [.sl ks (P.bytesOf e)] else none
  | some (.array m e) => match shapeOf P n e with
   | none => none
   | some ks => if P.cellsOf e = ks.length ∧ P.cellsOf t = m * ks.length then some (List.replicate m ks).flatten else none
  | some (.struct fs) => match fieldsShape (shapeOf P n) P 0 fs.toList with
   | none => none
   | some ks => if P.cellsOf t = ks.length then some ks else none
  | _ => none
variable {H : Type} {enc : TypeId × Value → H} {P : Program} {w : World} {base : Nat} {spare : Nat → Bool} {held : Bool}
abbrev Rd (w : World) := RdL (fun _ => True) reachBytes w
def wok (P : Program) (t : TypeId) (d : DataW H) : Prop := (DataW.weights P t d).all (· ≤ reachBytes) = true
theorem wok_all {e : TypeId} : ∀ {l : List (DataW H)}, (DataW.weightsAll P e l).all (· ≤ reachBytes) = true → ∀ d ∈ l, wok P e d
 | [], _, _, hd => by cases hd
 | x :: l, h, d, hd => by
  rw [DataW.weightsAll, List.all_append, Bool.and_eq_true] at h
  rcases List.mem_cons.1 hd with rfl | hd
  ·exact h.1
  ·exact wok_all h.2 d hd
theorem wok_each : ∀ {ts : List TypeId} {l : List (DataW H)}, (DataW.weightsEach P ts l).all (· ≤ reachBytes) = true → ∀ (i : Nat) t d, ts[i]? = some t → l[i]? = some d → wok P t d
 | [], _, _, _, _, _, ht, _ => by simp at ht
 | _ :: _, [], _, _, _, _, _, hd => by simp at hd
 | t0 :: ts, x :: l, h, 0, t, d, ht, hd => by
  rw [DataW.weightsEach, List.all_append, Bool.and_eq_true] at h
  obtain rfl := Option.some.inj ht
  obtain rfl := Option.some.inj hd
  exact h.1
 | t0 :: ts, x :: l, h, i + 1, t, d, ht, hd => by
  rw [DataW.weightsEach, List.all_append, Bool.and_eq_true] at h
  exact wok_each h.2 i t d ht hd
theorem rd_fields {f : TypeId → Option (List K)} {m : Nat} (cs : List Value) (hf : ∀ t ks us (y : DataW H × List MemPlace), f t = some ks → DataW.trod enc P w base spare held m t us = some y → wok P t y.1 → ∃ ds, Rd w ks us ds) :
  ∀ (fs : List Field) (o : Nat) (ks : List K), fieldsShape f P o fs = some ks → (∀ x ∈ fs, ∃ y, DataW.trod enc P w base spare held m x.type ((cs.drop x.offset).take (P.cellsOf x.type)) = some y ∧ wok P x.type y.1) → ∃ ds, Rd w ks ((cs.drop o).take ks.length) ds
 | [], o, ks, h, _ => by
  obtain rfl := Option.some.inj h
  exact ⟨[], by rw [List.length_nil, List.take_zero]; exact .nil⟩
 | x :: xs, o, ks, h, hx => by
  rw [fieldsShape] at h
  cases e : f x.type with
  | none => rw [e] at h; cases h
  | some k1 =>
   rw [e] at h
   simp only at h
   by_cases hc : x.offset = o ∧ P.cellsOf x.type = k1.length
   ·rw [if_pos hc] at h
    cases e2 : fieldsShape f P (o + k1.length) xs with
    | none => rw [e2] at h; cases h
    | some k2 =>
     rw [e2] at h
     obtain rfl := Option.some.inj h
     obtain ⟨y, hy, hwy⟩ := hx x List.mem_cons_self
     rw [hc.1, hc.2] at hy
     obtain ⟨d1, h1⟩ := hf _ _ _ _ e hy hwy
     obtain ⟨d2, h2⟩ := rd_fields cs hf xs _ k2 e2 (fun z hz => hx z (List.mem_cons_of_mem _ hz))
     refine ⟨d1 ++ d2, ?_⟩
     rw [List.length_append, List.take_add, List.drop_drop]
     exact h1.append h2
   ·rw [if_neg hc] at h; cases h
theorem rd_rep {m k : Nat} {e : TypeId} {ks : List K} (cs : List Value) (hk : ks.length = k) (hf : ∀ us (y : DataW H × List MemPlace), DataW.trod enc P w base spare held m e us = some y → wok P e y.1 → ∃ ds, Rd w ks us ds) :
  ∀ (n i : Nat), (∀ j, i ≤ j → j < i + n → ∃ y, DataW.trod enc P w base spare held m e ((cs.drop (j * k)).take k) = some y ∧ wok P e y.1) → ∃ ds, Rd w (List.replicate n ks).flatten ((cs.drop (i * k)).take (n * k)) ds
 | 0, i, _ => ⟨[], by rw [Nat.zero_mul, List.take_zero]; exact .nil⟩
 | n + 1, i, h => by
  obtain ⟨y, hy, hwy⟩ := h i (Nat.le_refl _) (by omega)
  obtain ⟨d1, h1⟩ := hf _ _ hy hwy
  obtain ⟨d2, h2⟩ := rd_rep cs hk hf n (i + 1) (fun j h1 h2 => h j (by omega) (by omega))
  refine ⟨d1 ++ d2, ?_⟩
  rw [List.replicate_succ, List.flatten_cons, Nat.add_mul, Nat.one_mul, Nat.add_comm (n * k) k, List.take_add, List.drop_drop]
  rw [Nat.add_mul, Nat.one_mul] at h2
  exact h1.append h2
theorem rd_of : ∀ (n : Nat) (t : TypeId) (ks : List K), shapeOf P n t = some ks → ∀ (fuel : Nat) (cs : List Value) (x : DataW H × List MemPlace), DataW.trod enc P w base spare held fuel t cs = some x → wok P t x.1 → ∃ ds, Rd w ks cs ds
 | 0, _, _, h, _, _, _, _, _ => by cases h
 | n + 1, t, ks, h, fuel, cs, x, ht, hw => by
  rw [shapeOf] at h
  split at h
  ·rename_i hu
   obtain rfl := Option.some.inj h
   obtain ⟨b, rfl, _⟩ := DataW.trod_bool hu ht
   exact ⟨_, .cons (.lit ⟨b, rfl⟩) .nil⟩
  ·rename_i hu
   obtain rfl := Option.some.inj h
   obtain ⟨s, rfl, _⟩ := DataW.trod_string hu ht
   exact ⟨_, .cons (.lit ⟨s, rfl⟩) .nil⟩
  ·rename_i hu
   obtain rfl := Option.some.inj h
   obtain ⟨z, rfl, _⟩ := DataW.trod_int hu ht
   exact ⟨_, .cons (.lit ⟨z, rfl⟩) .nil⟩
  ·rename_i hu
   obtain rfl := Option.some.inj h
   obtain ⟨z, rfl, _⟩ := DataW.trod_int hu ht
   exact ⟨_, .cons (.lit ⟨z, rfl⟩) .nil⟩
  ·rename_i e hu
   cases he : shapeOf P n e with
   | none => rw [he] at h; cases h
   | some k1 =>
    rw [he] at h
    simp only at h
    by_cases hc : P.cellsOf e = k1.length ∧ 0 < k1.length
    ·rw [if_pos hc] at h
     obtain rfl := Option.some.inj h
     rcases open_slice hu ht with ⟨rfl, _⟩ | ⟨a, len, cap, m, q, Da, Pl, rfl, _, hlc, _, hm, rfl, hi⟩
     ·exact ⟨[.sl []], .cons (.slNil (fun _ => rfl)) .nil⟩
     ·have hlm : len ≤ m := by rw [hm]; split <;> omega
      rw [hc.1] at hi
      unfold wok at hw
      rw [DataW.weights, hu] at hw
      simp only [List.all_cons, List.all_append, Bool.and_eq_true, decide_eq_true_eq, List.length_map, List.length_range] at hw
      have hby : len * P.bytesOf e ≤ reachBytes := Nat.le_trans (Nat.mul_le_mul_right _ (by omega)) hw.1
      have hr : ∀ i, i < len → ∃ p : List Value × List D, (∀ j, j < k1.length → w.cell? ((a.add (i * k1.length)).add j) = p.1[j]?) ∧ p.1.length = k1.length ∧ Rd w k1 p.1 p.2 := fun i hil => by
       obtain ⟨cs', h1, h2⟩ := hi i (by omega)
       obtain ⟨ds, hd⟩ := rd_of n e k1 he _ _ _ h2 (wok_all hw.2.1 _ (List.mem_map.2 ⟨i, List.mem_range.2 hil, rfl⟩))
       obtain ⟨_, hl, hcell⟩ := World.cells?_some h1
       exact ⟨(cs', ds), hcell, hl, hd⟩
      obtain ⟨f, hf⟩ := choose_lt hr
      by_cases h0 : len = 0
      ·subst h0
       exact ⟨[.sl []], .cons (.slNil (fun e => by cases e)) .nil⟩
      ·have hcell0 : ∃ u, w.cell? a = some u := by
        obtain ⟨h1, h2, _⟩ := hf 0 (by omega)
        have := h1 0 hc.2
        rw [show (a.add (0 * k1.length)).add 0 = a by simp [Addr.add], List.getElem?_eq_getElem (by omega)] at this
        exact ⟨_, this⟩
       obtain ⟨u0, hu0⟩ := hcell0
       obtain ⟨b, o, sp⟩ := a
       have hsp : sp = none := by simpa using World.cell?_spot hu0
       subst hsp
       refine ⟨[.sl ((List.range len).map fun i => (f i).2)], .cons (.slSome (by simp) hlc hby trivial (block_lt_of_cell hu0) (RdE.mk _ _ fun j ds hj => ?_)) .nil⟩
       have hjl : j < len := by
        have := (List.getElem?_eq_some_iff.1 hj).1
        simpa using this
       rw [List.getElem?_map, List.getElem?_range hjl] at hj
       obtain rfl : (f j).2 = ds := by simpa using hj
       obtain ⟨h1, h2, h3⟩ := hf j hjl
       refine ⟨(f j).1, fun i u hu => ?_, h3⟩
       have hik : i < k1.length := by
        have := (List.getElem?_eq_some_iff.1 hu).1
        omega
       have := h1 i hik
       rw [Addr.add_lit, Addr.add_lit] at this
       rw [this, hu]
    ·rw [if_neg hc] at h; cases h
  ·rename_i m e hu
   cases he : shapeOf P n e with
   | none => rw [he] at h; cases h
   | some k1 =>
    rw [he] at h
    simp only at h
    by_cases hc : P.cellsOf e = k1.length ∧ P.cellsOf t = m * k1.length
    ·rw [if_pos hc] at h
     obtain rfl := Option.some.inj h
     obtain ⟨xs, q, _, rfl, hl, hxl, hi⟩ := DataW.trod_array hu ht
     rw [hc.1] at hi
     unfold wok at hw
     rw [DataW.weights, hu] at hw
     simp only at hw
     obtain ⟨ds, hd⟩ := rd_rep (P := P) (enc := enc) (base := base) (spare := spare) (held := held) (m := q) (e := e) cs rfl (fun us y hy hwy => rd_of n e k1 he _ _ _ hy hwy) m 0 (fun j _ hj => ⟨xs[j]'(by omega), by rw [hi j (by omega), List.getElem?_eq_getElem (by omega)], wok_all hw _ (List.mem_map.2 ⟨_, List.getElem_mem _, rfl⟩)⟩)
     refine ⟨ds, ?_⟩
     rw [Nat.zero_mul, List.drop_zero, List.take_of_length_le (by rw [hl, hc.2]; exact Nat.le_refl _)] at hd
     exact hd
    ·rw [if_neg hc] at h; cases h
  ·rename_i fs hu
   cases he : fieldsShape (shapeOf P n) P 0 fs.toList with
   | none => rw [he] at h; cases h
   | some k1 =>
    rw [he] at h
    simp only at h
    by_cases hc : P.cellsOf t = k1.length
    ·rw [if_pos hc] at h
     obtain rfl := Option.some.inj h
     obtain ⟨xs, q, _, rfl, hl, hxl, hi⟩ := DataW.trod_struct hu ht
     unfold wok at hw
     rw [DataW.weights, hu] at hw
     simp only at hw
     obtain ⟨ds, hd⟩ := rd_fields (P := P) (enc := enc) (base := base) (spare := spare) (held := held) (m := q) cs (fun t ks us y h1 h2 h3 => rd_of n t ks h1 _ _ _ h2 h3) fs.toList 0 _ he (fun z hz => by
      obtain ⟨i, hil, rfl⟩ := List.getElem_of_mem hz
      rw [Array.length_toList] at hil
      have hg : fs[i]? = some fs.toList[i] := by rw [Array.getElem?_eq_getElem hil]; rfl
      exact ⟨xs[i]'(by omega), by rw [hi i _ hg, List.getElem?_eq_getElem (by omega)], wok_each hw i _ _ (by rw [List.getElem?_map, List.getElem?_eq_getElem (by rw [Array.length_toList]; exact hil)]; rfl) (by rw [List.getElem?_map, List.getElem?_eq_getElem (by omega)]; rfl)⟩)
     refine ⟨ds, ?_⟩
     rw [List.drop_zero, List.take_of_length_le (by rw [hl, hc]; exact Nat.le_refl _)] at hd
     exact hd
    ·rw [if_neg hc] at h; cases h
  ·cases h
end Cg
end
section
namespace Go.Proofs.Ytiebjkbofoppaaa
open Go Go.RowKit Go.Sort Cg
def kI (n : Nat) : List K := List.replicate n (.lit .int)
def kB : K := .lit .bool
def kFilter : List K := kI 7 ++ [.lit .str] ++ kI 8
def kMod : List K := kI 3 ++ [.lit .str] ++ kFilter
def kSpec : List K := [kB, kB] ++ kFilter
def kRef : List K := kI 2 ++ kFilter
def kAmount : List K := kI 3 ++ kFilter
def kEffect : List K := kI 1 ++ kRef ++ kAmount ++ kI 2 ++ [.lit .str] ++ kFilter ++ kI 6 ++ [.sl kMod 176]
def kPrice : List K := kI 7 ++ [kB, kB] ++ kI 1
def kAbility : List K := kI 1 ++ kFilter ++ [.sl kMod 176] ++ kPrice ++ [kB] ++ (kI 2 ++ kFilter) ++ [kB] ++ [.sl kSpec 144] ++ [.sl kEffect 560] ++ (kI 2 ++ kFilter ++ kI 4)
def kTarget : List K := kI 2
def kEvent : List K := kI 10 ++ [kB, kB] ++ kI 3
def kItem : List K := kI 5 ++ [kB] ++ kAbility ++ [.sl kTarget 16] ++ kEvent
def kWaiting : List K := kI 2 ++ kAbility ++ kEvent
def kInts : K := .sl (kI 1) 8
def kCont : List K := kI 4 ++ [kInts] ++ [.sl kMod 176]
def kPlayer : List K := kI 9 ++ [kB, kB] ++ [kInts, kInts, kInts]
def kObject : List K := kI 5 ++ [kB, kB, kB, kB] ++ kI 7 ++ [kB] ++ kI 2
def kState : List K := [.sl kPlayer 152, .sl kObject 128, kInts, kInts, .sl kItem 824, .sl kWaiting 768, .sl kCont 80] ++ kI 3 ++ [kB] ++ kI 4 ++ [.lit .u64] ++ [kInts] ++ kI 2
theorem shState : shapeOf Try.prog 12 30 = some kState := by kernel_rfl
theorem shObject : shapeOf Try.prog 12 47 = some kObject := by kernel_rfl
theorem shAbility : shapeOf Try.prog 12 78 = some kAbility := by kernel_rfl
theorem shItem : shapeOf Try.prog 12 83 = some kItem := by kernel_rfl
theorem shPlayer : shapeOf Try.prog 12 59 = some kPlayer := by kernel_rfl
theorem kObject_len : kObject.length = 19 := by decide
theorem kState_len : kState.length = 19 := by decide
theorem kPlayer_len : kPlayer.length = 14 := by decide
theorem kItem_len : kItem.length = 94 := by decide
theorem kAbility_len : kAbility.length = 72 := by decide
end Go.Proofs.Ytiebjkbofoppaaa
end
section
namespace Go.Proofs.Ytiebjkbofoppaaa
open Go Go.RowKit Go.Sort Cg
theorem box_cs (w : World) (cs : List Value) (t : TypeId) : Below w.heap.size w (w.alloc (.cells cs.toArray t)) ∧ ∀ (i : Nat) u, cs[i]? = some u → (w.alloc (.cells cs.toArray t)).cell? ⟨w.heap.size, i, none⟩ = some u :=
 ⟨(Below.refl w.heap.size w).alloc (Nat.le_refl _) _, fun i u hu => by
  rw [cell_of_row _ _ i _ _ _ (heap_alloc_new w _), List.getElem?_toArray]
  exact hu⟩
set_option maxHeartbeats 1000000 in
theorem place1 (cs : List Value) (z id : Int) (bi : Nat) (w : World) (h0 : cs[0]? = some (.int .i64 z)) (hi : w.cell? ⟨bi, 0, none⟩ = some (.int .i64 id)) :
  Calls Try.prog 74 #[.agg cs.toArray, .pointer (some ⟨bi, 0, none⟩)] w fun e w' => e = .returned (.bool (z == id)) ∧ Below w.heap.size w w' := by
 obtain ⟨bx, hc⟩ := box_cs w cs 47
 have c0 := hc 0 _ h0
 have ci := (bx.cell (p := ⟨bi, 0, none⟩) (block_lt_of_cell hi)).trans hi
 have BX := Lib.hid bx
 clear hc bx hi h0
 go_enter Try.func74, Try.ntmps74
 go_wp2_with fail
 go_ret
 exact ⟨rfl, BX.out⟩
/-- A struct in memory, loaded whole. -/
theorem load_cs (w : World) (b o : Nat) (t : TypeId) (vs : List Value) (d : TypeDesc) (hu : Try.prog.underlying t = some d) (hd : d.isRow = true) (hi : (Try.prog.info? t).map (·.size) = some vs.length) (hc : ∀ (i : Nat) u, vs[i]? = some u → w.cell? ⟨b, o + i, none⟩ = some u) :
  (Instr.loadAt t (.pointer (some ⟨b, o, none⟩))).run Try.prog w = .ok (.agg vs.toArray) w := run_loadAt_mid w b o t vs d hc hu hd hi
theorem infoObject : (Try.prog.info? 47).map (·.size) = some 19 := by kernel_rfl
def obId (o : List D) : Int := dint o 0
set_option maxHeartbeats 4000000 in
theorem idx_objects (F : Nat → Prop) (L : Nat) (v : Value) (xs : List (List D)) (id : Int) (bi : Nat) (w : World) (h : RdC F L w (.sl kObject 128) v (.sl xs)) (hn : xs.length ≤ 1000000) (hi : w.cell? ⟨bi, 0, none⟩ = some (.int .i64 id)) :
  Calls Try.prog 66 #[v, .func (.func 74) #[] #[.pointer (some ⟨bi, 0, none⟩)]] w fun e w' => e = .returned (.int .i64 (fidx (fun o => obId o == id) xs)) ∧ Below w.heap.size w w' := by
 have eg : ∀ args w, (callFunc 74 args).run Try.prog w = .ok (.enter 74 args) w := enters_of Try.func74 (by kernel_rfl) rfl
 obtain ⟨ao, cap, rfl, _, _, _, hx⟩ := h.form
 have HX := Lib.hid hx
 have HI := Lib.hid hi
 clear hx hi h
 go_enter Try.func66, Try.ntmps66
 go_wp2_with fail
 go_loopw [8] (fun i wr => ∃ k : Nat, k ≤ xs.length ∧ i = .int .i64 k ∧ Hid (∀ j (h : j < xs.length), j < k → (obId xs[j] == id) = false) ∧ Below w.heap.size w wr) (fun i _ => xs.length - (intOf i).toNat)
 case atStart => exact ⟨0, by omega, rfl, Lib.hid fun j hj _ => by omega, Below.refl _ _⟩
 case round =>
  obtain ⟨k, hk, rfl, HK, bw⟩ := hrel
  have BW := Lib.hid bw
  clear bw
  by_cases hlt : k < xs.length
  ·rcases HX.out with hh | ⟨b, o, rfl, hF, hb, hE⟩
   ·rw [hh] at hlt; simp at hlt
   obtain ⟨vs, hvs, hrd⟩ := (hE.frame (Nat.le_refl _) BW.out.size (fun b _ hlt => BW.out.block b hlt) (fun _ h _ => h) hF hb).get k _ (List.getElem?_eq_getElem hlt)
   rw [kObject_len] at hvs
   have hl := hrd.len.1
   rw [kObject_len] at hl
   have HIN := Lib.hid (show (Try.prog.info? 47).map (·.size) = some vs.length by rw [infoObject, hl])
   have HVS := Lib.hid (show wr.rangeAt b (o + k * 19) vs from hvs)
   have ci := (BW.out.cell (p := ⟨bi, 0, none⟩) (block_lt_of_cell HI.out)).trans HI.out
   have HP := Lib.hid (place1 vs (obId xs[k]) id bi wr (hrd.int 0 rfl).1 ci)
   obtain ⟨pb, hpb⟩ : ∃ pb, pb = (obId xs[k] == id) := ⟨_, rfl⟩
   rw [← hpb] at HP
   have HPB := Lib.hid hpb
   clear hE hvs hrd hl ci hpb
   cases pb
   ·go_wp2_with (first | (with_reducible refine wpList_load_mid rfl 47 (.tmp 14) rfl b (o + k * 19) ?_ vs _ HVS.out Try.underlying47 rfl HIN.out ?_; simp [Act.eval]) | (go_at_fn 74; refine HP.out.mono ?_; rintro e w' ⟨rfl, b2⟩))
    go_round
    case rel => exact ⟨k + 1, by omega, by go_num, Lib.hid fun j hj hjk => (by
     by_cases e : j = k
     ·subst e; exact HPB.out.symm
     ·exact HK.out j hj (by omega)), BW.out.trans (b2.mono BW.out.size)⟩
    case measure => simp [intOf]; omega
   ·have HE := Lib.hid (show fidx (fun o => obId o == id) xs = k from fidx_hit _ xs k hlt HPB.out.symm HK.out)
    go_wp2_with (first | (with_reducible refine wpList_load_mid rfl 47 (.tmp 14) rfl b (o + k * 19) ?_ vs _ HVS.out Try.underlying47 rfl HIN.out ?_; simp [Act.eval]) | (go_at_fn 74; refine HP.out.mono ?_; rintro e w' ⟨rfl, b2⟩))
    go_ret
    exact ⟨by rw [HE.out] <;> rfl, BW.out.trans (b2.mono BW.out.size)⟩
  ·obtain rfl : k = xs.length := by omega
   have HE := Lib.hid (show fidx (fun o => obId o == id) xs = -1 from fidx_miss _ xs (fun j hj => HK.out j hj hj))
   go_wp2_with fail
   go_ret
   exact ⟨by rw [HE.out] <;> rfl, BW.out⟩
end Go.Proofs.Ytiebjkbofoppaaa
end
section
namespace Cg
open Go Go.RowKit Go.Sort Go.Lib
/-- An element of k cells. -/
abbrev Cl (k : Nat) := {vs : List Value // vs.length = k ∧ ∀ u ∈ vs, u.oneCell' = true}
theorem Cl.len {k : Nat} (x : Cl k) : x.1.length = k := x.2.1
theorem Cl.one {k : Nat} (x : Cl k) : ∀ u ∈ x.1, u.oneCell' = true := x.2.2
abbrev RowC (k : Nat) (w : World) (v : Value) (es : List (Cl k)) := Cg.RowK k Subtype.val w v es
theorem RdC.one {F : Nat → Prop} {L : Nat} {w : World} {k : K} {v : Value} {d : D} (h : RdC F L w k v d) : v.oneCell' = true := by
 cases h with
 | @lit k v hl =>
  cases k <;> obtain ⟨n, rfl⟩ := hl <;> rfl
 | slNil => rfl
 | slSome => rfl
theorem RdL.one {F : Nat → Prop} {L : Nat} {w : World} : ∀ {ks : List K} {vs : List Value} {ds : List D}, RdL F L w ks vs ds → ∀ u ∈ vs, u.oneCell' = true
 | _, _, _, .nil, _, hu => by cases hu
 | _, _, _, .cons h1 h2, u, hu => by
  rcases List.mem_cons.1 hu with rfl | hu
  ·exact h1.one
  ·exact RdL.one h2 u hu
/-- Elements that read as trees. -/
structure Es {k : Nat} (F : Nat → Prop) (L : Nat) (w : World) (e : List K) (es : List (Cl k)) (xs : List (List D)) : Prop where
 len : es.length = xs.length
 at_ : ∀ (j : Nat) (vs : Cl k) (ds : List D), es[j]? = some vs → xs[j]? = some ds → RdL F L w e vs.1 ds
theorem Es.frame {F G : Nat → Prop} {L M : Nat} {w w' : World} (hLM : L ≤ M) (hs : w.heap.size ≤ w'.heap.size) (hb : ∀ b, F b → b < w.heap.size → w'.heap[b]? = w.heap[b]?) (hFG : ∀ b, F b → b < w.heap.size → G b) {k : Nat} {e : List K} {es : List (Cl k)} {xs : List (List D)} (h : Es F L w e es xs) : Es G M w' e es xs :=
 ⟨h.len, fun j vs ds h1 h2 => (h.at_ j vs ds h1 h2).frame hLM hs hb hFG⟩
theorem Es.old {F : Nat → Prop} {L : Nat} {w w' : World} {k : Nat} {e : List K} {es : List (Cl k)} {xs : List (List D)} (h : Es F L w e es xs) (hb : Below w.heap.size w w') : Es F L w' e es xs := h.frame (Nat.le_refl _) hb.size (fun b _ hlt => hb.block b hlt) (fun _ h _ => h)
theorem Es.get {F : Nat → Prop} {L : Nat} {w : World} {k : Nat} {e : List K} {es : List (Cl k)} {xs : List (List D)} (h : Es F L w e es xs) (j : Nat) (hj : j < es.length) (hx : j < xs.length) : RdL F L w e es[j].1 xs[j] := h.at_ j _ _ (List.getElem?_eq_getElem hj) (List.getElem?_eq_getElem hx)
theorem es_nil (k : Nat) (F : Nat → Prop) (L : Nat) (w : World) (e : List K) : Es (k := k) F L w e [] [] := ⟨rfl, fun j vs ds h => by simp at h⟩
theorem Es.set {F : Nat → Prop} {L : Nat} {w : World} {k : Nat} {e : List K} {es : List (Cl k)} {xs : List (List D)} (h : Es F L w e es xs) (i : Nat) (vs : Cl k) (ds : List D) (hd : RdL F L w e vs.1 ds) : Es F L w e (es.set i vs) (xs.set i ds) := by
 refine ⟨by rw [List.length_set, List.length_set, h.len], fun j vs' ds' h1 h2 => ?_⟩
 rw [List.getElem?_set] at h1 h2
 by_cases e1 : i = j
 ·subst e1
  rw [if_pos rfl] at h1 h2
  split at h1
  ·split at h2
   ·cases h1; cases h2; exact hd
   ·cases h2
  ·cases h1
 ·rw [if_neg e1] at h1 h2
  exact h.at_ j vs' ds' h1 h2
theorem Es.append {F : Nat → Prop} {L : Nat} {w : World} {k : Nat} {e : List K} {es es' : List (Cl k)} {xs xs' : List (List D)} (h : Es F L w e es xs) (h' : Es F L w e es' xs') : Es F L w e (es ++ es') (xs ++ xs') := by
 refine ⟨by rw [List.length_append, List.length_append, h.len, h'.len], fun j vs ds h1 h2 => ?_⟩
 by_cases hj : j < es.length
 ·rw [List.getElem?_append_left hj] at h1
  rw [List.getElem?_append_left (by rw [← h.len]; exact hj)] at h2
  exact h.at_ j vs ds h1 h2
 ·rw [List.getElem?_append_right (by omega)] at h1
  rw [List.getElem?_append_right (by rw [← h.len]; omega), ← h.len] at h2
  exact h'.at_ _ vs ds h1 h2
theorem Es.take {F : Nat → Prop} {L : Nat} {w : World} {k : Nat} {e : List K} {es : List (Cl k)} {xs : List (List D)} (h : Es F L w e es xs) (n : Nat) : Es F L w e (es.take n) (xs.take n) := by
 refine ⟨by rw [List.length_take, List.length_take, h.len], fun j vs ds h1 h2 => ?_⟩
 rw [List.getElem?_take] at h1 h2
 split at h1
 ·rename_i hj
  rw [if_pos hj] at h2
  exact h.at_ j vs ds h1 h2
 ·cases h1
theorem Es.drop {F : Nat → Prop} {L : Nat} {w : World} {k : Nat} {e : List K} {es : List (Cl k)} {xs : List (List D)} (h : Es F L w e es xs) (n : Nat) : Es F L w e (es.drop n) (xs.drop n) := by
 refine ⟨by rw [List.length_drop, List.length_drop, h.len], fun j vs ds h1 h2 => ?_⟩
 rw [List.getElem?_drop] at h1 h2
 exact h.at_ _ vs ds h1 h2
theorem RdE.raw {F : Nat → Prop} {L : Nat} {w : World} {e : List K} {b k : Nat} (hk : e.length = k) : ∀ {xs : List (List D)} {o : Nat}, RdE F L w e b o xs → ∃ es : List (Cl k), Es F L w e es xs ∧ ∀ (j : Nat) (vs : Cl k), es[j]? = some vs → ∀ (i : Nat) u, vs.1[i]? = some u → w.cell? ⟨b, o + j * k + i, none⟩ = some u
 | _, _, .nil => ⟨[], es_nil _ _ _ _ _, fun j vs h => by simp at h⟩
 | _, o, .cons (vs := vs) hc h1 h2 => by
  obtain ⟨es, h3, h4⟩ := RdE.raw hk h2
  have hl := h1.len.1
  rw [hk] at hl h4
  refine ⟨⟨vs, hl, h1.one⟩ :: es, ⟨by rw [List.length_cons, List.length_cons, h3.len], fun j vs' ds' e1 e2 => ?_⟩, fun j vs' e1 i u hu => ?_⟩
  ·rcases j with _ | j
   ·obtain rfl := Option.some.inj e1
    obtain rfl := Option.some.inj e2
    exact h1
   ·exact h3.at_ j vs' ds' e1 e2
  ·rcases j with _ | j
   ·obtain rfl := Option.some.inj e1
    rw [Nat.zero_mul, Nat.add_zero]
    exact hc i u hu
   ·have := h4 j vs' e1 i u hu
    rwa [show o + k + j * k + i = o + (j + 1) * k + i by rw [Nat.add_mul]; omega] at this
/-- A slice that reads as a tree, as a row of elements. -/
theorem RdC.row {F : Nat → Prop} {L : Nat} {w : World} {e : List K} {by_ : Nat} {v : Value} {xs : List (List D)} (h : RdC F L w (.sl e by_) v (.sl xs)) {k : Nat} (hk : e.length = k) : ∃ es : List (Cl k), RowC k w v es ∧ Es F L w e es xs ∧ xs.length * by_ ≤ L := by
 obtain ⟨ao, cap, rfl, hc, hby, hn, hx⟩ := h.form
 rcases hx with rfl | ⟨b, o, rfl, hF, hb, hE⟩
 ·exact ⟨[], ⟨ao, cap, rfl, ⟨Nat.zero_le _, hn⟩, .inl rfl⟩, es_nil _ _ _ _ _, hby⟩
 ·obtain ⟨es, h1, h2⟩ := hE.raw hk
  exact ⟨es, ⟨_, cap, by rw [h1.len], ⟨by rw [h1.len]; exact hc, fun h => by cases h⟩, .inr ⟨b, o, rfl, hb, h2⟩⟩, h1, hby⟩
/-- And back: F must hold of the block. -/
theorem rdC_of {F : Nat → Prop} {L : Nat} {w : World} {e : List K} {by_ k : Nat} (hk : e.length = k) {v : Value} {es : List (Cl k)} {xs : List (List D)} (h : RowC k w v es) (hE : Es F L w e es xs) (hby : xs.length * by_ ≤ L) (hF : ∀ b, v.ownBlock = some b → b < w.heap.size → F b) : RdC F L w (.sl e by_) v (.sl xs) := by
 obtain ⟨ao, cap, rfl, ⟨hc, hn⟩, hx⟩ := h
 rcases hx with rfl | ⟨b, o, rfl, hb, hcell⟩
 ·have : xs = [] := List.eq_nil_of_length_eq_zero (by rw [← hE.len]; rfl)
  subst this
  exact .slNil hn
 ·refine .slSome hE.len hc (by rw [hE.len]; exact hby) (hF b rfl hb) hb (RdE.mk xs o fun j ds hj => ?_)
  have hjl : j < es.length := by rw [hE.len]; exact (List.getElem?_eq_some_iff.1 hj).1
  rw [hk]
  exact ⟨es[j].1, hcell j _ (List.getElem?_eq_getElem hjl), hE.at_ j _ ds (List.getElem?_eq_getElem hjl) hj⟩
end Cg
end
section
namespace Go.Proofs.Ytiebjkbofoppaaa
open Go Go.RowKit Go.Sort Cg
def elemB (P : Program) (e : TypeId) (k b : Nat) : Bool := match P.info? e with
 | some i => i.size == k && i.bytes == b && (match i.zero with
  | some z => z.cells.size == k
  | none => false)
 | none => false
theorem elemIs_of {P : Program} {t e : TypeId} {k b : Nat} (h1 : P.underlying t = some (.slice e)) (h4 : 0 < k) (h : elemB P e k b = true) : ∃ z, ElemIs P t e z k b := by
 unfold elemB at h
 cases hi : P.info? e with
 | none => rw [hi] at h; cases h
 | some i =>
  rw [hi] at h
  simp only [Bool.and_eq_true, beq_iff_eq] at h
  obtain ⟨⟨h2, h3⟩, h5⟩ := h
  cases hz : i.zero with
  | none => rw [hz] at h5; cases h5
  | some z =>
   rw [hz] at h5
   simp only [beq_iff_eq] at h5
   exact ⟨z, h1, h5, h4, i, hi, hz, h2, h3⟩
theorem empty_own (w : World) (base : Nat) (hb : base ≤ w.heap.size) (t : TypeId) (k : Nat) : (w.alloc (.cells #[] t)).ownsRow base t k (.slice (some ⟨w.heap.size, 0, none⟩) 0 0) 0 [] := World.ownsRow_made w #[] 0 hb (by simp) (by simp)
theorem elemint : ∃ z, ElemIs Try.prog 24 3 z 1 8 := elemIs_of Try.underlying24 (by decide) (by kernel_rfl)
set_option maxRecDepth 100000 in
set_option maxHeartbeats 400000 in
theorem cloneint (v : Value) (es : List (Cl 1)) (w : World) (h : RowC 1 w v es) (hb : es.length * 8 ≤ 140737488355328) : Calls Try.prog 54 #[v] w fun e w' => ∃ v', e = .returned v' ∧ w'.ownsRow w.heap.size 3 1 v' es.length (es.flatMap Subtype.val) ∧ Below w.heap.size w w' := by
 obtain ⟨z, hE⟩ := elemint
 have HR := Lib.hid (h.below ((Below.refl w.heap.size w).alloc (Nat.le_refl _) (.cells #[] 3)))
 obtain ⟨ao, cap, rfl, ⟨hc, hn⟩, _⟩ := h
 have HE := Lib.hid hE
 have HO := Lib.hid (empty_own w w.heap.size (Nat.le_refl _) 3 1)
 have HA := Lib.hid ((Below.refl w.heap.size w).alloc (Nat.le_refl _) (.cells #[] 3))
 have q0 : ∀ (w : World) (a : Option Addr) (n c n' c' : Nat), (binOp .eql 24 (.slice a n c) (.slice none n' c')).run Try.prog w = .ok (.bool a.isNone) w := fun w a n c n' c' => Lib.run_eql_slice_nil w _ _ a n c n' c' Try.underlying24
 clear hE
 cases ao with
 | none =>
  have hc0 := hn rfl
  subst hc0
  have he : es = [] := List.eq_nil_of_length_eq_zero (by omega)
  subst he
  clear HR hn
  go_enter Try.func54, Try.ntmps54
  go_wp2_with fail
  go_ret
  exact ⟨_, rfl, World.ownsRow_nil _ _ _ _, Below.refl _ _⟩
 | some ad =>
  clear hn
  go_enter Try.func54, Try.ntmps54
  go_wp2_with (at_builtin; refine wpList_append_rowK rfl (.tmp 5) (.tmp 6) 24 rfl w.heap.size HE.out _ 0 [] rfl HO.out Subtype.val Cl.len Cl.one es _ rfl HR.out (by omega) (by omega) HA.out.size ?_; intro v1 w1 own1 _ bel1; have O1 := Lib.hid own1; have B1 := Lib.hid bel1; clear own1 bel1)
  go_ret
  have := O1.out
  rw [Nat.zero_add, List.nil_append] at this
  exact ⟨_, rfl, this, HA.out.trans B1.out⟩
theorem elemObject : ∃ z, ElemIs Try.prog 23 47 z 19 128 := elemIs_of Try.underlying23 (by decide) (by kernel_rfl)
set_option maxRecDepth 100000 in
set_option maxHeartbeats 400000 in
theorem cloneObject (v : Value) (es : List (Cl 19)) (w : World) (h : RowC 19 w v es) (hb : es.length * 128 ≤ 140737488355328) : Calls Try.prog 53 #[v] w fun e w' => ∃ v', e = .returned v' ∧ w'.ownsRow w.heap.size 47 19 v' es.length (es.flatMap Subtype.val) ∧ Below w.heap.size w w' := by
 obtain ⟨z, hE⟩ := elemObject
 have HR := Lib.hid (h.below ((Below.refl w.heap.size w).alloc (Nat.le_refl _) (.cells #[] 47)))
 obtain ⟨ao, cap, rfl, ⟨hc, hn⟩, _⟩ := h
 have HE := Lib.hid hE
 have HO := Lib.hid (empty_own w w.heap.size (Nat.le_refl _) 47 19)
 have HA := Lib.hid ((Below.refl w.heap.size w).alloc (Nat.le_refl _) (.cells #[] 47))
 have q0 : ∀ (w : World) (a : Option Addr) (n c n' c' : Nat), (binOp .eql 23 (.slice a n c) (.slice none n' c')).run Try.prog w = .ok (.bool a.isNone) w := fun w a n c n' c' => Lib.run_eql_slice_nil w _ _ a n c n' c' Try.underlying23
 clear hE
 cases ao with
 | none =>
  have hc0 := hn rfl
  subst hc0
  have he : es = [] := List.eq_nil_of_length_eq_zero (by omega)
  subst he
  clear HR hn
  go_enter Try.func53, Try.ntmps53
  go_wp2_with fail
  go_ret
  exact ⟨_, rfl, World.ownsRow_nil _ _ _ _, Below.refl _ _⟩
 | some ad =>
  clear hn
  go_enter Try.func53, Try.ntmps53
  go_wp2_with (at_builtin; refine wpList_append_rowK rfl (.tmp 5) (.tmp 6) 23 rfl w.heap.size HE.out _ 0 [] rfl HO.out Subtype.val Cl.len Cl.one es _ rfl HR.out (by omega) (by omega) HA.out.size ?_; intro v1 w1 own1 _ bel1; have O1 := Lib.hid own1; have B1 := Lib.hid bel1; clear own1 bel1)
  go_ret
  have := O1.out
  rw [Nat.zero_add, List.nil_append] at this
  exact ⟨_, rfl, this, HA.out.trans B1.out⟩
theorem elemPlayer : ∃ z, ElemIs Try.prog 22 59 z 14 152 := elemIs_of Try.underlying22 (by decide) (by kernel_rfl)
set_option maxRecDepth 100000 in
set_option maxHeartbeats 400000 in
theorem clonePlayer (v : Value) (es : List (Cl 14)) (w : World) (h : RowC 14 w v es) (hb : es.length * 152 ≤ 140737488355328) : Calls Try.prog 51 #[v] w fun e w' => ∃ v', e = .returned v' ∧ w'.ownsRow w.heap.size 59 14 v' es.length (es.flatMap Subtype.val) ∧ Below w.heap.size w w' := by
 obtain ⟨z, hE⟩ := elemPlayer
 have HR := Lib.hid (h.below ((Below.refl w.heap.size w).alloc (Nat.le_refl _) (.cells #[] 59)))
 obtain ⟨ao, cap, rfl, ⟨hc, hn⟩, _⟩ := h
 have HE := Lib.hid hE
 have HO := Lib.hid (empty_own w w.heap.size (Nat.le_refl _) 59 14)
 have HA := Lib.hid ((Below.refl w.heap.size w).alloc (Nat.le_refl _) (.cells #[] 59))
 have q0 : ∀ (w : World) (a : Option Addr) (n c n' c' : Nat), (binOp .eql 22 (.slice a n c) (.slice none n' c')).run Try.prog w = .ok (.bool a.isNone) w := fun w a n c n' c' => Lib.run_eql_slice_nil w _ _ a n c n' c' Try.underlying22
 clear hE
 cases ao with
 | none =>
  have hc0 := hn rfl
  subst hc0
  have he : es = [] := List.eq_nil_of_length_eq_zero (by omega)
  subst he
  clear HR hn
  go_enter Try.func51, Try.ntmps51
  go_wp2_with fail
  go_ret
  exact ⟨_, rfl, World.ownsRow_nil _ _ _ _, Below.refl _ _⟩
 | some ad =>
  clear hn
  go_enter Try.func51, Try.ntmps51
  go_wp2_with (at_builtin; refine wpList_append_rowK rfl (.tmp 5) (.tmp 6) 22 rfl w.heap.size HE.out _ 0 [] rfl HO.out Subtype.val Cl.len Cl.one es _ rfl HR.out (by omega) (by omega) HA.out.size ?_; intro v1 w1 own1 _ bel1; have O1 := Lib.hid own1; have B1 := Lib.hid bel1; clear own1 bel1)
  go_ret
  have := O1.out
  rw [Nat.zero_add, List.nil_append] at this
  exact ⟨_, rfl, this, HA.out.trans B1.out⟩
theorem elemItem : ∃ z, ElemIs Try.prog 25 83 z 94 824 := elemIs_of Try.underlying25 (by decide) (by kernel_rfl)
set_option maxRecDepth 100000 in
set_option maxHeartbeats 400000 in
theorem cloneItem (v : Value) (es : List (Cl 94)) (w : World) (h : RowC 94 w v es) (hb : es.length * 824 ≤ 140737488355328) : Calls Try.prog 55 #[v] w fun e w' => ∃ v', e = .returned v' ∧ w'.ownsRow w.heap.size 83 94 v' es.length (es.flatMap Subtype.val) ∧ Below w.heap.size w w' := by
 obtain ⟨z, hE⟩ := elemItem
 have HR := Lib.hid (h.below ((Below.refl w.heap.size w).alloc (Nat.le_refl _) (.cells #[] 83)))
 obtain ⟨ao, cap, rfl, ⟨hc, hn⟩, _⟩ := h
 have HE := Lib.hid hE
 have HO := Lib.hid (empty_own w w.heap.size (Nat.le_refl _) 83 94)
 have HA := Lib.hid ((Below.refl w.heap.size w).alloc (Nat.le_refl _) (.cells #[] 83))
 have q0 : ∀ (w : World) (a : Option Addr) (n c n' c' : Nat), (binOp .eql 25 (.slice a n c) (.slice none n' c')).run Try.prog w = .ok (.bool a.isNone) w := fun w a n c n' c' => Lib.run_eql_slice_nil w _ _ a n c n' c' Try.underlying25
 clear hE
 cases ao with
 | none =>
  have hc0 := hn rfl
  subst hc0
  have he : es = [] := List.eq_nil_of_length_eq_zero (by omega)
  subst he
  clear HR hn
  go_enter Try.func55, Try.ntmps55
  go_wp2_with fail
  go_ret
  exact ⟨_, rfl, World.ownsRow_nil _ _ _ _, Below.refl _ _⟩
 | some ad =>
  clear hn
  go_enter Try.func55, Try.ntmps55
  go_wp2_with (at_builtin; refine wpList_append_rowK rfl (.tmp 5) (.tmp 6) 25 rfl w.heap.size HE.out _ 0 [] rfl HO.out Subtype.val Cl.len Cl.one es _ rfl HR.out (by omega) (by omega) HA.out.size ?_; intro v1 w1 own1 _ bel1; have O1 := Lib.hid own1; have B1 := Lib.hid bel1; clear own1 bel1)
  go_ret
  have := O1.out
  rw [Nat.zero_add, List.nil_append] at this
  exact ⟨_, rfl, this, HA.out.trans B1.out⟩
theorem elemTarget : ∃ z, ElemIs Try.prog 79 108 z 2 16 := elemIs_of Try.underlying79 (by decide) (by kernel_rfl)
set_option maxRecDepth 100000 in
set_option maxHeartbeats 400000 in
theorem cloneTarget (v : Value) (es : List (Cl 2)) (w : World) (h : RowC 2 w v es) (hb : es.length * 16 ≤ 140737488355328) : Calls Try.prog 57 #[v] w fun e w' => ∃ v', e = .returned v' ∧ w'.ownsRow w.heap.size 108 2 v' es.length (es.flatMap Subtype.val) ∧ Below w.heap.size w w' := by
 obtain ⟨z, hE⟩ := elemTarget
 have HR := Lib.hid (h.below ((Below.refl w.heap.size w).alloc (Nat.le_refl _) (.cells #[] 108)))
 obtain ⟨ao, cap, rfl, ⟨hc, hn⟩, _⟩ := h
 have HE := Lib.hid hE
 have HO := Lib.hid (empty_own w w.heap.size (Nat.le_refl _) 108 2)
 have HA := Lib.hid ((Below.refl w.heap.size w).alloc (Nat.le_refl _) (.cells #[] 108))
 have q0 : ∀ (w : World) (a : Option Addr) (n c n' c' : Nat), (binOp .eql 79 (.slice a n c) (.slice none n' c')).run Try.prog w = .ok (.bool a.isNone) w := fun w a n c n' c' => Lib.run_eql_slice_nil w _ _ a n c n' c' Try.underlying79
 clear hE
 cases ao with
 | none =>
  have hc0 := hn rfl
  subst hc0
  have he : es = [] := List.eq_nil_of_length_eq_zero (by omega)
  subst he
  clear HR hn
  go_enter Try.func57, Try.ntmps57
  go_wp2_with fail
  go_ret
  exact ⟨_, rfl, World.ownsRow_nil _ _ _ _, Below.refl _ _⟩
 | some ad =>
  clear hn
  go_enter Try.func57, Try.ntmps57
  go_wp2_with (at_builtin; refine wpList_append_rowK rfl (.tmp 5) (.tmp 6) 79 rfl w.heap.size HE.out _ 0 [] rfl HO.out Subtype.val Cl.len Cl.one es _ rfl HR.out (by omega) (by omega) HA.out.size ?_; intro v1 w1 own1 _ bel1; have O1 := Lib.hid own1; have B1 := Lib.hid bel1; clear own1 bel1)
  go_ret
  have := O1.out
  rw [Nat.zero_add, List.nil_append] at this
  exact ⟨_, rfl, this, HA.out.trans B1.out⟩
theorem elemWaiting : ∃ z, ElemIs Try.prog 26 92 z 89 768 := elemIs_of Try.underlying26 (by decide) (by kernel_rfl)
set_option maxRecDepth 100000 in
set_option maxHeartbeats 400000 in
theorem cloneWaiting (v : Value) (es : List (Cl 89)) (w : World) (h : RowC 89 w v es) (hb : es.length * 768 ≤ 140737488355328) : Calls Try.prog 58 #[v] w fun e w' => ∃ v', e = .returned v' ∧ w'.ownsRow w.heap.size 92 89 v' es.length (es.flatMap Subtype.val) ∧ Below w.heap.size w w' := by
 obtain ⟨z, hE⟩ := elemWaiting
 have HR := Lib.hid (h.below ((Below.refl w.heap.size w).alloc (Nat.le_refl _) (.cells #[] 92)))
 obtain ⟨ao, cap, rfl, ⟨hc, hn⟩, _⟩ := h
 have HE := Lib.hid hE
 have HO := Lib.hid (empty_own w w.heap.size (Nat.le_refl _) 92 89)
 have HA := Lib.hid ((Below.refl w.heap.size w).alloc (Nat.le_refl _) (.cells #[] 92))
 have q0 : ∀ (w : World) (a : Option Addr) (n c n' c' : Nat), (binOp .eql 26 (.slice a n c) (.slice none n' c')).run Try.prog w = .ok (.bool a.isNone) w := fun w a n c n' c' => Lib.run_eql_slice_nil w _ _ a n c n' c' Try.underlying26
 clear hE
 cases ao with
 | none =>
  have hc0 := hn rfl
  subst hc0
  have he : es = [] := List.eq_nil_of_length_eq_zero (by omega)
  subst he
  clear HR hn
  go_enter Try.func58, Try.ntmps58
  go_wp2_with fail
  go_ret
  exact ⟨_, rfl, World.ownsRow_nil _ _ _ _, Below.refl _ _⟩
 | some ad =>
  clear hn
  go_enter Try.func58, Try.ntmps58
  go_wp2_with (at_builtin; refine wpList_append_rowK rfl (.tmp 5) (.tmp 6) 26 rfl w.heap.size HE.out _ 0 [] rfl HO.out Subtype.val Cl.len Cl.one es _ rfl HR.out (by omega) (by omega) HA.out.size ?_; intro v1 w1 own1 _ bel1; have O1 := Lib.hid own1; have B1 := Lib.hid bel1; clear own1 bel1)
  go_ret
  have := O1.out
  rw [Nat.zero_add, List.nil_append] at this
  exact ⟨_, rfl, this, HA.out.trans B1.out⟩
theorem elemCont : ∃ z, ElemIs Try.prog 27 94 z 6 80 := elemIs_of Try.underlying27 (by decide) (by kernel_rfl)
set_option maxRecDepth 100000 in
set_option maxHeartbeats 400000 in
theorem cloneCont (v : Value) (es : List (Cl 6)) (w : World) (h : RowC 6 w v es) (hb : es.length * 80 ≤ 140737488355328) : Calls Try.prog 59 #[v] w fun e w' => ∃ v', e = .returned v' ∧ w'.ownsRow w.heap.size 94 6 v' es.length (es.flatMap Subtype.val) ∧ Below w.heap.size w w' := by
 obtain ⟨z, hE⟩ := elemCont
 have HR := Lib.hid (h.below ((Below.refl w.heap.size w).alloc (Nat.le_refl _) (.cells #[] 94)))
 obtain ⟨ao, cap, rfl, ⟨hc, hn⟩, _⟩ := h
 have HE := Lib.hid hE
 have HO := Lib.hid (empty_own w w.heap.size (Nat.le_refl _) 94 6)
 have HA := Lib.hid ((Below.refl w.heap.size w).alloc (Nat.le_refl _) (.cells #[] 94))
 have q0 : ∀ (w : World) (a : Option Addr) (n c n' c' : Nat), (binOp .eql 27 (.slice a n c) (.slice none n' c')).run Try.prog w = .ok (.bool a.isNone) w := fun w a n c n' c' => Lib.run_eql_slice_nil w _ _ a n c n' c' Try.underlying27
 clear hE
 cases ao with
 | none =>
  have hc0 := hn rfl
  subst hc0
  have he : es = [] := List.eq_nil_of_length_eq_zero (by omega)
  subst he
  clear HR hn
  go_enter Try.func59, Try.ntmps59
  go_wp2_with fail
  go_ret
  exact ⟨_, rfl, World.ownsRow_nil _ _ _ _, Below.refl _ _⟩
 | some ad =>
  clear hn
  go_enter Try.func59, Try.ntmps59
  go_wp2_with (at_builtin; refine wpList_append_rowK rfl (.tmp 5) (.tmp 6) 27 rfl w.heap.size HE.out _ 0 [] rfl HO.out Subtype.val Cl.len Cl.one es _ rfl HR.out (by omega) (by omega) HA.out.size ?_; intro v1 w1 own1 _ bel1; have O1 := Lib.hid own1; have B1 := Lib.hid bel1; clear own1 bel1)
  go_ret
  have := O1.out
  rw [Nat.zero_add, List.nil_append] at this
  exact ⟨_, rfl, this, HA.out.trans B1.out⟩
theorem elemMod : ∃ z, ElemIs Try.prog 65 113 z 20 176 := elemIs_of Try.underlying65 (by decide) (by kernel_rfl)
set_option maxRecDepth 100000 in
set_option maxHeartbeats 400000 in
theorem cloneMod (v : Value) (es : List (Cl 20)) (w : World) (h : RowC 20 w v es) (hb : es.length * 176 ≤ 140737488355328) : Calls Try.prog 60 #[v] w fun e w' => ∃ v', e = .returned v' ∧ w'.ownsRow w.heap.size 113 20 v' es.length (es.flatMap Subtype.val) ∧ Below w.heap.size w w' := by
 obtain ⟨z, hE⟩ := elemMod
 have HR := Lib.hid (h.below ((Below.refl w.heap.size w).alloc (Nat.le_refl _) (.cells #[] 113)))
 obtain ⟨ao, cap, rfl, ⟨hc, hn⟩, _⟩ := h
 have HE := Lib.hid hE
 have HO := Lib.hid (empty_own w w.heap.size (Nat.le_refl _) 113 20)
 have HA := Lib.hid ((Below.refl w.heap.size w).alloc (Nat.le_refl _) (.cells #[] 113))
 have q0 : ∀ (w : World) (a : Option Addr) (n c n' c' : Nat), (binOp .eql 65 (.slice a n c) (.slice none n' c')).run Try.prog w = .ok (.bool a.isNone) w := fun w a n c n' c' => Lib.run_eql_slice_nil w _ _ a n c n' c' Try.underlying65
 clear hE
 cases ao with
 | none =>
  have hc0 := hn rfl
  subst hc0
  have he : es = [] := List.eq_nil_of_length_eq_zero (by omega)
  subst he
  clear HR hn
  go_enter Try.func60, Try.ntmps60
  go_wp2_with fail
  go_ret
  exact ⟨_, rfl, World.ownsRow_nil _ _ _ _, Below.refl _ _⟩
 | some ad =>
  clear hn
  go_enter Try.func60, Try.ntmps60
  go_wp2_with (at_builtin; refine wpList_append_rowK rfl (.tmp 5) (.tmp 6) 65 rfl w.heap.size HE.out _ 0 [] rfl HO.out Subtype.val Cl.len Cl.one es _ rfl HR.out (by omega) (by omega) HA.out.size ?_; intro v1 w1 own1 _ bel1; have O1 := Lib.hid own1; have B1 := Lib.hid bel1; clear own1 bel1)
  go_ret
  have := O1.out
  rw [Nat.zero_add, List.nil_append] at this
  exact ⟨_, rfl, this, HA.out.trans B1.out⟩
theorem elemSpec : ∃ z, ElemIs Try.prog 73 133 z 18 144 := elemIs_of Try.underlying73 (by decide) (by kernel_rfl)
set_option maxRecDepth 100000 in
set_option maxHeartbeats 400000 in
theorem cloneSpec (v : Value) (es : List (Cl 18)) (w : World) (h : RowC 18 w v es) (hb : es.length * 144 ≤ 140737488355328) : Calls Try.prog 75 #[v] w fun e w' => ∃ v', e = .returned v' ∧ w'.ownsRow w.heap.size 133 18 v' es.length (es.flatMap Subtype.val) ∧ Below w.heap.size w w' := by
 obtain ⟨z, hE⟩ := elemSpec
 have HR := Lib.hid (h.below ((Below.refl w.heap.size w).alloc (Nat.le_refl _) (.cells #[] 133)))
 obtain ⟨ao, cap, rfl, ⟨hc, hn⟩, _⟩ := h
 have HE := Lib.hid hE
 have HO := Lib.hid (empty_own w w.heap.size (Nat.le_refl _) 133 18)
 have HA := Lib.hid ((Below.refl w.heap.size w).alloc (Nat.le_refl _) (.cells #[] 133))
 have q0 : ∀ (w : World) (a : Option Addr) (n c n' c' : Nat), (binOp .eql 73 (.slice a n c) (.slice none n' c')).run Try.prog w = .ok (.bool a.isNone) w := fun w a n c n' c' => Lib.run_eql_slice_nil w _ _ a n c n' c' Try.underlying73
 clear hE
 cases ao with
 | none =>
  have hc0 := hn rfl
  subst hc0
  have he : es = [] := List.eq_nil_of_length_eq_zero (by omega)
  subst he
  clear HR hn
  go_enter Try.func75, Try.ntmps75
  go_wp2_with fail
  go_ret
  exact ⟨_, rfl, World.ownsRow_nil _ _ _ _, Below.refl _ _⟩
 | some ad =>
  clear hn
  go_enter Try.func75, Try.ntmps75
  go_wp2_with (at_builtin; refine wpList_append_rowK rfl (.tmp 5) (.tmp 6) 73 rfl w.heap.size HE.out _ 0 [] rfl HO.out Subtype.val Cl.len Cl.one es _ rfl HR.out (by omega) (by omega) HA.out.size ?_; intro v1 w1 own1 _ bel1; have O1 := Lib.hid own1; have B1 := Lib.hid bel1; clear own1 bel1)
  go_ret
  have := O1.out
  rw [Nat.zero_add, List.nil_append] at this
  exact ⟨_, rfl, this, HA.out.trans B1.out⟩
theorem elemEffect : ∃ z, ElemIs Try.prog 74 121 z 64 560 := elemIs_of Try.underlying74 (by decide) (by kernel_rfl)
set_option maxRecDepth 100000 in
set_option maxHeartbeats 400000 in
theorem cloneEffect (v : Value) (es : List (Cl 64)) (w : World) (h : RowC 64 w v es) (hb : es.length * 560 ≤ 140737488355328) : Calls Try.prog 76 #[v] w fun e w' => ∃ v', e = .returned v' ∧ w'.ownsRow w.heap.size 121 64 v' es.length (es.flatMap Subtype.val) ∧ Below w.heap.size w w' := by
 obtain ⟨z, hE⟩ := elemEffect
 have HR := Lib.hid (h.below ((Below.refl w.heap.size w).alloc (Nat.le_refl _) (.cells #[] 121)))
 obtain ⟨ao, cap, rfl, ⟨hc, hn⟩, _⟩ := h
 have HE := Lib.hid hE
 have HO := Lib.hid (empty_own w w.heap.size (Nat.le_refl _) 121 64)
 have HA := Lib.hid ((Below.refl w.heap.size w).alloc (Nat.le_refl _) (.cells #[] 121))
 have q0 : ∀ (w : World) (a : Option Addr) (n c n' c' : Nat), (binOp .eql 74 (.slice a n c) (.slice none n' c')).run Try.prog w = .ok (.bool a.isNone) w := fun w a n c n' c' => Lib.run_eql_slice_nil w _ _ a n c n' c' Try.underlying74
 clear hE
 cases ao with
 | none =>
  have hc0 := hn rfl
  subst hc0
  have he : es = [] := List.eq_nil_of_length_eq_zero (by omega)
  subst he
  clear HR hn
  go_enter Try.func76, Try.ntmps76
  go_wp2_with fail
  go_ret
  exact ⟨_, rfl, World.ownsRow_nil _ _ _ _, Below.refl _ _⟩
 | some ad =>
  clear hn
  go_enter Try.func76, Try.ntmps76
  go_wp2_with (at_builtin; refine wpList_append_rowK rfl (.tmp 5) (.tmp 6) 74 rfl w.heap.size HE.out _ 0 [] rfl HO.out Subtype.val Cl.len Cl.one es _ rfl HR.out (by omega) (by omega) HA.out.size ?_; intro v1 w1 own1 _ bel1; have O1 := Lib.hid own1; have B1 := Lib.hid bel1; clear own1 bel1)
  go_ret
  have := O1.out
  rw [Nat.zero_add, List.nil_append] at this
  exact ⟨_, rfl, this, HA.out.trans B1.out⟩
end Go.Proofs.Ytiebjkbofoppaaa
end
section
namespace Go.Proofs.Ytiebjkbofoppaaa
open Go Go.RowKit Go.Sort Cg
/-- Block b holds the cells cs. -/
def Bx (w : World) (b : Nat) (t : TypeId) (cs : List Value) : Prop := w.heap[b]? = some (.cells cs.toArray t (0, 0))
theorem Bx.new (w : World) (cs : List Value) (t : TypeId) : Bx (w.alloc (.cells cs.toArray t)) w.heap.size t cs := heap_alloc_new w _
theorem Bx.lt {w : World} {b : Nat} {t : TypeId} {cs : List Value} (h : Bx w b t cs) : b < w.heap.size := (Array.getElem?_eq_some_iff.1 h).1
theorem Bx.old {w w' : World} {b : Nat} {t : TypeId} {cs : List Value} (h : Bx w b t cs) (hb : Below w.heap.size w w') : Bx w' b t cs := (hb.block b h.lt).trans h
theorem Bx.same {w w' : World} {b : Nat} {t : TypeId} {cs : List Value} (h : Bx w b t cs) (hb : w'.heap[b]? = w.heap[b]?) : Bx w' b t cs := hb.trans h
theorem Bx.cell {w : World} {b : Nat} {t : TypeId} {cs : List Value} (h : Bx w b t cs) (i : Nat) (u : Value) (hu : cs[i]? = some u) : w.cell? ⟨b, i, none⟩ = some u := by
 rw [cell_of_row _ _ i _ _ _ h, List.getElem?_toArray]
 exact hu
theorem Bx.frozen {w : World} {b : Nat} {t : TypeId} {cs : List Value} (h : Bx w b t cs) (i : Nat) : w.frozen? ⟨b, i, none⟩ = false := by
 unfold Bx at h
 simp [World.frozen?, h]
theorem Bx.range {w : World} {b : Nat} {t : TypeId} {cs : List Value} (h : Bx w b t cs) : w.rangeAt b 0 cs := fun j u hu => by
 rw [Nat.zero_add]
 exact h.cell j u hu
theorem Bx.part {w : World} {b : Nat} {t : TypeId} {cs : List Value} (h : Bx w b t cs) (o n : Nat) : w.rangeAt b o ((cs.drop o).take n) := fun j u hu => by
 refine h.cell (o + j) u ?_
 rw [List.getElem?_take] at hu
 split at hu
 ·rwa [List.getElem?_drop] at hu
 ·cases hu
theorem Bx.there {w : World} {b : Nat} {t : TypeId} {cs : List Value} (h : Bx w b t cs) : w.there b 0 cs.length := fun j hj => by
 rw [Nat.zero_add]
 exact ⟨by rw [h.cell j _ (List.getElem?_eq_getElem hj)]; rfl, h.frozen j⟩
theorem Bx.set {w : World} {b : Nat} {t : TypeId} {cs : List Value} (h : Bx w b t cs) (i : Nat) (u : Value) : Bx (w.setCell ⟨b, i, none⟩ u) b t (cs.set i u) := by
 unfold Bx at *
 simp only [World.setCell, Array.getElem?_modify]
 simp [h]
theorem Bx.other {w : World} {b b' : Nat} {t : TypeId} {cs : List Value} (h : Bx w b t cs) (i : Nat) (u : Value) (hne : b' ≠ b) : Bx (w.setCell ⟨b', i, none⟩ u) b t cs := by
 unfold Bx at *
 rw [Below.heap_setCell _ _ _ _ (fun e => hne e.symm)]
 exact h
theorem Bx.setAll {w : World} {b : Nat} {t : TypeId} {cs : List Value} (h : Bx w b t cs) (us : List Value) (hl : us.length = cs.length) : Bx (w.setCells b 0 us) b t us := by
 have key : ∀ (vs : List Value) (o : Nat) (w : World) (cs : List Value), Bx w b t cs → o + vs.length = cs.length → Bx (w.setCells b o vs) b t (cs.take o ++ vs) := by
  intro vs
  induction vs with
  | nil => intro o w cs h hl; rw [List.append_nil, List.take_of_length_le (by simp at hl; omega)]; exact h
  | cons v r ih =>
   intro o w cs h hl
   rw [List.length_cons] at hl
   have h1 := ih (o + 1) _ _ (h.set o v) (by rw [List.length_set]; omega)
   rw [List.take_succ_eq_append_getElem (by rw [List.length_set]; omega), List.take_set_of_le (Nat.le_refl o), List.getElem_set_self, List.append_assoc, List.singleton_append] at h1
   exact h1
 have := key us 0 w cs h (by omega)
 rwa [List.take_zero, List.nil_append] at this
theorem below_setCell {B : Nat} {w wr : World} (h : Below B w wr) (a : Addr) (ha : B ≤ a.block) (u : Value) : Below B w (wr.setCell a u) :=
 ⟨h.os, h.tape, h.output, by have := h.size; simpa [World.setCell] using this, fun k hk => (Below.heap_setCell wr a u k (by omega)).trans (h.block k hk)⟩
theorem below_set {B : Nat} {w w' : World} (h : Below B w w') (b i : Nat) (u : Value) (hb : B ≤ b) : Below B w (w'.setCell ⟨b, i, none⟩ u) := below_setCell h _ hb _
theorem below_sets {B : Nat} {w : World} : ∀ (us : List Value) (i : Nat) (w' : World), Below B w w' → ∀ b, B ≤ b → Below B w (w'.setCells b i us)
 | [], _, _, h, _, _ => h
 | _ :: r, i, _, h, b, hb => below_sets r (i + 1) _ (below_set h b i _ hb) b hb
theorem heap_sets (b : Nat) : ∀ (us : List Value) (o : Nat) (w : World) (k : Nat), k ≠ b → (w.setCells b o us).heap[k]? = w.heap[k]?
 | [], _, _, _, _ => rfl
 | u :: r, o, w, k, hk => (heap_sets b r (o + 1) _ k hk).trans (Below.heap_setCell w ⟨b, o, none⟩ u k hk)
/-- A struct's cells stored, as the walk meets it. -/
theorem store_cs (w : World) (b : Nat) (cs : List Value) (ht : w.there b 0 cs.length) (h1 : ∀ u ∈ cs, u.oneCell' = true) : (storeCells ⟨b, 0, none⟩ cs).run Try.prog w = .ok () (w.setCells b 0 cs) := by
 have := run_storeCells_cells (P := Try.prog) b 0 cs 0 w (fun j hj => (ht j hj).1) (fun j hj => (ht j hj).2) h1
 simpa using this
/-- The result out of a struct's variable. -/
theorem results_cs {fn : Func} {t : Tmp} {ty : TypeId} (hr : fn.results = #[.cell t ty]) {tmps : Array Value} {w : World} (b : Nat) (ht : tmps.getD t undef = .pointer (some ⟨b, 0, none⟩)) (cs : List Value) (d : TypeDesc) (hc : w.rangeAt b 0 cs) (hu : Try.prog.underlying ty = some d) (hd : d.isRow = true) (hi : (Try.prog.info? ty).map (·.size) = some cs.length) :
  (results fn tmps).run Try.prog w = .ok (.agg cs.toArray) w := by
 unfold results
 rw [hr]
 rw [Array.getD_eq_getD_getElem?] at ht
 simp [ht, asAddr, run_loadVar_mid w b 0 ty cs d hc hu hd hi]
theorem infoPlayer : (Try.prog.info? 59).map (·.size) = some 14 := by kernel_rfl
/-- A list of ints of the call's own. -/
def OwnI (B : Nat) (w : World) (v : Value) (xs : List (List D)) : Prop := ∃ es : List (Cl 1), w.ownsRow B 3 1 v es.length (es.flatMap Subtype.val) ∧ Es (fun _ => False) 0 w (kI 1) es xs
theorem flat_ints (n : Nat) : flatK (kI n) := fun _ hk => ⟨.int, List.eq_of_mem_replicate hk⟩
theorem es_any {F G : Nat → Prop} {L M : Nat} {w w' : World} {k : Nat} {e : List K} (hf : flatK e) {es : List (Cl k)} {xs : List (List D)} (h : Es F L w e es xs) : Es G M w' e es xs := ⟨h.len, fun j vs ds h1 h2 => (h.at_ j vs ds h1 h2).any hf⟩
theorem ownsRow_old {w w' : World} {B e size n : Nat} {v : Value} {xs : List Value} (h : w.ownsRow B e size v n xs) (hb : Below w.heap.size w w') : w'.ownsRow B e size v n xs := own_block h hb
theorem OwnI.old {B : Nat} {w w' : World} {v : Value} {xs : List (List D)} (h : OwnI B w v xs) (hb : Below w.heap.size w w') : OwnI B w' v xs := by
 obtain ⟨es, h1, h2⟩ := h
 exact ⟨es, own_block h1 hb, es_any (flat_ints 1) h2⟩
theorem OwnI.lt {B : Nat} {w : World} {v : Value} {xs : List (List D)} (h : OwnI B w v xs) (g : Nat) (hg : v.ownBlock = some g) : B ≤ g ∧ g < w.heap.size := by
 obtain ⟨es, h1, _⟩ := h
 exact h1.lt g hg
theorem OwnI.same {B : Nat} {w w' : World} {v : Value} {xs : List (List D)} (h : OwnI B w v xs) (hb : ∀ g, v.ownBlock = some g → w'.heap[g]? = w.heap[g]?) : OwnI B w' v xs := by
 obtain ⟨es, ⟨h1, h2⟩, h3⟩ := h
 refine ⟨es, ⟨h1, ?_⟩, es_any (flat_ints 1) h3⟩
 rcases h2 with hn | ⟨g, cap, cur, rfl, hg, hgg, rest⟩
 ·exact .inl hn
 ·exact .inr ⟨g, cap, cur, rfl, hg, by rw [hb g rfl]; exact hgg, rest⟩
theorem OwnI.form {B : Nat} {w : World} {v : Value} {xs : List (List D)} (h : OwnI B w v xs) : ∃ ao n c, v = .slice ao n c := by
 obtain ⟨es, h1, _⟩ := h
 rcases h1.2 with ⟨rfl, _⟩ | ⟨g, cap, cur, rfl, _⟩
 ·exact ⟨_, _, _, rfl⟩
 ·exact ⟨_, _, _, rfl⟩
/-- Two slices that share no block. -/
def Apart (v u : Value) : Prop := ∀ g, v.ownBlock = some g → u.ownBlock ≠ some g
theorem Apart.of {B : Nat} {w w' : World} {v u : Value} {xs ys : List (List D)} (h : OwnI B w v xs) (h' : OwnI w.heap.size w' u ys) : Apart v u := fun g hg hu => by
 have h1 := (h.lt g hg).2
 have h2 := (h'.lt g hu).1
 omega
theorem OwnI.low {B B' : Nat} {w : World} {v : Value} {xs : List (List D)} (h : OwnI B w v xs) (hb : B' ≤ B) : OwnI B' w v xs := by
 obtain ⟨es, h1, h2⟩ := h
 exact ⟨es, own_low h1 hb, h2⟩
theorem clone_own (F : Nat → Prop) (L : Nat) (v : Value) (xs : List (List D)) (w : World) (h : RdC F L w (.sl (kI 1) 8) v (.sl xs)) (hL : L ≤ 140737488355328) : Calls Try.prog 54 #[v] w fun e w' => ∃ v', e = .returned v' ∧ OwnI w.heap.size w' v' xs ∧ Below w.heap.size w w' := by
 obtain ⟨es, h1, h2, h3⟩ := h.row (k := 1) rfl
 refine (cloneint v es w h1 (by rw [h2.len]; omega)).mono ?_
 rintro e w' ⟨v', rfl, own, b⟩
 exact ⟨v', rfl, ⟨es, own, es_any (flat_ints 1) h2⟩, b⟩
/-- The lists of a player, owned. -/
structure OwnP (B : Nat) (w : World) (v1 v2 v3 : Value) (ds : List D) : Prop where
 o1 : OwnI B w v1 (dxs ds 11)
 o2 : OwnI B w v2 (dxs ds 12)
 o3 : OwnI B w v3 (dxs ds 13)
 a12 : Apart v1 v2
 a13 : Apart v1 v3
 a23 : Apart v2 v3
/-- One cell of a box written. -/
theorem box_store {w1 : World} {b : Nat} {t : TypeId} {cs : List Value} (X : Bx w1 b t cs) (i : Nat) (u : Value) : ∃ W, W = w1.setCell ⟨b, i, none⟩ u ∧ Bx W b t (cs.set i u) ∧ W.heap.size = w1.heap.size ∧ (∀ k, k ≠ b → W.heap[k]? = w1.heap[k]?) ∧ ∀ B w, B ≤ b → Below B w w1 → Below B w W :=
 ⟨_, rfl, X.set i u, by simp [World.setCell], fun k hk => Below.heap_setCell _ _ _ _ hk, fun B w hB hb => below_set hb _ _ _ hB⟩
end Go.Proofs.Ytiebjkbofoppaaa
end
section
namespace Go.Proofs.Ytiebjkbofoppaaa
open Go Go.RowKit Go.Sort Cg
set_option maxRecDepth 100000 in
set_option maxHeartbeats 2000000 in
theorem copyPlayer (F : Nat → Prop) (L : Nat) (cs : List Value) (ds : List D) (w : World) (h : RdL F L w kPlayer cs ds) (hL : L ≤ 140737488355328) :
  Calls Try.prog 52 #[.agg cs.toArray] w fun e w' => ∃ cs', e = .returned (.agg cs'.toArray) ∧ ∃ v1 v2 v3, cs' = ((cs.set 11 v1).set 12 v2).set 13 v3 ∧ OwnP w.heap.size w' v1 v2 v3 ds ∧ Below w.heap.size w w' := by
 have hl := h.len.1
 rw [kPlayer_len] at hl
 have HOC := Lib.hid h.one
 obtain ⟨u1, h1, _, r1⟩ := h.sl 11 _ _ rfl
 obtain ⟨u2, h2, _, r2⟩ := h.sl 12 _ _ rfl
 obtain ⟨u3, h3, _, r3⟩ := h.sl 13 _ _ rfl
 have e1 : cs[11] = u1 := (List.getElem?_eq_some_iff.1 h1).2
 obtain ⟨zs, hzs⟩ : ∃ zs : List Value, zs = [.int .i64 0, .int .i64 0, .int .i64 0, .int .i64 0, .int .i64 0, .int .i64 0, .int .i64 0, .int .i64 0, .int .i64 0, .bool false, .bool false, .slice none 0 0, .slice none 0 0, .slice none 0 0] := ⟨_, rfl⟩
 obtain ⟨W0, hW0⟩ : ∃ W, W = (w.alloc (.cells cs.toArray 59)).alloc (.cells zs.toArray 59) := ⟨_, rfl⟩
 have hsz : (w.alloc (.cells cs.toArray 59)).heap.size = w.heap.size + 1 := by simp
 have Y0 := Lib.hid (show Bx W0 w.heap.size 59 cs by rw [hW0]; exact (Bx.new _ _ _).old ((Below.refl _ _).alloc (Nat.le_refl _) _))
 have Z0 := Lib.hid (show Bx W0 (w.heap.size + 1) 59 zs by rw [hW0, ← hsz]; exact Bx.new _ _ _)
 have B0 := Lib.hid (show Below w.heap.size w W0 by rw [hW0]; exact ((Below.refl w.heap.size w).alloc (Nat.le_refl _) _).alloc (by rw [hsz]; omega) _)
 have S0 := Lib.hid (show w.heap.size + 2 ≤ W0.heap.size by rw [hW0]; simp)
 have HW0 := Lib.hid (show W0 = _ by rw [hW0, hzs])
 have R1 := Lib.hid r1
 have R2 := Lib.hid r2
 have R3 := Lib.hid r3
 have H1 := Lib.hid h1
 have H2 := Lib.hid h2
 have H3 := Lib.hid h3
 have HZ := Lib.hid (show zs.length = 14 by rw [hzs]; rfl)
 clear r1 r2 r3 hzs hW0 hsz h h1 h2 h3
 go_enter Try.func52, Try.ntmps52
 go_wp2_with fail
 rw [← HW0.out]
 refine (clone_own F L u1 _ W0 (R1.out.old B0.out) hL).mono ?_
 rintro e w1 ⟨v1, rfl, o1, b1⟩
 obtain ⟨p1, n1, k1, rfl⟩ := o1.form
 have X1 := Lib.hid (Y0.out.old b1)
 have c11 := X1.out.cell 11 u1 H1.out
 have c12 := X1.out.cell 12 u2 H2.out
 have f11 := X1.out.frozen 11
 obtain ⟨W1, hW1, y1, sz1, sm1, bl1⟩ := box_store X1.out 11 (.slice p1 n1 k1)
 have Y1 := Lib.hid y1
 have Z1 := Lib.hid ((Z0.out.old b1).same (sm1 _ (by omega)))
 have B1 := Lib.hid (bl1 _ w (Nat.le_refl _) (B0.out.trans (b1.mono B0.out.size)))
 have S1 := Lib.hid (show w.heap.size + 2 ≤ W1.heap.size by rw [sz1]; exact Nat.le_trans S0.out b1.size)
 have O1 := Lib.hid (OwnI.same o1 (fun g hg => sm1 g (by have := (o1.lt g hg).1; have := S0.out; omega)))
 have O1 := Lib.hid (show OwnI (w.heap.size + 2) W1 (.slice p1 n1 k1) (dxs ds 11) from O1.out.low (by have := S0.out; omega))
 have HW1 := Lib.hid hW1
 clear o1 b1 hW1 y1 sz1 sm1 bl1 e1
 go_wp2_with fail
 rw [← HW1.out]
 refine (clone_own F L u2 _ W1 (R2.out.old B1.out) hL).mono ?_
 rintro e w2 ⟨v2, rfl, o2, b2⟩
 obtain ⟨p2, n2, k2, rfl⟩ := o2.form
 have X2 := Lib.hid (Y1.out.old b2)
 have c12 := X2.out.cell 12 u2 (by simp only [List.getElem?_set]; simp; exact H2.out)
 have c13 := X2.out.cell 13 u3 (by simp only [List.getElem?_set]; simp; exact H3.out)
 have f12 := X2.out.frozen 12
 obtain ⟨W2, hW2, y2, sz2, sm2, bl2⟩ := box_store X2.out 12 (.slice p2 n2 k2)
 have Y2 := Lib.hid y2
 have Z2 := Lib.hid ((Z1.out.old b2).same (sm2 _ (by omega)))
 have B2 := Lib.hid (bl2 _ w (Nat.le_refl _) (B1.out.trans (b2.mono B1.out.size)))
 have S2 := Lib.hid (show w.heap.size + 2 ≤ W2.heap.size by rw [sz2]; exact Nat.le_trans S1.out b2.size)
 have O2 := Lib.hid (OwnI.same o2 (fun g hg => sm2 g (by have := (o2.lt g hg).1; have := S1.out; omega)))
 have A12 := Lib.hid (Apart.of (w := W1) (O1.out.low (Nat.zero_le _)) o2)
 have O1 := Lib.hid (OwnI.same (O1.out.old b2) (fun g hg => sm2 g (by have := (O1.out.lt g hg).1; have := S0.out; omega)))
 have O2 := Lib.hid (show OwnI (w.heap.size + 2) W2 (.slice p2 n2 k2) (dxs ds 12) from O2.out.low (by have := S1.out; omega))
 have HW2 := Lib.hid hW2
 clear o2 b2 hW2 y2 sz2 sm2 bl2
 go_wp2_with fail
 rw [← HW2.out]
 refine (clone_own F L u3 _ W2 (R3.out.old B2.out) hL).mono ?_
 rintro e w3 ⟨v3, rfl, o3, b3⟩
 obtain ⟨p3, n3, k3, rfl⟩ := o3.form
 have X3 := Lib.hid (Y2.out.old b3)
 have c13 := X3.out.cell 13 u3 (by simp only [List.getElem?_set]; simp; exact H3.out)
 have f13 := X3.out.frozen 13
 obtain ⟨W3, hW3, y3, sz3, sm3, bl3⟩ := box_store X3.out 13 (.slice p3 n3 k3)
 have Y3 := Lib.hid y3
 have Z3 := Lib.hid ((Z2.out.old b3).same (sm3 _ (by omega)))
 have B3 := Lib.hid (bl3 _ w (Nat.le_refl _) (B2.out.trans (b3.mono B2.out.size)))
 have S3 := Lib.hid (show w.heap.size + 2 ≤ W3.heap.size by rw [sz3]; exact Nat.le_trans S2.out b3.size)
 have O3 := Lib.hid (OwnI.same o3 (fun g hg => sm3 g (by have := (o3.lt g hg).1; have := S2.out; omega)))
 have A13 := Lib.hid (Apart.of (w := W2) (O1.out.low (Nat.zero_le _)) o3)
 have O1 := Lib.hid (OwnI.same (O1.out.old b3) (fun g hg => sm3 g (by have := (O1.out.lt g hg).1; have := S0.out; omega)))
 have A23 := Lib.hid (Apart.of (w := W2) (O2.out.low (Nat.zero_le _)) o3)
 have O2 := Lib.hid (OwnI.same (O2.out.old b3) (fun g hg => sm3 g (by have := (O2.out.lt g hg).1; have := S0.out; omega)))
 have O3 := Lib.hid (show OwnI (w.heap.size + 2) W3 (.slice p3 n3 k3) (dxs ds 13) from O3.out.low (by have := S2.out; omega))
 have HW3 := Lib.hid hW3
 obtain ⟨cs3, hcs3⟩ : ∃ l, l = (((cs.set 11 (.slice p1 n1 k1)).set 12 (.slice p2 n2 k2)).set 13 (.slice p3 n3 k3)) := ⟨_, rfl⟩
 have hl3 : cs3.length = 14 := by rw [hcs3]; simp only [List.length_set]; exact hl
 rw [← hcs3] at Y3
 have RG := Lib.hid (show W3.rangeAt w.heap.size 0 cs3 from Y3.out.range)
 have HI := Lib.hid (show (Try.prog.info? 59).map (·.size) = some cs3.length by rw [infoPlayer, hl3])
 have OC := Lib.hid (show ∀ u ∈ cs3, u.oneCell' = true from fun u hu => by
  rw [hcs3] at hu
  rcases List.mem_or_eq_of_mem_set hu with hu | rfl
  ·rcases List.mem_or_eq_of_mem_set hu with hu | rfl
   ·rcases List.mem_or_eq_of_mem_set hu with hu | rfl
    ·exact HOC.out u hu
    ·rfl
   ·rfl
  ·rfl)
 have hst := store_cs W3 (w.heap.size + 1) cs3 (by
  have e : cs3.length = zs.length := by rw [hl3, HZ.out]
  rw [e]
  exact Z3.out.there) OC.out
 have HC3 := Lib.hid hcs3
 have Z4 := Lib.hid (Z3.out.setAll cs3 (by rw [hl3, HZ.out]))
 clear o3 b3 hW3 y3 sz3 sm3 bl3 hcs3
 rw [HW3.out] at RG hst
 go_wp2_with (first
  | (with_reducible refine wpList_load_mid rfl 59 (.tmp 1) rfl w.heap.size 0 ?_ cs3 _ RG.out Try.underlying59 rfl HI.out ?_; simp [Act.eval]))
 rw [← HW3.out]
 have bl4 : Below w.heap.size w (W3.setCells (w.heap.size + 1) 0 cs3) := below_sets _ _ _ B3.out _ (by omega)
 have ot : ∀ (k : Nat), k ≠ w.heap.size + 1 → (W3.setCells (w.heap.size + 1) 0 cs3).heap[k]? = W3.heap[k]? := fun k hk => heap_sets _ _ _ _ k hk
 refine bodyPost_ret (results_cs Try.results52 (w.heap.size + 1) ?_ cs3 _ (Bx.range Z4.out) Try.underlying59 rfl HI.out) rfl ?_
 ·rfl
 ·exact ⟨cs3, rfl, _, _, _, HC3.out, ⟨(OwnI.same O1.out (fun g hg => ot g (by have := (O1.out.lt g hg).1; omega))).low (by omega), (OwnI.same O2.out (fun g hg => ot g (by have := (O2.out.lt g hg).1; omega))).low (by omega), (OwnI.same O3.out (fun g hg => ot g (by have := (O3.out.lt g hg).1; omega))).low (by omega), A12.out, A13.out, A23.out⟩, bl4⟩
end Go.Proofs.Ytiebjkbofoppaaa
end
section
namespace Cg
open Go Go.RowKit Go.Sort Go.Lib
abbrev BlkC (k : Nat) (t : TypeId) (w : World) (g : Nat) (es : List (Cl k)) := BlkK k Subtype.val t w g es
theorem BlkC.setPart {k : Nat} {t : TypeId} {g : Nat} (j : Nat) : ∀ (us : List Value) (o : Nat) (w : World) (es : List (Cl k)) (vs : Cl k), BlkC k t w g es → es[j]? = some vs → o + us.length ≤ k → (∀ u ∈ us, u.oneCell' = true) → ∃ y : Cl k, y.1 = vs.1.take o ++ us ++ vs.1.drop (o + us.length) ∧ BlkC k t (w.setCells g (j * k + o) us) g (es.set j y)
 | [], o, w, es, vs, h, hj, _, _ => by
  refine ⟨vs, by simp, ?_⟩
  have e : es.set j vs = es := by
   apply List.ext_getElem?
   intro i
   by_cases hi : i = j
   ·subst hi
    rw [List.getElem?_set_self (List.getElem?_eq_some_iff.1 hj).1, hj]
   ·rw [List.getElem?_set_ne (fun e => hi e.symm)]
  rw [e]
  exact h
 | u :: r, o, w, es, vs, h, hj, hl, h1 => by
  rw [List.length_cons] at hl
  have hjl := (List.getElem?_eq_some_iff.1 hj).1
  have hvl := vs.len
  obtain ⟨y1, hy1⟩ : ∃ y1 : Cl k, y1.1 = vs.1.set o u := ⟨⟨vs.1.set o u, by rw [List.length_set]; exact hvl, fun x hx => by
   rcases List.mem_or_eq_of_mem_set hx with hx | rfl
   ·exact vs.one x hx
   ·exact h1 _ List.mem_cons_self⟩, rfl⟩
  have s1 := BlkK.setCell Cl.len h j vs hj o (by omega) u y1 (fun i => by
   show y1.1[i]? = _
   rw [hy1, List.getElem?_set]
   by_cases e : o = i
   ·rw [if_pos e, if_pos (by omega), if_pos e.symm]
   ·rw [if_neg e, if_neg (fun h => e h.symm)])
  obtain ⟨y, hy, hb⟩ := BlkC.setPart j r (o + 1) _ (es.set j y1) y1 s1 (List.getElem?_set_self hjl) (by omega) (fun x hx => h1 x (List.mem_cons_of_mem _ hx))
  refine ⟨y, ?_, ?_⟩
  ·rw [hy, hy1, List.length_cons, List.drop_set_of_lt (by omega), List.take_succ_eq_append_getElem (by rw [List.length_set]; omega), List.take_set_of_le (Nat.le_refl o), List.getElem_set_self, show o + 1 + r.length = o + (r.length + 1) by omega]
   simp
  ·rw [List.set_set] at hb
   exact hb
theorem RdL.put {F : Nat → Prop} {L : Nat} {w : World} {ks : List K} {vs : List Value} {ds : List D} (h : RdL F L w ks vs ds) (o n : Nat) {us : List Value} (hu : RdL F L w ((ks.drop o).take n) us ((ds.drop o).take n)) (hn : us.length = n) : RdL F L w ks (vs.take o ++ us ++ vs.drop (o + us.length)) ds := by
 have h3 := ((h.take o).append hu).append (h.drop (o + n))
 have ek : ks.take o ++ (ks.drop o).take n ++ ks.drop (o + n) = ks := by
  rw [← List.take_add, List.take_append_drop]
 have ed : ds.take o ++ (ds.drop o).take n ++ ds.drop (o + n) = ds := by
  rw [← List.take_add, List.take_append_drop]
 rw [ek, ed] at h3
 rw [hn]
 exact h3
/-- A loop over the elements of a block g: what the elements read does not lie in g. -/
structure Lp (G : Nat → Prop) (L k : Nat) (t : TypeId) (e : List K) (w : World) (g : Nat) (es : List (Cl k)) (xs : List (List D)) : Prop where
 blk : BlkC k t w g es
 es : Es G L w e es xs
 apart : ∀ b, G b → b ≠ g
theorem Lp.old {G : Nat → Prop} {L k : Nat} {t : TypeId} {e : List K} {w w' : World} {g : Nat} {es : List (Cl k)} {xs : List (List D)} (h : Lp G L k t e w g es xs) (hb : Below w.heap.size w w') : Lp G L k t e w' g es xs :=
 ⟨h.blk.same (hb.block g h.blk.lt), h.es.old hb, h.apart⟩
/-- A part of element j written anew; it reads as before. -/
theorem Lp.put {G : Nat → Prop} {L k : Nat} {t : TypeId} {e : List K} {w : World} {g : Nat} {es : List (Cl k)} {xs : List (List D)} (h : Lp G L k t e w g es xs) (j : Nat) (hj : j < es.length) (hx : j < xs.length) (o n : Nat) (us : List Value) (hu : RdL G L w ((e.drop o).take n) us ((xs[j].drop o).take n)) (hn : us.length = n) (ho : o + n ≤ k) : ∃ y : Cl k, y.1 = es[j].1.take o ++ us ++ es[j].1.drop (o + us.length) ∧ Lp G L k t e (w.setCells g (j * k + o) us) g (es.set j y) xs := by
 obtain ⟨y, hy, hb⟩ := BlkC.setPart (t := t) (g := g) j us o w es es[j] h.blk (List.getElem?_eq_getElem hj) (by rw [hn]; exact ho) hu.one
 have h1 := (h.es.get j hj hx).put o n hu hn
 rw [← hy] at h1
 have h2 := h.es.set j y xs[j] h1
 have ex : xs.set j xs[j] = xs := List.set_getElem_self hx
 rw [ex] at h2
 have hsz : ∀ (us : List Value) (i : Nat) (w : World), (w.setCells g i us).heap.size = w.heap.size := by
  intro us
  induction us with
  | nil => intro i w; rfl
  | cons u r ih => intro i w; rw [World.setCells, ih]; simp [World.setCell]
 have hot : ∀ (us : List Value) (i : Nat) (w : World) (b : Nat), b ≠ g → (w.setCells g i us).heap[b]? = w.heap[b]? := by
  intro us
  induction us with
  | nil => intro i w b _; rfl
  | cons u r ih => intro i w b hb; rw [World.setCells, ih _ _ b hb]; exact Below.heap_setCell w ⟨g, i, none⟩ u b hb
 exact ⟨y, hy, ⟨hb, h2.frame (Nat.le_refl _) (by rw [hsz]; exact Nat.le_refl _) (fun b hG _ => hot us _ w b (h.apart b hG)) (fun _ h _ => h), h.apart⟩⟩
/-- One cell. -/
theorem Lp.put1 {G : Nat → Prop} {L k : Nat} {t : TypeId} {e : List K} {w : World} {g : Nat} {es : List (Cl k)} {xs : List (List D)} (h : Lp G L k t e w g es xs) (hk : e.length = k) (j : Nat) (hj : j < es.length) (hx : j < xs.length) (o : Nat) (u : Value) (ek : K) (d : D) (he : e[o]? = some ek) (hd : xs[j][o]? = some d) (hu : RdC G L w ek u d) : ∃ y : Cl k, Lp G L k t e (w.setCell ⟨g, j * k + o, none⟩ u) g (es.set j y) xs := by
 have hol := (List.getElem?_eq_some_iff.1 he).1
 have h1 : (e.drop o).take 1 = [ek] := by
  rw [List.drop_eq_getElem_cons hol, (List.getElem?_eq_some_iff.1 he).2]
  rfl
 have hdl := (List.getElem?_eq_some_iff.1 hd).1
 have h2 : (xs[j].drop o).take 1 = [d] := by
  rw [List.drop_eq_getElem_cons hdl, (List.getElem?_eq_some_iff.1 hd).2]
  rfl
 obtain ⟨y, _, hy⟩ := h.put j hj hx o 1 [u] (by rw [h1, h2]; exact .cons hu .nil) rfl (by omega)
 exact ⟨y, hy⟩
end Cg
end
section
namespace Go.Proofs.Ytiebjkbofoppaaa
open Go Go.RowKit Go.Sort Cg
theorem infoAbility : (Try.prog.info? 78).map (·.size) = some 72 := by kernel_rfl
theorem own_form {w : World} {B e k n : Nat} {v : Value} {xs : List Value} (h : w.ownsRow B e k v n xs) : (∃ cap, v = .slice none n cap ∧ n = 0) ∨ ∃ g cap, v = .slice (some ⟨g, 0, none⟩) n cap := by
 rcases h.2 with ⟨rfl, rfl⟩ | ⟨g, cap, cur, rfl, _⟩
 ·exact .inl ⟨0, rfl, rfl⟩
 ·exact .inr ⟨g, cap, rfl⟩
theorem own_sl {w : World} {B e k n : Nat} {v : Value} {xs : List Value} (h : w.ownsRow B e k v n xs) : ∃ ao m c, v = .slice ao m c := by
 rcases h.2 with ⟨rfl, _⟩ | ⟨g, cap, cur, rfl, _⟩
 ·exact ⟨_, _, _, rfl⟩
 ·exact ⟨_, _, _, rfl⟩
theorem own_blkC {k : Nat} {w : World} {base e g n cap : Nat} {es : List (Cl k)} (h : w.ownsRow base e k (.slice (some ⟨g, 0, none⟩) n cap) n (es.flatMap Subtype.val)) (hn : es.length = n) : BlkC k e w g es := by
 rcases h.2 with ⟨hv, _⟩ | ⟨g', cap', cur, hv, _, hg, hc, _, hs, ht⟩
 ·cases hv
 ·cases hv
  refine ⟨cur, hg, by rw [hs, hn]; exact Nat.mul_le_mul_right k hc, fun j x hj i u hu => ?_⟩
  have hi := (List.getElem?_eq_some_iff.1 hu).1
  rw [Cl.len x] at hi
  have hjl := (List.getElem?_eq_some_iff.1 hj).1
  have hjk : j * k + i < n * k := by
   have : (j + 1) * k ≤ n * k := Nat.mul_le_mul_right k (by omega)
   rw [Nat.add_mul] at this
   omega
  have := flat_get (enc := Subtype.val) Cl.len es j x hj i hi
  rw [← ht, List.getElem?_take, if_pos hjk, hu] at this
  rw [← Array.getElem?_toList]
  exact this
theorem flatMod : flatK kMod := fun k hk => by
 have h : ∀ k ∈ kMod, (match k with
  | .lit _ => true
  | .sl _ _ => false) = true := by
  rw [← List.all_eq_true]
  rfl
 have := h k hk
 cases k with
 | lit l => exact ⟨l, rfl⟩
 | sl e b => cases this
theorem cloneFMod (F : Nat → Prop) (L : Nat) (v : Value) (xs : List (List D)) (w : World) (h : RdC F L w (.sl kMod 176) v (.sl xs)) (hL : L ≤ 140737488355328) : Calls Try.prog 60 #[v] w fun e w' => ∃ ao m c, e = .returned (.slice ao m c) ∧ (∀ G : Nat → Prop, (∀ b, w.heap.size ≤ b → b < w'.heap.size → G b) → RdC G L w' (.sl kMod 176) (.slice ao m c) (.sl xs)) ∧ Below w.heap.size w w' := by
 obtain ⟨es, h1, h2, h3⟩ := h.row (k := 20) rfl
 refine (cloneMod v es w h1 (by rw [h2.len]; omega)).mono ?_
 rintro e w' ⟨v', rfl, own, b⟩
 obtain ⟨ao, m, c, rfl⟩ := own_sl own
 exact ⟨ao, m, c, rfl, fun G hG => rdC_of rfl (rowK_own Cl.len own) (es_any flatMod h2) h3 (fun g hg hlt => hG g (own.lt g hg).1 hlt), b⟩
theorem flatSpec : flatK kSpec := fun k hk => by
 have h : ∀ k ∈ kSpec, (match k with
  | .lit _ => true
  | .sl _ _ => false) = true := by
  rw [← List.all_eq_true]
  rfl
 have := h k hk
 cases k with
 | lit l => exact ⟨l, rfl⟩
 | sl e b => cases this
theorem cloneFSpec (F : Nat → Prop) (L : Nat) (v : Value) (xs : List (List D)) (w : World) (h : RdC F L w (.sl kSpec 144) v (.sl xs)) (hL : L ≤ 140737488355328) : Calls Try.prog 75 #[v] w fun e w' => ∃ ao m c, e = .returned (.slice ao m c) ∧ (∀ G : Nat → Prop, (∀ b, w.heap.size ≤ b → b < w'.heap.size → G b) → RdC G L w' (.sl kSpec 144) (.slice ao m c) (.sl xs)) ∧ Below w.heap.size w w' := by
 obtain ⟨es, h1, h2, h3⟩ := h.row (k := 18) rfl
 refine (cloneSpec v es w h1 (by rw [h2.len]; omega)).mono ?_
 rintro e w' ⟨v', rfl, own, b⟩
 obtain ⟨ao, m, c, rfl⟩ := own_sl own
 exact ⟨ao, m, c, rfl, fun G hG => rdC_of rfl (rowK_own Cl.len own) (es_any flatSpec h2) h3 (fun g hg hlt => hG g (own.lt g hg).1 hlt), b⟩
theorem flatTarget : flatK kTarget := fun k hk => by
 have h : ∀ k ∈ kTarget, (match k with
  | .lit _ => true
  | .sl _ _ => false) = true := by
  rw [← List.all_eq_true]
  rfl
 have := h k hk
 cases k with
 | lit l => exact ⟨l, rfl⟩
 | sl e b => cases this
theorem cloneFTarget (F : Nat → Prop) (L : Nat) (v : Value) (xs : List (List D)) (w : World) (h : RdC F L w (.sl kTarget 16) v (.sl xs)) (hL : L ≤ 140737488355328) : Calls Try.prog 57 #[v] w fun e w' => ∃ ao m c, e = .returned (.slice ao m c) ∧ (∀ G : Nat → Prop, (∀ b, w.heap.size ≤ b → b < w'.heap.size → G b) → RdC G L w' (.sl kTarget 16) (.slice ao m c) (.sl xs)) ∧ Below w.heap.size w w' := by
 obtain ⟨es, h1, h2, h3⟩ := h.row (k := 2) rfl
 refine (cloneTarget v es w h1 (by rw [h2.len]; omega)).mono ?_
 rintro e w' ⟨v', rfl, own, b⟩
 obtain ⟨ao, m, c, rfl⟩ := own_sl own
 exact ⟨ao, m, c, rfl, fun G hG => rdC_of rfl (rowK_own Cl.len own) (es_any flatTarget h2) h3 (fun g hg hlt => hG g (own.lt g hg).1 hlt), b⟩
theorem flatint : flatK (kI 1) := fun k hk => by
 have h : ∀ k ∈ (kI 1), (match k with
  | .lit _ => true
  | .sl _ _ => false) = true := by
  rw [← List.all_eq_true]
  rfl
 have := h k hk
 cases k with
 | lit l => exact ⟨l, rfl⟩
 | sl e b => cases this
theorem cloneFint (F : Nat → Prop) (L : Nat) (v : Value) (xs : List (List D)) (w : World) (h : RdC F L w (.sl (kI 1) 8) v (.sl xs)) (hL : L ≤ 140737488355328) : Calls Try.prog 54 #[v] w fun e w' => ∃ ao m c, e = .returned (.slice ao m c) ∧ (∀ G : Nat → Prop, (∀ b, w.heap.size ≤ b → b < w'.heap.size → G b) → RdC G L w' (.sl (kI 1) 8) (.slice ao m c) (.sl xs)) ∧ Below w.heap.size w w' := by
 obtain ⟨es, h1, h2, h3⟩ := h.row (k := 1) rfl
 refine (cloneint v es w h1 (by rw [h2.len]; omega)).mono ?_
 rintro e w' ⟨v', rfl, own, b⟩
 obtain ⟨ao, m, c, rfl⟩ := own_sl own
 exact ⟨ao, m, c, rfl, fun G hG => rdC_of rfl (rowK_own Cl.len own) (es_any flatint h2) h3 (fun g hg hlt => hG g (own.lt g hg).1 hlt), b⟩
theorem ownsRow_same {w w' : World} {B e size n : Nat} {v : Value} {xs : List Value} (h : w.ownsRow B e size v n xs) (hb : ∀ g, v.ownBlock = some g → w'.heap[g]? = w.heap[g]?) : w'.ownsRow B e size v n xs := by
 refine ⟨h.1, ?_⟩
 rcases h.2 with hn | ⟨g, cap, cur, rfl, hg, hgg, rest⟩
 ·exact .inl hn
 ·exact .inr ⟨g, cap, cur, rfl, hg, by rw [hb g rfl]; exact hgg, rest⟩
/-- The world changes in block g alone. -/
theorem RdC.but {F : Nat → Prop} {L : Nat} {w w' : World} {k : K} {v : Value} {d : D} (h : RdC F L w k v d) (g : Nat) (hs : w'.heap.size = w.heap.size) (hb : ∀ b, b ≠ g → w'.heap[b]? = w.heap[b]?) (hF : ∀ b, F b → b ≠ g) : RdC F L w' k v d :=
 h.frame (Nat.le_refl _) (by rw [hs]; exact Nat.le_refl _) (fun b hFb _ => hb b (hF b hFb)) (fun _ h _ => h)
/-- What copyAbility's loop keeps. -/
structure AbS (F : Nat → Prop) (L : Nat) (w : World) (g : Nat) (cs3 zs : List Value) (v1 v2 v3 : Value) (ds : List D) (n : Nat) (wr : World) : Prop where
 box : Bx wr w.heap.size 78 cs3
 res : Bx wr (w.heap.size + 1) 78 zs
 bel : Below w.heap.size w wr
 siz : w.heap.size + 2 ≤ wr.heap.size
 glt : w.heap.size + 2 ≤ g
 r1 : RdC (fun b => (F b ∧ b < w.heap.size) ∨ (w.heap.size + 2 ≤ b ∧ b ≠ g)) L wr (.sl kMod 176) v1 (.sl (dxs ds 17))
 r2 : RdC (fun b => (F b ∧ b < w.heap.size) ∨ (w.heap.size + 2 ≤ b ∧ b ≠ g)) L wr (.sl kSpec 144) v2 (.sl (dxs ds 48))
 r3 : (n = 0 ∧ dxs ds 49 = [] ∧ ∃ ao cap, v3 = .slice ao 0 cap ∧ (ao = none → cap = 0)) ∨ (∃ cap es, v3 = .slice (some ⟨g, 0, none⟩) n cap ∧ n ≤ cap ∧ es.length = n ∧ Lp (fun b => (F b ∧ b < w.heap.size) ∨ (w.heap.size + 2 ≤ b ∧ b ≠ g)) L 64 121 kEffect wr g es (dxs ds 49))
theorem AbS.old {F : Nat → Prop} {L : Nat} {w : World} {g : Nat} {cs3 zs : List Value} {v1 v2 v3 : Value} {ds : List D} {n : Nat} {wr wr' : World} (h : AbS F L w g cs3 zs v1 v2 v3 ds n wr) (hb : Below wr.heap.size wr wr') : AbS F L w g cs3 zs v1 v2 v3 ds n wr' :=
 ⟨h.box.old hb, h.res.old hb, h.bel.trans (hb.mono h.bel.size), Nat.le_trans h.siz hb.size, h.glt, h.r1.old hb, h.r2.old hb, by
  rcases h.r3 with h | ⟨cap, es, h1, h2, h3, h4⟩
  ·exact .inl h
  ·exact .inr ⟨cap, es, h1, h2, h3, h4.old hb⟩⟩
/-- The Mods of effect j copied. -/
theorem AbS.put {F : Nat → Prop} {L : Nat} {w : World} {g : Nat} {cs3 zs : List Value} {v1 v2 v3 : Value} {ds : List D} {n : Nat} {wr : World} (h : AbS F L w g cs3 zs v1 v2 v3 ds n wr) (j : Nat) (hj : j < n) (u : Value) (hu : ∀ ms, (∃ xs : List D, (dxs ds 49)[j]? = some xs ∧ xs[63]? = some (.sl ms)) → RdC (fun b => (F b ∧ b < w.heap.size) ∨ (w.heap.size + 2 ≤ b ∧ b ≠ g)) L wr (.sl kMod 176) u (.sl ms)) :
  AbS F L w g cs3 zs v1 v2 v3 ds n (wr.setCell ⟨g, j * 64 + 63, none⟩ u) := by
 have hg := h.glt
 have hs : (wr.setCell ⟨g, j * 64 + 63, none⟩ u).heap.size = wr.heap.size := by simp [World.setCell]
 have ho : ∀ b, b ≠ g → (wr.setCell ⟨g, j * 64 + 63, none⟩ u).heap[b]? = wr.heap[b]? := fun b hb => Below.heap_setCell wr ⟨g, j * 64 + 63, none⟩ u b hb
 have hF : ∀ b, ((F b ∧ b < w.heap.size) ∨ (w.heap.size + 2 ≤ b ∧ b ≠ g)) → b ≠ g := fun b hb => by rcases hb with hb | hb <;> omega
 refine ⟨h.box.other _ _ (by omega), h.res.other _ _ (by omega), below_set h.bel _ _ _ (by omega), by rw [hs]; exact h.siz, h.glt, RdC.but h.r1 g hs ho hF, RdC.but h.r2 g hs ho hF, ?_⟩
 rcases h.r3 with ⟨h0, _⟩ | ⟨cap, es, h1, h2, h3, h4⟩
 ·omega
 ·have hx : j < (dxs ds 49).length := by rw [← h4.es.len]; omega
  have hrd := h4.es.get j (by omega) hx
  obtain ⟨m, d, hm, hd, hc⟩ := hrd.get 63 (.sl kMod 176) rfl
  have hd2 : ∃ ms, d = .sl ms := by cases hc <;> exact ⟨_, rfl⟩
  obtain ⟨ms, rfl⟩ := hd2
  obtain ⟨y, hy⟩ := h4.put1 (by rfl) j (by omega) hx 63 u (.sl kMod 176) (.sl ms) rfl hd (hu ms ⟨_, List.getElem?_eq_getElem hx, hd⟩)
  exact .inr ⟨cap, es.set j y, h1, h2, by rw [List.length_set]; exact h3, hy⟩
theorem AbS.mods {F : Nat → Prop} {L : Nat} {w : World} {g : Nat} {cs3 zs : List Value} {v1 v2 v3 : Value} {ds : List D} {n : Nat} {wr : World} (h : AbS F L w g cs3 zs v1 v2 v3 ds n wr) (j : Nat) (hj : j < n) : ∃ ms m, (∃ xs : List D, (dxs ds 49)[j]? = some xs ∧ xs[63]? = some (.sl ms)) ∧ wr.cell? ⟨g, j * 64 + 63, none⟩ = some m ∧ wr.frozen? ⟨g, j * 64 + 63, none⟩ = false ∧ RdC (fun b => (F b ∧ b < w.heap.size) ∨ (w.heap.size + 2 ≤ b ∧ b ≠ g)) L wr (.sl kMod 176) m (.sl ms) ∧ g < wr.heap.size := by
 rcases h.r3 with ⟨h0, _⟩ | ⟨cap, es, h1, h2, h3, h4⟩
 ·omega
 ·have hx : j < (dxs ds 49).length := by rw [← h4.es.len]; omega
  have hrd := h4.es.get j (by omega) hx
  obtain ⟨m, d, hm, hd, hc⟩ := hrd.get 63 (.sl kMod 176) rfl
  have hd2 : ∃ ms, d = .sl ms := by cases hc <;> exact ⟨_, rfl⟩
  obtain ⟨ms, rfl⟩ := hd2
  exact ⟨ms, m, ⟨_, List.getElem?_eq_getElem hx, hd⟩, h4.blk.cell j _ (List.getElem?_eq_getElem (by omega)) 63 m hm, h4.blk.frozen _, hc, h4.blk.lt⟩
theorem sets_size (b : Nat) : ∀ (us : List Value) (o : Nat) (w : World), (w.setCells b o us).heap.size = w.heap.size
 | [], _, _ => rfl
 | u :: r, o, w => by rw [World.setCells, sets_size b r]; simp [World.setCell]
def AbBox (b : Nat) (v : Value) (w : World) : Prop := w.cell? ⟨b, 49, none⟩ = some v
theorem rdL_ability {F : Nat → Prop} {L : Nat} {w : World} {g : Nat} {cs cs3 zs : List Value} {v1 v2 v3 : Value} {ds : List D} {n : Nat} {wr : World} (h : AbS F L w g cs3 zs v1 v2 v3 ds n wr) (hr : RdL F L w kAbility cs ds) (hc : cs3 = ((cs.set 17 v1).set 48 v2).set 49 v3) : RdL (fun b => (F b ∧ b < w.heap.size) ∨ w.heap.size + 2 ≤ b) L wr kAbility cs3 ds := by
 have h0 : RdL (fun b => (F b ∧ b < w.heap.size) ∨ w.heap.size + 2 ≤ b) L wr kAbility cs ds := hr.frame (Nat.le_refl _) h.bel.size (fun b _ hlt => h.bel.block b hlt) (fun b hF hlt => .inl ⟨hF, hlt⟩)
 have im : ∀ b, ((F b ∧ b < w.heap.size) ∨ (w.heap.size + 2 ≤ b ∧ b ≠ g)) → ((F b ∧ b < w.heap.size) ∨ w.heap.size + 2 ≤ b) := fun b hb => by
  rcases hb with hb | hb
  ·exact .inl hb
  ·exact .inr hb.1
 obtain ⟨_, _, d1, _⟩ := hr.sl 17 _ _ rfl
 obtain ⟨_, _, d2, _⟩ := hr.sl 48 _ _ rfl
 obtain ⟨_, _, d3, r3⟩ := hr.sl 49 _ _ rfl
 obtain ⟨_, _, _, hby⟩ := r3.row (k := 64) rfl
 have e : ∀ (i : Nat) (d : D), ds[i]? = some d → ds.set i d = ds := fun i d hd => by
  apply List.ext_getElem?
  intro j
  by_cases hj : j = i
  ·subst hj
   rw [List.getElem?_set_self (List.getElem?_eq_some_iff.1 hd).1, hd]
  ·rw [List.getElem?_set_ne (fun h => hj h.symm)]
 have c3 : RdC (fun b => (F b ∧ b < w.heap.size) ∨ w.heap.size + 2 ≤ b) L wr (.sl kEffect 560) v3 (.sl (dxs ds 49)) := by
  rcases h.r3 with ⟨_, hx, ao, cap, rfl, hn⟩ | ⟨cap, es, rfl, hcap, hlen, hlp⟩
  ·rw [hx]; exact .slNil hn
  ·have hrow := hlp.blk.row cap (by rw [hlen]; exact hcap)
   rw [hlen] at hrow
   exact rdC_of (k := 64) rfl hrow (hlp.es.frame (Nat.le_refl _) (Nat.le_refl _) (fun _ _ _ => rfl) (fun b hb _ => im b hb)) hby (fun b hb _ => by cases hb; exact .inr h.glt)
 have s1 := h0.set 17 _ v1 _ rfl (h.r1.imp (fun b hb _ => im b hb))
 have s2 := s1.set 48 _ v2 _ rfl (h.r2.imp (fun b hb _ => im b hb))
 have s3 := s2.set 49 _ v3 _ rfl c3
 rw [e 17 _ d1, e 48 _ d2, e 49 _ d3] at s3
 rw [hc]
 exact s3
set_option maxRecDepth 100000 in
set_option maxHeartbeats 4000000 in
theorem copyAbility (F : Nat → Prop) (L : Nat) (cs : List Value) (ds : List D) (w : World) (h : RdL F L w kAbility cs ds) (hL : L ≤ 140737488355328) :
  Calls Try.prog 56 #[.agg cs.toArray] w fun e w' => ∃ cs', e = .returned (.agg cs'.toArray) ∧ RdL (fun b => (F b ∧ b < w.heap.size) ∨ w.heap.size ≤ b) L w' kAbility cs' ds ∧ Below w.heap.size w w' := by
 have hl := h.len.1
 rw [kAbility_len] at hl
 have HH := Lib.hid h
 obtain ⟨u1, h1, d1, r1⟩ := h.sl 17 _ _ rfl
 obtain ⟨u2, h2, d2, r2⟩ := h.sl 48 _ _ rfl
 obtain ⟨u3, h3, d3, r3⟩ := h.sl 49 _ _ rfl
 have e1 : cs[17] = u1 := (List.getElem?_eq_some_iff.1 h1).2
 obtain ⟨zs, hzs⟩ : ∃ zs : List Value, zs = Try.zeroCells78.toList := ⟨_, rfl⟩
 obtain ⟨W0, hW0⟩ : ∃ W, W = (w.alloc (.cells cs.toArray 78)).alloc (.cells Try.zeroCells78 78) := ⟨_, rfl⟩
 have hsz : (w.alloc (.cells cs.toArray 78)).heap.size = w.heap.size + 1 := by simp
 have Y0 := Lib.hid (show Bx W0 w.heap.size 78 cs by rw [hW0]; exact (Bx.new _ _ _).old ((Below.refl _ _).alloc (Nat.le_refl _) _))
 have Z0 := Lib.hid (show Bx W0 (w.heap.size + 1) 78 zs by rw [hW0, ← hsz, hzs]; exact Bx.new _ _ _)
 have B0 := Lib.hid (show Below w.heap.size w W0 by rw [hW0]; exact ((Below.refl w.heap.size w).alloc (Nat.le_refl _) _).alloc (by rw [hsz]; omega) _)
 have S0 := Lib.hid (show w.heap.size + 2 ≤ W0.heap.size by rw [hW0]; simp)
 have HW0 := Lib.hid hW0
 have R1 := Lib.hid r1
 have R2 := Lib.hid r2
 have R3 := Lib.hid r3
 have H1 := Lib.hid h1
 have H2 := Lib.hid h2
 have H3 := Lib.hid h3
 have HZ := Lib.hid (show zs.length = 72 by rw [hzs, Array.length_toList]; exact Try.zeroCells78_size)
 clear r1 r2 r3 hzs hW0 hsz h h1 h2 h3 d1 d2 d3
 go_enter Try.func56, Try.ntmps56
 go_wp2_with fail
 rw [← HW0.out]
 refine (cloneFMod F L u1 _ W0 (R1.out.old B0.out) hL).mono ?_
 rintro e w1 ⟨p1, n1, k1, rfl, q1, b1⟩
 have Q1 := Lib.hid (q1 (fun b => W0.heap.size ≤ b ∧ b < w1.heap.size) (fun b h1 h2 => ⟨h1, h2⟩))
 have X1 := Lib.hid (Y0.out.old b1)
 have c17 := X1.out.cell 17 u1 H1.out
 have c48 := X1.out.cell 48 u2 H2.out
 have f17 := X1.out.frozen 17
 obtain ⟨W1, hW1, y1, sz1, sm1, bl1⟩ := box_store X1.out 17 (.slice p1 n1 k1)
 have Y1 := Lib.hid y1
 have Z1 := Lib.hid ((Z0.out.old b1).same (sm1 _ (by omega)))
 have B1 := Lib.hid (bl1 _ w (Nat.le_refl _) (B0.out.trans (b1.mono B0.out.size)))
 have S1 := Lib.hid (show w.heap.size + 2 ≤ W1.heap.size by rw [sz1]; exact Nat.le_trans S0.out b1.size)
 have L1 := Lib.hid (show W0.heap.size ≤ W1.heap.size by rw [sz1]; exact b1.size)
 have HW1 := Lib.hid hW1
 have Q1 := Lib.hid (RdC.but Q1.out w.heap.size sz1 sm1 (fun b hb => by have := hb.1; have := S0.out; omega))
 have T1 := Lib.hid (show w1.heap.size ≤ W1.heap.size by rw [sz1]; exact Nat.le_refl _)
 clear b1 hW1 y1 sz1 sm1 bl1 q1 e1
 go_wp2_with fail
 rw [← HW1.out]
 refine (cloneFSpec F L u2 _ W1 (R2.out.old B1.out) hL).mono ?_
 rintro e w2 ⟨p2, n2, k2, rfl, q2, b2⟩
 have Q2 := Lib.hid (q2 (fun b => W1.heap.size ≤ b ∧ b < w2.heap.size) (fun b h1 h2 => ⟨h1, h2⟩))
 have X2 := Lib.hid (Y1.out.old b2)
 have c48 := X2.out.cell 48 u2 (by simp only [List.getElem?_set]; simp; exact H2.out)
 have c49 := X2.out.cell 49 u3 (by simp only [List.getElem?_set]; simp; exact H3.out)
 have f48 := X2.out.frozen 48
 obtain ⟨W2, hW2, y2, sz2, sm2, bl2⟩ := box_store X2.out 48 (.slice p2 n2 k2)
 have Y2 := Lib.hid y2
 have Z2 := Lib.hid ((Z1.out.old b2).same (sm2 _ (by omega)))
 have B2 := Lib.hid (bl2 _ w (Nat.le_refl _) (B1.out.trans (b2.mono B1.out.size)))
 have S2 := Lib.hid (show w.heap.size + 2 ≤ W2.heap.size by rw [sz2]; exact Nat.le_trans S1.out b2.size)
 have L2 := Lib.hid (show W1.heap.size ≤ W2.heap.size by rw [sz2]; exact b2.size)
 have HW2 := Lib.hid hW2
 have Q2 := Lib.hid (RdC.but Q2.out w.heap.size sz2 sm2 (fun b hb => by have := hb.1; have := S1.out; omega))
 have T2 := Lib.hid (show w2.heap.size ≤ W2.heap.size by rw [sz2]; exact Nat.le_refl _)
 have Q1 := Lib.hid (RdC.but (Q1.out.old b2) w.heap.size sz2 sm2 (fun b hb => by have := hb.1; have := S0.out; omega))
 clear b2 hW2 y2 sz2 sm2 bl2 q2
 go_wp2_with fail
 rw [← HW2.out]
 obtain ⟨es, rw3, hes, hby⟩ := R3.out.row (k := 64) rfl
 have ES := Lib.hid hes
 have HBY := Lib.hid hby
 refine (cloneEffect u3 es W2 (rw3.below B2.out) (by rw [hes.len]; omega)).mono ?_
 rintro e w3 ⟨v3, rfl, own3, b3⟩
 obtain ⟨p3, n3, k3, rfl⟩ := own_sl own3
 have OW3 := Lib.hid own3
 have q3 := hby
 have X3 := Lib.hid (Y2.out.old b3)
 have c49 := X3.out.cell 49 u3 (by simp only [List.getElem?_set]; simp; exact H3.out)
 have f49 := X3.out.frozen 49
 obtain ⟨W3, hW3, y3, sz3, sm3, bl3⟩ := box_store X3.out 49 (.slice p3 n3 k3)
 have Y3 := Lib.hid y3
 have Z3 := Lib.hid ((Z2.out.old b3).same (sm3 _ (by omega)))
 have B3 := Lib.hid (bl3 _ w (Nat.le_refl _) (B2.out.trans (b3.mono B2.out.size)))
 have S3 := Lib.hid (show w.heap.size + 2 ≤ W3.heap.size by rw [sz3]; exact Nat.le_trans S2.out b3.size)
 have L3 := Lib.hid (show W2.heap.size ≤ W3.heap.size by rw [sz3]; exact b3.size)
 have HW3 := Lib.hid hW3
 have OW3 := Lib.hid (ownsRow_same OW3.out (fun g hg => sm3 g (by have := (OW3.out.lt g hg).1; have := S2.out; omega)))
 have Q1 := Lib.hid (RdC.but (Q1.out.old b3) w.heap.size sz3 sm3 (fun b hb => by have := hb.1; have := S0.out; omega))
 have Q2 := Lib.hid (RdC.but (Q2.out.old b3) w.heap.size sz3 sm3 (fun b hb => by have := hb.1; have := S1.out; omega))
 clear b3 hW3 y3 sz3 sm3 bl3 q3 own3
 have hlen : n3 = es.length := by
  rcases own_form OW3.out with ⟨cap, h, h0⟩ | ⟨g, cap, h⟩
  ·simp only [Value.slice.injEq] at h; omega
  ·simp only [Value.slice.injEq] at h; exact h.2.1
 subst hlen
 obtain ⟨cs3, hcs3⟩ : ∃ l, l = (((cs.set 17 (.slice p1 n1 k1)).set 48 (.slice p2 n2 k2)).set 49 (.slice p3 es.length k3)) := ⟨_, rfl⟩
 have hl3 : cs3.length = 72 := by rw [hcs3]; simp only [List.length_set]; exact hl
 have HC3 := Lib.hid hcs3
 have V3 := Lib.hid (show cs3[49]? = some (.slice p3 es.length k3) by rw [hcs3, List.getElem?_set]; simp [hl])
 obtain ⟨g, hab⟩ : ∃ g, AbS F L w g cs3 zs (.slice p1 n1 k1) (.slice p2 n2 k2) (.slice p3 es.length k3) ds es.length W3 := by
  rw [← hcs3] at Y3
  have im : ∀ g, W2.heap.size ≤ g → ∀ b lo hi, w.heap.size + 2 ≤ lo → hi ≤ W2.heap.size → lo ≤ b ∧ b < hi → ((F b ∧ b < w.heap.size) ∨ (w.heap.size + 2 ≤ b ∧ b ≠ g)) := fun g hg b lo hi h1 h2 h3 => .inr ⟨by omega, by omega⟩
  have t1 := T1.out
  have t2 := T2.out
  have l2 := L2.out
  have s0 := S0.out
  have s1 := S1.out
  have s2 := S2.out
  rcases own_form OW3.out with ⟨cap, hv, h0⟩ | ⟨g, cap, hv⟩
  ·simp only [Value.slice.injEq] at hv
   obtain ⟨rfl, _, rfl⟩ := hv
   refine ⟨W2.heap.size, Y3.out, Z3.out, B3.out, S3.out, s2, Q1.out.imp (fun b hb _ => im _ (Nat.le_refl _) b _ _ s0 (by omega) hb), Q2.out.imp (fun b hb _ => im _ (Nat.le_refl _) b _ _ s1 (by omega) hb), .inl ⟨h0, List.eq_nil_of_length_eq_zero (by rw [← ES.out.len]; exact h0), none, k3, by rw [h0], fun _ => ?_⟩⟩
   rcases OW3.out.2 with ⟨hv, _⟩ | ⟨_, _, _, hv, _⟩
   ·simp only [Value.slice.injEq] at hv; exact hv.2.2
   ·cases hv
  ·simp only [Value.slice.injEq] at hv
   obtain ⟨rfl, _, rfl⟩ := hv
   have hgb := (OW3.out.lt g rfl).1
   have hc3 : es.length ≤ k3 := by
    rcases OW3.out.2 with ⟨hv, _⟩ | ⟨_, _, _, hv, _, _, hc, _⟩
    ·cases hv
    ·simp only [Value.slice.injEq] at hv; rw [hv.2.2]; exact hc
   refine ⟨g, Y3.out, Z3.out, B3.out, S3.out, by omega, Q1.out.imp (fun b hb _ => im g hgb b _ _ s0 (by omega) hb), Q2.out.imp (fun b hb _ => im g hgb b _ _ s1 (by omega) hb), .inr ⟨k3, es, rfl, hc3, rfl, own_blkC OW3.out rfl, ?_, fun b hb => by rcases hb with hb | hb <;> omega⟩⟩
   exact (ES.out.frame (G := fun b => (F b ∧ b < w.heap.size) ∨ (w.heap.size + 2 ≤ b ∧ b ≠ g)) (Nat.le_refl _) B3.out.size (fun b _ hlt => B3.out.block b hlt) (fun b hF hlt => .inl ⟨hF, hlt⟩))
 have AB := Lib.hid hab
 have c49 := AB.out.box.cell 49 _ V3.out
 obtain ⟨n, hn⟩ : ∃ n, n = es.length := ⟨_, rfl⟩
 have hnb : n * 560 ≤ 140737488355328 := by rw [hn, ES.out.len]; exact Nat.le_trans HBY.out hL
 rw [← hn] at AB V3 c49 HW3 HC3
 rw [HW3.out] at AB c49
 rw [← hn]
 clear hab hn OW3 ES HBY X1 X2 X3 Y0 Y1 Y2 Z0 Z1 Z2 Q1 Q2 hcs3
 go_wp2_with fail
 go_loopw [19] (fun i wr => ∃ k : Nat, k ≤ n ∧ i = .int .i64 k ∧ AbS F L w g cs3 zs (.slice p1 n1 k1) (.slice p2 n2 k2) (.slice p3 n k3) ds n wr) (fun i _ => n - (intOf i).toNat)
 case atStart => exact ⟨0, by omega, rfl, AB.out⟩
 case round =>
  obtain ⟨k, hk, rfl, hab⟩ := hrel
  have A := Lib.hid hab
  clear hab
  by_cases hlt : k < n
  ·obtain ⟨ms, m, hms, cm, fm, rm, hg⟩ := A.out.mods k hlt
   have c49 := A.out.box.cell 49 _ V3.out
   have hp3 : p3 = some ⟨g, 0, none⟩ := by
    rcases A.out.r3 with ⟨h0, _⟩ | ⟨cap, es, h1, _⟩
    ·omega
    ·simp only [Value.slice.injEq] at h1; exact h1.1
   subst hp3
   have RM := Lib.hid rm
   have HMS := Lib.hid hms
   have S0' := Lib.hid (show AbBox w.heap.size (.slice (some ⟨g, 0, none⟩) n k3) wr from c49)
   have CM := Lib.hid cm
   have FM := Lib.hid fm
   have HG := Lib.hid hg
   clear rm hms fm hg
   go_wp2_with fail
   refine wp_region_noPanic ?_
   refine wp_region_held_drew (S := AbBox w.heap.size (.slice (some ⟨g, 0, none⟩) n k3)) (by kernel_rfl) (S0'.out) (fun hHeld => ?_)
   refine wpAnyH_take (i := 0) (oi := ?oiA0x) (v := ?vA0x) ?hiA0x (by kernel_rfl) (by kernel_rfl) (by kernel_rfl) ?hqA0x ?hyA0x (by assumption) ?restA0x
   case hiA0x => (simp only [List.getElem?_toArray, List.getElem?_cons_zero] <;> rfl)
   case hqA0x => exact fun _ _ _ h => h
   case hyA0x => exact Or.inl ⟨by rfl, by (intro wS hSw; have s49 : wS.cell? ⟨w.heap.size, 49, none⟩ = some (.slice (some ⟨g, 0, none⟩) n k3) := hSw; go_simp; try with_reducible rfl)⟩
   try simp only [Act.put, List.setIfInBounds_toArray, List.set_cons_zero, List.set_cons_succ]
   refine wpAnyH_take (i := 1) (oi := ?oiA1x) (v := ?vA1x) ?hiA1x (by kernel_rfl) (by kernel_rfl) (by kernel_rfl) ?hqA1x ?hyA1x (by assumption) ?restA1x
   case hiA1x => (simp only [List.getElem?_toArray, List.getElem?_cons_succ, List.getElem?_cons_zero] <;> rfl)
   case hqA1x => exact fun _ _ _ h => h
   case hyA1x => exact Or.inl ⟨by rfl, by (intro wS hSw; have s49 : wS.cell? ⟨w.heap.size, 49, none⟩ = some (.slice (some ⟨g, 0, none⟩) n k3) := hSw; go_simp; try with_reducible rfl)⟩
   try simp only [Act.put, List.setIfInBounds_toArray, List.set_cons_zero, List.set_cons_succ]
   refine wpAnyH_take (i := 2) (oi := ?oiA2x) (v := ?vA2x) ?hiA2x (by kernel_rfl) (by kernel_rfl) (by kernel_rfl) ?hqA2x ?hyA2x (by assumption) ?restA2x
   case hiA2x => (simp only [List.getElem?_toArray, List.getElem?_cons_succ, List.getElem?_cons_zero] <;> rfl)
   case hqA2x => exact fun _ _ _ h => h
   case hyA2x => exact Or.inl ⟨by rfl, by (intro wS hSw; have s49 : wS.cell? ⟨w.heap.size, 49, none⟩ = some (.slice (some ⟨g, 0, none⟩) n k3) := hSw; go_simp; try with_reducible rfl)⟩
   try simp only [Act.put, List.setIfInBounds_toArray, List.set_cons_zero, List.set_cons_succ]
   refine wpAnyH_take (i := 3) (oi := ?oiA3x) (v := ?vA3x) ?hiA3x (by kernel_rfl) (by kernel_rfl) (by kernel_rfl) ?hqA3x ?hyA3x (by assumption) ?restA3x
   case hiA3x => (simp only [List.getElem?_toArray, List.getElem?_cons_succ, List.getElem?_cons_zero] <;> rfl)
   case hqA3x => exact fun _ _ _ h => h
   case hyA3x => exact Or.inl ⟨by rfl, by (intro wS hSw; have s49 : wS.cell? ⟨w.heap.size, 49, none⟩ = some (.slice (some ⟨g, 0, none⟩) n k3) := hSw; go_simp; try with_reducible rfl)⟩
   try simp only [Act.put, List.setIfInBounds_toArray, List.set_cons_zero, List.set_cons_succ]
   refine wpAnyH_take (i := 4) (oi := ?oiA4x) (v := ?vA4x) ?hiA4x (by kernel_rfl) (by kernel_rfl) (by kernel_rfl) ?hqA4x ?hyA4x (by assumption) ?restA4x
   case hiA4x => (simp only [List.getElem?_toArray, List.getElem?_cons_succ, List.getElem?_cons_zero] <;> rfl)
   case hqA4x => exact fun _ _ _ h => h
   case hyA4x => exact Or.inl ⟨by rfl, by (intro wS hSw; have s49 : wS.cell? ⟨w.heap.size, 49, none⟩ = some (.slice (some ⟨g, 0, none⟩) n k3) := hSw; go_simp; try with_reducible rfl)⟩
   try simp only [Act.put, List.setIfInBounds_toArray, List.set_cons_zero, List.set_cons_succ]
   refine wpAnyH_take (i := 5) (oi := ?oiA5x) (v := ?vA5x) ?hiA5x (by kernel_rfl) (by kernel_rfl) (by kernel_rfl) ?hqA5x ?hyA5x (by assumption) ?restA5x
   case hiA5x => (simp only [List.getElem?_toArray, List.getElem?_cons_succ, List.getElem?_cons_zero] <;> rfl)
   case hqA5x => exact fun _ _ _ h => h
   case hyA5x => exact Or.inl ⟨by rfl, by (intro wS hSw; have s49 : wS.cell? ⟨w.heap.size, 49, none⟩ = some (.slice (some ⟨g, 0, none⟩) n k3) := hSw; go_simp; try with_reducible rfl)⟩
   try simp only [Act.put, List.setIfInBounds_toArray, List.set_cons_zero, List.set_cons_succ]
   refine wpAnyH_take (i := 6) (oi := ?oiA6x) (v := ?vA6x) ?hiA6x (by kernel_rfl) (by kernel_rfl) (by kernel_rfl) ?hqA6x ?hyA6x (by assumption) ?restA6x
   case hiA6x => (simp only [List.getElem?_toArray, List.getElem?_cons_succ, List.getElem?_cons_zero] <;> rfl)
   case hqA6x => exact fun _ _ _ h => h
   case hyA6x => exact Or.inl ⟨by rfl, by (intro wS hSw; have s49 : wS.cell? ⟨w.heap.size, 49, none⟩ = some (.slice (some ⟨g, 0, none⟩) n k3) := hSw; go_simp; try with_reducible rfl)⟩
   try simp only [Act.put, List.setIfInBounds_toArray, List.set_cons_zero, List.set_cons_succ]
   refine wpAnyH_take (i := 7) (oi := ?oiA7x) (v := ?vA7x) ?hiA7x (by kernel_rfl) (by kernel_rfl) (by kernel_rfl) ?hqA7x ?hyA7x (by assumption) ?restA7x
   case hiA7x => (simp only [List.getElem?_toArray, List.getElem?_cons_succ, List.getElem?_cons_zero] <;> rfl)
   case hqA7x => exact fun _ _ _ h => h
   case hyA7x => exact Or.inl ⟨by rfl, by (intro wS hSw; have s49 : wS.cell? ⟨w.heap.size, 49, none⟩ = some (.slice (some ⟨g, 0, none⟩) n k3) := hSw; go_simp; try with_reducible rfl)⟩
   try simp only [Act.put, List.setIfInBounds_toArray, List.set_cons_zero, List.set_cons_succ]
   refine wpAnyH_ready (rs := [8]) (by kernel_rfl) (by simp) ?_
   refine AllReadyH.cons (o := ?oiA8x) ?hiA8x (fun K hK => ?hsA8x) AllReadyH.nil
   case hiA8x => (simp only [List.getElem?_toArray, List.getElem?_cons_succ, List.getElem?_cons_zero] <;> rfl)
   go_simp
   have c8 := CM.out
   refine hK.out _ _ S0'.out (fun hHeld8 => ?_)
   clear hHeld8
   clear hK K
   try simp only [Act.put, List.setIfInBounds_toArray, List.set_cons_zero, List.set_cons_succ]
   refine wpAnyH_ready (rs := [9]) (by kernel_rfl) (by simp) ?_
   refine AllReadyH.cons (o := ?oiA9x) ?hiA9x (fun K hK => ?hsA9x) AllReadyH.nil
   case hiA9x => (simp only [List.getElem?_toArray, List.getElem?_cons_succ, List.getElem?_cons_zero] <;> rfl)
   go_simp
   refine (cloneFMod _ L m ms wr.drew (RM.out.old (Below.refl _ _).drew) hL).mono ?_
   rintro e w5 ⟨p5, n5, k5, rfl, q5, b5⟩
   have B5 := Lib.hid (show Below wr.heap.size wr w5 from (Below.refl _ _).drew.trans b5)
   have S5 := Lib.hid (show AbBox w.heap.size (.slice (some ⟨g, 0, none⟩) n k3) w5 from (B5.out.cell (p := ⟨w.heap.size, 49, none⟩) A.out.box.lt).trans S0'.out)
   have A5 := Lib.hid (A.out.old B5.out)
   have Q5 := Lib.hid (q5 (fun b => (F b ∧ b < w.heap.size) ∨ (w.heap.size + 2 ≤ b ∧ b ≠ g)) (fun b h1 _ => .inr ⟨Nat.le_trans A.out.siz h1, fun e => by have := HG.out; rw [e] at h1; exact absurd h1 (Nat.not_le.2 this)⟩))
   have c12 := (B5.out.cell (p := ⟨g, k * 64 + 63, none⟩) HG.out).trans CM.out
   have f12 := (show w5.frozen? ⟨g, k * 64 + 63, none⟩ = false by obtain ⟨_, _, _, _, h, _⟩ := A5.out.mods k hlt; exact h)
   clear q5 b5
   refine hK.out _ _ S5.out (fun hHeld9 => ?_)
   clear hK K
   try simp only [Act.put, List.setIfInBounds_toArray, List.set_cons_zero, List.set_cons_succ]
   refine wpAnyH_take (i := 10) (oi := ?oiA10x) (v := ?vA10x) ?hiA10x (by kernel_rfl) (by kernel_rfl) (by kernel_rfl) ?hqA10x ?hyA10x (by assumption) ?restA10x
   case hiA10x => (simp only [List.getElem?_toArray, List.getElem?_cons_succ, List.getElem?_cons_zero] <;> rfl)
   case hqA10x => exact fun _ _ _ h => h
   case hyA10x => exact Or.inl ⟨by rfl, by (intro wS hSw; have s49 : wS.cell? ⟨w.heap.size, 49, none⟩ = some (.slice (some ⟨g, 0, none⟩) n k3) := hSw; go_simp; try with_reducible rfl)⟩
   try simp only [Act.put, List.setIfInBounds_toArray, List.set_cons_zero, List.set_cons_succ]
   refine wpAnyH_take (i := 11) (oi := ?oiA11x) (v := ?vA11x) ?hiA11x (by kernel_rfl) (by kernel_rfl) (by kernel_rfl) ?hqA11x ?hyA11x (by assumption) ?restA11x
   case hiA11x => (simp only [List.getElem?_toArray, List.getElem?_cons_succ, List.getElem?_cons_zero] <;> rfl)
   case hqA11x => exact fun _ _ _ h => h
   case hyA11x => exact Or.inl ⟨by rfl, by (intro wS hSw; have s49 : wS.cell? ⟨w.heap.size, 49, none⟩ = some (.slice (some ⟨g, 0, none⟩) n k3) := hSw; go_simp; try with_reducible rfl)⟩
   try simp only [Act.put, List.setIfInBounds_toArray, List.set_cons_zero, List.set_cons_succ]
   refine wpAnyH_ready (rs := [12]) (by kernel_rfl) (by simp) ?_
   refine AllReadyH.cons (o := ?oiA12x) ?hiA12x (fun K hK => ?hsA12x) AllReadyH.nil
   case hiA12x => (simp only [List.getElem?_toArray, List.getElem?_cons_succ, List.getElem?_cons_zero] <;> rfl)
   go_simp
   have A6 := Lib.hid (A5.out.put k hlt (.slice p5 n5 k5) (fun ms2 h2 => by obtain ⟨x, h3, h4⟩ := HMS.out; obtain ⟨y, h5, h6⟩ := h2; rw [h3] at h5; obtain rfl := Option.some.inj h5; rw [h4] at h6; cases h6; exact Q5.out))
   have S6 := Lib.hid (show AbBox w.heap.size (.slice (some ⟨g, 0, none⟩) n k3) (w5.setCell ⟨g, k * 64 + 63, none⟩ (.slice p5 n5 k5)) from A6.out.box.cell 49 _ V3.out)
   refine hK.out _ _ S6.out (fun hHeld12 => ?_)
   clear hK K
   try simp only [Act.put, List.setIfInBounds_toArray, List.set_cons_zero, List.set_cons_succ]
   refine wpAnyH_done (by kernel_rfl) ?_ _
   refine NoPanic.normal ?_
   go_wp2_with fail
   go_round
   case rel => exact ⟨k + 1, by omega, by go_num, A6.out⟩
   case measure => simp [intOf]; omega
  ·obtain rfl : k = n := by omega
   have RG := Lib.hid (show wr.rangeAt w.heap.size 0 cs3 from A.out.box.range)
   have HI := Lib.hid (show (Try.prog.info? 78).map (·.size) = some cs3.length by rw [infoAbility, hl3])
   have hrd := rdL_ability A.out HH.out HC3.out
   have RR := Lib.hid hrd
   have hst := store_cs wr (w.heap.size + 1) cs3 (by
    have e : cs3.length = zs.length := by rw [hl3, HZ.out]
    rw [e]
    exact A.out.res.there) hrd.one
   have Z4 := Lib.hid (A.out.res.setAll cs3 (by rw [hl3, HZ.out]))
   clear hrd
   go_wp2_with (with_reducible refine wpList_load_mid rfl 78 (.tmp 1) rfl w.heap.size 0 ?_ cs3 _ RG.out Try.underlying78 rfl HI.out ?_; simp [Act.eval])
   have bl4 : Below w.heap.size w (wr.setCells (w.heap.size + 1) 0 cs3) := below_sets _ _ _ A.out.bel _ (by omega)
   refine bodyPost_ret (results_cs Try.results56 (w.heap.size + 1) ?_ cs3 _ (Bx.range Z4.out) Try.underlying78 rfl HI.out) rfl ?_
   ·rfl
   ·refine ⟨cs3, rfl, RR.out.frame (Nat.le_refl _) (by rw [sets_size]; exact Nat.le_refl _) (fun b hb _ => heap_sets _ _ _ _ b (by rcases hb with hb | hb <;> omega)) (fun b hb _ => by rcases hb with hb | hb; exact .inl hb; exact .inr (by omega)), bl4⟩
end Go.Proofs.Ytiebjkbofoppaaa
end
section
namespace Go.Proofs.Ytiebjkbofoppaaa
open Go Go.RowKit Go.Sort Cg
/-- Blocks below m are as they were, but for the box B. -/
def Kp (B m : Nat) (w w' : World) : Prop := w.heap.size ≤ w'.heap.size ∧ ∀ b, b < m → b ≠ B → w'.heap[b]? = w.heap[b]?
theorem Kp.refl (B m : Nat) (w : World) : Kp B m w w := ⟨Nat.le_refl _, fun _ _ _ => rfl⟩
theorem Kp.trans {B m : Nat} {a b c : World} (h : Kp B m a b) (k : Kp B m b c) : Kp B m a c := ⟨Nat.le_trans h.1 k.1, fun x hx hn => (k.2 x hx hn).trans (h.2 x hx hn)⟩
theorem Kp.mono {B m m' : Nat} {a b : World} (h : Kp B m' a b) (hm : m ≤ m') : Kp B m a b := ⟨h.1, fun x hx hn => h.2 x (Nat.lt_of_lt_of_le hx hm) hn⟩
theorem Kp.of {B : Nat} {a b : World} (h : Below a.heap.size a b) : Kp B a.heap.size a b := ⟨h.size, fun x hx _ => h.block x hx⟩
theorem Kp.chain {B : Nat} {a b c : World} (h : Kp B a.heap.size a b) (k : Kp B b.heap.size b c) : Kp B a.heap.size a c := h.trans (k.mono h.1)
/-- The box of the state and the result's variable, in the middle of a copy. -/
structure Stg (w W : World) (cs zs : List Value) : Prop where
 box : Bx W w.heap.size 30 cs
 res : Bx W (w.heap.size + 1) 30 zs
 bel : Below w.heap.size w W
 siz : w.heap.size + 2 ≤ W.heap.size
theorem Stg.old {w W W' : World} {cs zs : List Value} (h : Stg w W cs zs) (hb : Below W.heap.size W W') : Stg w W' cs zs := ⟨h.box.old hb, h.res.old hb, h.bel.trans (hb.mono h.bel.size), Nat.le_trans h.siz hb.size⟩
theorem Stg.store {w W w' : World} {cs zs : List Value} (h : Stg w W cs zs) (hb : Below W.heap.size W w') (c : Nat) (v : Value) : ∃ W', W' = w'.setCell ⟨w.heap.size, c, none⟩ v ∧ Stg w W' (cs.set c v) zs ∧ Kp w.heap.size W.heap.size W W' ∧ W'.heap.size = w'.heap.size ∧ ∀ b, b ≠ w.heap.size → W'.heap[b]? = w'.heap[b]? := by
 have h' := h.old hb
 obtain ⟨W', e, x, sz, sm, bl⟩ := box_store h'.box c v
 exact ⟨W', e, ⟨x, h'.res.same (sm _ (by omega)), bl _ w (Nat.le_refl _) h'.bel, by rw [sz]; exact h'.siz⟩, ⟨by rw [sz]; exact hb.size, fun b h1 h2 => (sm b h2).trans (hb.block b h1)⟩, sz, sm⟩
/-- A store into a block that is neither the box nor the result's variable. -/
theorem Stg.far {w W W' : World} {cs zs : List Value} (h : Stg w W cs zs) (hs : W'.heap.size = W.heap.size) (hb : Below w.heap.size w W') (h1 : W'.heap[w.heap.size]? = W.heap[w.heap.size]?) (h2 : W'.heap[w.heap.size + 1]? = W.heap[w.heap.size + 1]?) : Stg w W' cs zs := ⟨h.box.same h1, h.res.same h2, hb, by rw [hs]; exact h.siz⟩
/-- Ints of the call's own, in blocks from lo on and below hi. -/
def OwnIn (lo hi : Nat) (w : World) (v : Value) (xs : List (List D)) : Prop := OwnI lo w v xs ∧ ∀ g, v.ownBlock = some g → g < hi
theorem OwnIn.kp {B lo hi : Nat} {w w' : World} {v : Value} {xs : List (List D)} (h : OwnIn lo hi w v xs) (hk : Kp B hi w w') (hB : B < lo) : OwnIn lo hi w' v xs :=
 ⟨OwnI.same h.1 (fun g hg => hk.2 g (h.2 g hg) (by have := (h.1.lt g hg).1; omega)), h.2⟩
/-- Flat elements of the call's own. -/
def OwnE (k : Nat) (t : TypeId) (e : List K) (lo hi : Nat) (w : World) (v : Value) (xs : List (List D)) : Prop := ∃ es : List (Cl k), w.ownsRow lo t k v es.length (es.flatMap Subtype.val) ∧ Es (fun _ => False) 0 w e es xs ∧ ∀ g, v.ownBlock = some g → g < hi
theorem OwnE.kp {k : Nat} {t : TypeId} {e : List K} {B lo hi : Nat} {w w' : World} {v : Value} {xs : List (List D)} (h : OwnE k t e lo hi w v xs) (hf : flatK e) (hk : Kp B hi w w') (hB : B < lo) : OwnE k t e lo hi w' v xs := by
 obtain ⟨es, h1, h2, h3⟩ := h
 exact ⟨es, ownsRow_same h1 (fun g hg => hk.2 g (h3 g hg) (by have := (h1.lt g hg).1; omega)), es_any hf h2, h3⟩
/-- Where what is only read may lie: in old memory, or in new blocks from lo on, but not in block g. -/
def Ft (F : Nat → Prop) (B lo : Nat) (g : Option Nat) (b : Nat) : Prop := (F b ∧ b < B) ∨ (lo ≤ b ∧ g ≠ some b)
/-- Elements that hold slices: the block is the call's own, the rest is only read. -/
def OwnX (k : Nat) (t : TypeId) (e : List K) (F : Nat → Prop) (L B lo hi : Nat) (w : World) (v : Value) (xs : List (List D)) : Prop := ∃ es : List (Cl k), w.ownsRow lo t k v es.length (es.flatMap Subtype.val) ∧ Es (Ft F B lo v.ownBlock) L w e es xs ∧ (∀ g, v.ownBlock = some g → g < hi) ∧ hi ≤ w.heap.size
/-- The size of a row's block. -/
def HdC (B : Nat) (t : TypeId) (k : Nat) (w : World) (g cap : Nat) : Prop := B ≤ g ∧ cap ≤ maxLen ∧ ∃ cur, w.heap[g]? = some (.cells cur t (0, 0)) ∧ cur.size = cap * k
theorem HdC.same {B : Nat} {t : TypeId} {k : Nat} {w w' : World} {g cap : Nat} (h : HdC B t k w g cap) (hb : w'.heap[g]? = w.heap[g]?) : HdC B t k w' g cap := by
 obtain ⟨h1, h2, cur, h3, h4⟩ := h
 exact ⟨h1, h2, cur, hb.trans h3, h4⟩
theorem HdC.set {B : Nat} {t : TypeId} {k : Nat} {w : World} {g cap : Nat} (h : HdC B t k w g cap) (o : Nat) (u : Value) : HdC B t k (w.setCell ⟨g, o, none⟩ u) g cap := by
 obtain ⟨h1, h2, cur, h3, h4⟩ := h
 refine ⟨h1, h2, cur.setIfInBounds o u, ?_, by rw [Array.size_setIfInBounds]; exact h4⟩
 simp only [World.setCell, Array.getElem?_modify]
 simp [h3]
theorem HdC.sets {B : Nat} {t : TypeId} {k g cap : Nat} : ∀ (us : List Value) (o : Nat) (w : World), HdC B t k w g cap → HdC B t k (w.setCells g o us) g cap
 | [], _, _, h => h
 | u :: r, o, _, h => HdC.sets r (o + 1) _ (h.set o u)
theorem hdC_of {B : Nat} {t : TypeId} {k n g cap : Nat} {w : World} {xs : List Value} (h : w.ownsRow B t k (.slice (some ⟨g, 0, none⟩) n cap) n xs) : HdC B t k w g cap := by
 rcases h.2 with ⟨hv, _⟩ | ⟨g', cap', cur, hv, hB, hg, hc, hm, hs, ht⟩
 ·cases hv
 ·simp only [Value.slice.injEq, Option.some.injEq, Addr.mk.injEq] at hv
  obtain ⟨⟨rfl, _⟩, _, rfl⟩ := hv
  exact ⟨hB, hm, cur, hg, hs⟩
theorem own_of {B : Nat} {t : TypeId} {k g cap : Nat} {w : World} {es : List (Cl k)} (h : BlkC k t w g es) (hh : HdC B t k w g cap) (hc : es.length ≤ cap) : w.ownsRow B t k (.slice (some ⟨g, 0, none⟩) es.length cap) es.length (es.flatMap Subtype.val) := by
 obtain ⟨h1, h2, cur, h3, h4⟩ := hh
 obtain ⟨cur', h5, h6, h7⟩ := h
 rw [h3] at h5
 obtain rfl : cur = cur' := by simpa using h5
 refine ⟨flat_len Cl.len es, .inr ⟨g, cap, cur, rfl, h1, h3, hc, h2, h4, ?_⟩⟩
 apply List.ext_getElem?
 intro i
 rw [List.getElem?_take]
 by_cases hi : i < es.length * k
 ·rw [if_pos hi]
  have hk : 0 < k := Nat.pos_of_ne_zero (fun e => by have h0 : es.length * k = 0 := Nat.mul_eq_zero.2 (.inr e); omega)
  have hq : i / k < es.length := Nat.div_lt_of_lt_mul (by rw [Nat.mul_comm]; exact hi)
  have hm : i % k < k := Nat.mod_lt _ hk
  have hij : i = i / k * k + i % k := by rw [Nat.mul_comm]; exact (Nat.div_add_mod i k).symm
  have hg := flat_get (enc := Subtype.val) Cl.len es (i / k) _ (List.getElem?_eq_getElem hq) (i % k) hm
  have hu : (es[i / k].1)[i % k]? = some ((es[i / k].1)[i % k]'(by rw [Cl.len]; exact hm)) := List.getElem?_eq_getElem _
  have := h7 (i / k) _ (List.getElem?_eq_getElem hq) (i % k) _ hu
  rw [← hij] at this hg
  rw [hg, hu, ← this, Array.getElem?_toList]
 ·rw [if_neg hi, List.getElem?_eq_none (by rw [flat_len Cl.len]; omega)]
/-- What a loop over the elements of a new block keeps. -/
structure LpI (F : Nat → Prop) (L B k : Nat) (t : TypeId) (e : List K) (W wr : World) (g n cap : Nat) (xs : List (List D)) : Prop where
 kp : Kp B W.heap.size W wr
 lp : n = 0 ∨ (n ≤ cap ∧ HdC W.heap.size t k wr g cap ∧ ∃ es : List (Cl k), es.length = n ∧ Lp (Ft F B W.heap.size (some g)) L k t e wr g es xs)
theorem LpI.old {F : Nat → Prop} {L B k : Nat} {t : TypeId} {e : List K} {W wr wr' : World} {g n cap : Nat} {xs : List (List D)} (h : LpI F L B k t e W wr g n cap xs) (hb : Below wr.heap.size wr wr') : LpI F L B k t e W wr' g n cap xs := by
 refine ⟨h.kp.trans ((Kp.of hb).mono h.kp.1), ?_⟩
 rcases h.lp with h | ⟨h1, h2, es, h3, h4⟩
 ·exact .inl h
 ·exact .inr ⟨h1, h2.same (hb.block g h4.blk.lt), es, h3, h4.old hb⟩
/-- n cells of element j, from cell o on. -/
structure PartAt (G : Nat → Prop) (L k : Nat) (e : List K) (w : World) (g : Nat) (xs : List (List D)) (j o n : Nat) (vs : List Value) (ds : List D) : Prop where
 rng : w.rangeAt g (j * k + o) vs
 len : vs.length = n
 rd : RdL G L w ((e.drop o).take n) vs ds
 glt : g < w.heap.size
 ds : ∃ x, xs[j]? = some x ∧ ds = (x.drop o).take n
theorem Lp.part {G : Nat → Prop} {L k : Nat} {t : TypeId} {e : List K} {w : World} {g : Nat} {es : List (Cl k)} {xs : List (List D)} (h : Lp G L k t e w g es xs) (j : Nat) (hj : j < es.length) (o n : Nat) (ho : o + n ≤ k) : ∃ vs ds, PartAt G L k e w g xs j o n vs ds := by
 have hx : j < xs.length := by rw [← h.es.len]; exact hj
 have hr := h.es.get j hj hx
 refine ⟨(es[j].1.drop o).take n, _, ?_, by rw [List.length_take, List.length_drop, Cl.len]; omega, (hr.drop o).take n, h.blk.lt, _, List.getElem?_eq_getElem hx, rfl⟩
 intro i u hu
 rw [List.getElem?_take] at hu
 split at hu
 ·rw [List.getElem?_drop] at hu
  have := h.blk.cell j _ (List.getElem?_eq_getElem hj) (o + i) u hu
  rwa [← Nat.add_assoc] at this
 ·cases hu
theorem Lp.there {G : Nat → Prop} {L k : Nat} {t : TypeId} {e : List K} {w : World} {g : Nat} {es : List (Cl k)} {xs : List (List D)} (h : Lp G L k t e w g es xs) (j : Nat) (hj : j < es.length) (o n : Nat) (ho : o + n ≤ k) : w.there g (j * k + o) n := fun i hi => by
 have hc := h.blk.cell j _ (List.getElem?_eq_getElem hj) (o + i) _ (List.getElem?_eq_getElem (show o + i < es[j].1.length by rw [Cl.len]; omega))
 rw [← Nat.add_assoc] at hc
 exact ⟨by rw [hc]; rfl, h.blk.frozen _⟩
theorem LpI.part {F : Nat → Prop} {L B k : Nat} {t : TypeId} {e : List K} {W wr : World} {g n cap : Nat} {xs : List (List D)} (h : LpI F L B k t e W wr g n cap xs) (j : Nat) (hj : j < n) (o m : Nat) (ho : o + m ≤ k) : (∃ vs ds, PartAt (Ft F B W.heap.size (some g)) L k e wr g xs j o m vs ds) ∧ wr.there g (j * k + o) m ∧ W.heap.size ≤ g := by
 rcases h.lp with h | ⟨h1, h2, es, h3, h4⟩
 ·omega
 ·exact ⟨Lp.part h4 j (by rw [h3]; exact hj) o m ho, Lp.there h4 j (by rw [h3]; exact hj) o m ho, h2.1⟩
theorem PartAt.one {G : Nat → Prop} {L k : Nat} {e : List K} {w : World} {g : Nat} {xs : List (List D)} {j o : Nat} {vs : List Value} {ds : List D} (h : PartAt G L k e w g xs j o 1 vs ds) {e' : List K} {by_ : Nat} (he : (e.drop o).take 1 = [.sl e' by_]) : ∃ m ms, vs = [m] ∧ ds = [.sl ms] ∧ RdC G L w (.sl e' by_) m (.sl ms) ∧ w.cell? ⟨g, j * k + o, none⟩ = some m := by
 have hr := h.rd
 have hg := h.rng
 rw [he] at hr
 match vs, ds, hr with
 | [m], [d], .cons h1 .nil =>
  have : ∃ ms, d = .sl ms := by cases h1 <;> exact ⟨_, rfl⟩
  obtain ⟨ms, rfl⟩ := this
  exact ⟨m, ms, rfl, rfl, h1, hg 0 m rfl⟩
/-- m cells of element j written anew; they read as before. -/
theorem LpI.put {F : Nat → Prop} {L B k : Nat} {t : TypeId} {e : List K} {W wr w' : World} {g n cap : Nat} {xs : List (List D)} {j o m : Nat} {vs : List Value} {ds : List D} (h : LpI F L B k t e W wr g n cap xs) (hj : j < n) (hp : PartAt (Ft F B W.heap.size (some g)) L k e wr g xs j o m vs ds) (hb : Below wr.heap.size wr w') (us : List Value) (hu : RdL (Ft F B W.heap.size (some g)) L w' ((e.drop o).take m) us ds) (hm : us.length = m) (ho : o + m ≤ k) : LpI F L B k t e W (w'.setCells g (j * k + o) us) g n cap xs := by
 have h' := h.old hb
 rcases h'.lp with h0 | ⟨h1, h2, es, h3, h4⟩
 ·omega
 ·obtain ⟨x, hx, rfl⟩ := hp.ds
  have hxl := (List.getElem?_eq_some_iff.1 hx).1
  rw [← (List.getElem?_eq_some_iff.1 hx).2] at hu
  obtain ⟨y, _, hy⟩ := h4.put j (by rw [h3]; exact hj) hxl o m us hu hm ho
  exact ⟨h'.kp.trans ⟨by rw [sets_size]; exact Nat.le_refl _, fun b hlt _ => heap_sets _ _ _ _ b (by have := h2.1; omega)⟩, .inr ⟨h1, h2.sets us _ _, es.set j y, by rw [List.length_set]; exact h3, hy⟩⟩
theorem ownX_of {F : Nat → Prop} {L B k : Nat} {t : TypeId} {e : List K} {W Ws wr : World} {g n cap : Nat} {p : Option Addr} {xs : List (List D)} {fs : List Value} (h : LpI F L B k t e W wr g n cap xs) (hg : n = 0 ∨ p = some ⟨g, 0, none⟩) (ho : Ws.ownsRow W.heap.size t k (.slice p n cap) n fs) (hx : xs.length = n) (hle : n = 0 → Ws.heap.size ≤ wr.heap.size) (hsame : n = 0 → ∀ b, W.heap.size ≤ b → b < Ws.heap.size → wr.heap[b]? = Ws.heap[b]?) : OwnX k t e F L B W.heap.size wr.heap.size wr (.slice p n cap) xs := by
 rcases h.lp with h0 | ⟨h1, h2, es, h3, h4⟩
 ·subst h0
  obtain rfl : xs = [] := List.eq_nil_of_length_eq_zero hx
  have hf : fs = [] := List.eq_nil_of_length_eq_zero (by rw [ho.1]; simp)
  subst hf
  exact ⟨[], ownsRow_same ho (fun g hg => hsame rfl g (ho.lt g hg).1 (ho.lt g hg).2), es_nil _ _ _ _ _, fun g hg => Nat.lt_of_lt_of_le (ho.lt g hg).2 (hle rfl), Nat.le_refl _⟩
 ·rcases hg with rfl | rfl
  ·obtain rfl : xs = [] := List.eq_nil_of_length_eq_zero hx
   obtain rfl : es = [] := List.eq_nil_of_length_eq_zero h3
   rcases ho.2 with ⟨hv, _⟩ | ⟨g', cap', cur, hv, hB, hgg, _⟩
   ·rw [hv]; exact ⟨[], World.ownsRow_nil _ _ _ _, es_nil _ _ _ _ _, (fun g hg => by cases hg), Nat.le_refl _⟩
   ·exact ⟨[], ownsRow_same (by have := ho.1; rw [Nat.zero_mul] at this; rw [List.eq_nil_of_length_eq_zero this] at ho; exact ho) (fun g hg => hsame rfl g (ho.lt g hg).1 (ho.lt g hg).2), es_nil _ _ _ _ _, fun g hg => Nat.lt_of_lt_of_le (ho.lt g hg).2 (hle rfl), Nat.le_refl _⟩
  ·subst h3
   exact ⟨es, own_of h4.blk h2 h1, h4.es, (fun g' hg => by cases hg; exact h4.blk.lt), Nat.le_refl _⟩
theorem OwnX.kp {k : Nat} {t : TypeId} {e : List K} {F : Nat → Prop} {L B B' lo hi : Nat} {w w' : World} {v : Value} {xs : List (List D)} (h : OwnX k t e F L B lo hi w v xs) (hk : Kp B' w.heap.size w w') (hB0 : B ≤ B') (hB : B' < lo) : OwnX k t e F L B lo hi w' v xs := by
 obtain ⟨es, h1, h2, h3, h4⟩ := h
 refine ⟨es, ownsRow_same h1 (fun g hg => hk.2 g (h1.lt g hg).2 (by have := (h1.lt g hg).1; omega)), h2.frame (Nat.le_refl _) hk.1 (fun b hb hlt => hk.2 b hlt (by rcases hb with hb | hb <;> omega)) (fun _ h _ => h), h3, Nat.le_trans h4 hk.1⟩
/-- A player whose lists are the call's own, in blocks from lo on and below hi. -/
structure PlEl (L lo hi : Nat) (w : World) (vs : List Value) (ds : List D) : Prop where
 own : ∃ v1 v2 v3, vs[11]? = some v1 ∧ vs[12]? = some v2 ∧ vs[13]? = some v3 ∧ OwnIn lo hi w v1 (dxs ds 11) ∧ OwnIn lo hi w v2 (dxs ds 12) ∧ OwnIn lo hi w v3 (dxs ds 13) ∧ Apart v1 v2 ∧ Apart v1 v3 ∧ Apart v2 v3
 rd : RdL (fun b => lo ≤ b ∧ b < hi) L w kPlayer vs ds
theorem PlEl.kp {L B lo hi : Nat} {w w' : World} {vs : List Value} {ds : List D} (h : PlEl L lo hi w vs ds) (hk : Kp B hi w w') (hB : B < lo) : PlEl L lo hi w' vs ds := by
 obtain ⟨⟨v1, v2, v3, e1, e2, e3, o1, o2, o3, a⟩, r⟩ := h
 exact ⟨⟨v1, v2, v3, e1, e2, e3, o1.kp hk hB, o2.kp hk hB, o3.kp hk hB, a⟩, r.frame (Nat.le_refl _) hk.1 (fun b hb _ => hk.2 b hb.2 (by omega)) (fun _ h _ => h)⟩
theorem set_same {α : Type} (l : List α) (i : Nat) (x : α) (h : l[i]? = some x) : l.set i x = l := by
 apply List.ext_getElem?
 intro j
 by_cases hj : j = i
 ·subst hj
  rw [List.getElem?_set_self (List.getElem?_eq_some_iff.1 h).1, h]
 ·rw [List.getElem?_set_ne (fun e => hj e.symm)]
theorem OwnI.rd {B : Nat} {w : World} {v : Value} {xs : List (List D)} (h : OwnI B w v xs) (G : Nat → Prop) (L : Nat) (hby : xs.length * 8 ≤ L) (hG : ∀ g, v.ownBlock = some g → g < w.heap.size → G g) : RdC G L w kInts v (.sl xs) := by
 obtain ⟨es, h1, h2⟩ := h
 exact rdC_of rfl (rowK_own Cl.len h1) (es_any (flat_ints 1) h2) hby hG
/-- copyPlayer's answer. -/
theorem plEl_of {F : Nat → Prop} {L : Nat} {cs cs' : List Value} {ds : List D} {w w' : World} {v1 v2 v3 : Value} (h : RdL F L w kPlayer cs ds) (hc : cs' = ((cs.set 11 v1).set 12 v2).set 13 v3) (ho : OwnP w.heap.size w' v1 v2 v3 ds) : PlEl L w.heap.size w'.heap.size w' cs' ds := by
 have hl := h.len.1
 rw [kPlayer_len] at hl
 obtain ⟨_, _, d1, r1⟩ := h.sl 11 _ _ rfl
 obtain ⟨_, _, d2, r2⟩ := h.sl 12 _ _ rfl
 obtain ⟨_, _, d3, r3⟩ := h.sl 13 _ _ rfl
 have b1 : (dxs ds 11).length * 8 ≤ L := by obtain ⟨_, _, _, h⟩ := r1.row (k := 1) rfl; exact h
 have b2 : (dxs ds 12).length * 8 ≤ L := by obtain ⟨_, _, _, h⟩ := r2.row (k := 1) rfl; exact h
 have b3 : (dxs ds 13).length * 8 ≤ L := by obtain ⟨_, _, _, h⟩ := r3.row (k := 1) rfl; exact h
 refine ⟨⟨v1, v2, v3, ?_, ?_, ?_, ⟨ho.o1, fun g hg => (ho.o1.lt g hg).2⟩, ⟨ho.o2, fun g hg => (ho.o2.lt g hg).2⟩, ⟨ho.o3, fun g hg => (ho.o3.lt g hg).2⟩, ho.a12, ho.a13, ho.a23⟩, ?_⟩
 ·rw [hc, List.getElem?_set, List.getElem?_set, List.getElem?_set]; simp [hl]
 ·rw [hc, List.getElem?_set, List.getElem?_set]; simp [hl]
 ·rw [hc, List.getElem?_set]; simp [hl]
 ·have ht := h.take 11
  have hta : RdL (fun b => w.heap.size ≤ b ∧ b < w'.heap.size) L w' (kPlayer.take 11) (cs.take 11) (ds.take 11) := ht.any (fun k hk => by
   have h : ∀ k ∈ kPlayer.take 11, (match k with
    | .lit _ => true
    | .sl _ _ => false) = true := by
    rw [← List.all_eq_true]
    rfl
   have := h k hk
   cases k with
   | lit l => exact ⟨l, rfl⟩
   | sl e b => cases this)
  have hdl := h.len.2
  rw [kPlayer_len] at hdl
  have q1 := ho.o1.rd (fun b => w.heap.size ≤ b ∧ b < w'.heap.size) L b1 (fun g hg hlt => ⟨(ho.o1.lt g hg).1, hlt⟩)
  have q2 := ho.o2.rd (fun b => w.heap.size ≤ b ∧ b < w'.heap.size) L b2 (fun g hg hlt => ⟨(ho.o2.lt g hg).1, hlt⟩)
  have q3 := ho.o3.rd (fun b => w.heap.size ≤ b ∧ b < w'.heap.size) L b3 (fun g hg hlt => ⟨(ho.o3.lt g hg).1, hlt⟩)
  have hall := hta.append (.cons q1 (.cons q2 (.cons q3 .nil)))
  have e1 : kPlayer.take 11 ++ [kInts, kInts, kInts] = kPlayer := by rfl
  have e2 : cs.take 11 ++ [v1, v2, v3] = cs' := by
   rw [hc]
   match cs, hl with
   | [c0, c1, c2, c3, c4, c5, c6, c7, c8, c9, c10, c11, c12, c13], _ => rfl
  have e3 : ds.take 11 ++ [.sl (dxs ds 11), .sl (dxs ds 12), .sl (dxs ds 13)] = ds := by
   match ds, hdl, d1, d2, d3 with
   | [c0, c1, c2, c3, c4, c5, c6, c7, c8, c9, c10, c11, c12, c13], _, h1, h2, h3 =>
    have g1 : c11 = .sl _ := Option.some.inj h1
    have g2 : c12 = .sl _ := Option.some.inj h2
    have g3 : c13 = .sl _ := Option.some.inj h3
    show [c0, c1, c2, c3, c4, c5, c6, c7, c8, c9, c10] ++ _ = _
    rw [← g1, ← g2, ← g3]
    rfl
  rw [e1, e2, e3] at hall
  exact hall
theorem OwnIn.mono {lo hi lo' hi' : Nat} {w : World} {v : Value} {xs : List (List D)} (h : OwnIn lo hi w v xs) (h1 : lo' ≤ lo) (h2 : hi ≤ hi') : OwnIn lo' hi' w v xs := ⟨h.1.low h1, fun g hg => Nat.lt_of_lt_of_le (h.2 g hg) h2⟩
theorem PlEl.mono {L lo hi lo' hi' : Nat} {w : World} {vs : List Value} {ds : List D} (h : PlEl L lo hi w vs ds) (h1 : lo' ≤ lo) (h2 : hi ≤ hi') : PlEl L lo' hi' w vs ds := by
 obtain ⟨⟨v1, v2, v3, e1, e2, e3, o1, o2, o3, a⟩, r⟩ := h
 exact ⟨⟨v1, v2, v3, e1, e2, e3, o1.mono h1 h2, o2.mono h1 h2, o3.mono h1 h2, a⟩, r.imp (fun b hb _ => ⟨by omega, by omega⟩)⟩
/-- The players of a state, the first i of them copied. -/
structure PlInv (F : Nat → Prop) (L B : Nat) (W : World) (g : Nat) (xs : List (List D)) (i : Nat) (es : List (Cl 14)) (a : Nat → Nat) : Prop where
 blk : BlkC 14 59 W g es
 len : es.length = xs.length
 glo : B + 2 ≤ g
 ga : g < a 0
 mon : ∀ j, a j ≤ a (j + 1)
 top : a i ≤ W.heap.size
 done : ∀ (j : Nat) (vs : Cl 14) (ds : List D), j < i → es[j]? = some vs → xs[j]? = some ds → PlEl L (a j) (a (j + 1)) W vs.1 ds
 todo : ∀ (j : Nat) (vs : Cl 14) (ds : List D), i ≤ j → es[j]? = some vs → xs[j]? = some ds → RdL (fun b => F b ∧ b < B) L W kPlayer vs.1 ds
theorem mon_le {a : Nat → Nat} (h : ∀ j, a j ≤ a (j + 1)) : ∀ {i j : Nat}, i ≤ j → a i ≤ a j := fun {i j} hij => by
 induction j with
 | zero => rw [Nat.le_zero.1 hij]; exact Nat.le_refl _
 | succ j ih =>
  by_cases e : i = j + 1
  ·rw [e]; exact Nat.le_refl _
  ·exact Nat.le_trans (ih (by omega)) (h j)
/-- Player i copied and stored. -/
theorem PlInv.step {F : Nat → Prop} {L B : Nat} {W W' : World} {g : Nat} {xs : List (List D)} {i : Nat} {es : List (Cl 14)} {a : Nat → Nat} (h : PlInv F L B W g xs i es a) (hi : i < xs.length) (hb : Below W.heap.size W W') (y : Cl 14) (hy : PlEl L W.heap.size W'.heap.size W' y.1 xs[i]) :
  ∃ a', PlInv F L B (W'.setCells g (i * 14) y.1) g xs (i + 1) (es.set i y) a' := by
 have hs : (W'.setCells g (i * 14) y.1).heap.size = W'.heap.size := sets_size _ _ _ _
 have ho : ∀ b, b ≠ g → (W'.setCells g (i * 14) y.1).heap[b]? = W'.heap[b]? := fun b hb => heap_sets _ _ _ _ b hb
 have hga : ∀ j, g < a j := fun j => Nat.lt_of_lt_of_le h.ga (mon_le h.mon (Nat.zero_le j))
 have kp : ∀ m, m ≤ W.heap.size → Kp g m W (W'.setCells g (i * 14) y.1) := fun m hm => ⟨by rw [hs]; exact hb.size, fun b h1 h2 => (ho b h2).trans (hb.block b (Nat.lt_of_lt_of_le h1 hm))⟩
 refine ⟨fun j => if j ≤ i then a j else W'.heap.size, BlkK.setCells Cl.len (h.blk.same (hb.block g h.blk.lt)) i (by rw [h.len]; exact hi) y, by rw [List.length_set]; exact h.len, h.glo, by simp only [if_pos (Nat.zero_le i)]; exact h.ga, fun j => ?_, ?_, fun j vs ds hj h1 h2 => ?_, fun j vs ds hj h1 h2 => ?_⟩
 ·by_cases c1 : j ≤ i
  ·by_cases c2 : j + 1 ≤ i
   ·rw [if_pos c1, if_pos c2]; exact h.mon j
   ·rw [if_pos c1, if_neg c2]
    have : j = i := by omega
    rw [this]
    exact Nat.le_trans h.top hb.size
  ·rw [if_neg c1, if_neg (by omega)]; exact Nat.le_refl _
 ·rw [if_neg (by omega), hs]; exact Nat.le_refl _
 ·by_cases e : j = i
  ·subst e
   rw [List.getElem?_set_self (by rw [h.len]; exact hi)] at h1
   obtain rfl := Option.some.inj h1
   rw [List.getElem?_eq_getElem hi] at h2
   obtain rfl := Option.some.inj h2
   rw [if_pos (Nat.le_refl _), if_neg (by omega)]
   exact (hy.kp (B := g) ⟨by rw [hs]; exact Nat.le_refl _, fun b _ hn => ho b hn⟩ h.blk.lt).mono h.top (Nat.le_refl _)
  ·rw [List.getElem?_set_ne (fun h => e h.symm)] at h1
   have hlt : j < i := by omega
   rw [if_pos (by omega), if_pos (by omega)]
   exact (h.done j vs ds hlt h1 h2).kp (B := g) (kp _ (Nat.le_trans (mon_le h.mon (by omega)) h.top)) (hga j)
 ·have e : ¬ i = j := by omega
  rw [List.getElem?_set_ne e] at h1
  exact (h.todo j vs ds (by omega) h1 h2).frame (Nat.le_refl _) (by rw [hs]; exact hb.size) (fun b hF hlt => (ho b (by have := h.glo; omega)).trans (hb.block b hlt)) (fun _ h _ => h)
/-- The players of a copied state. -/
def PlyOwn (L lo hi : Nat) (w : World) (v : Value) (xs : List (List D)) : Prop :=
 ∃ es : List (Cl 14), ∃ a : Nat → Nat, w.ownsRow lo 59 14 v es.length (es.flatMap Subtype.val) ∧ es.length = xs.length ∧ (∀ g, v.ownBlock = some g → g < a 0) ∧ (∀ j, a j ≤ a (j + 1)) ∧ a xs.length ≤ hi ∧ ∀ (j : Nat) (vs : Cl 14) (ds : List D), es[j]? = some vs → xs[j]? = some ds → PlEl L (a j) (a (j + 1)) w vs.1 ds
theorem PlyOwn.kp {L B lo hi : Nat} {w w' : World} {v : Value} {xs : List (List D)} (h : PlyOwn L lo hi w v xs) (hk : Kp B hi w w') (hB : B < lo) : PlyOwn L lo hi w' v xs := by
 obtain ⟨es, a, h1, h5, h6, h7, h8, h9⟩ := h
 have ha : ∀ j, j ≤ xs.length → a j ≤ hi := fun j hj => Nat.le_trans (mon_le h7 hj) h8
 refine ⟨es, a, ownsRow_same h1 (fun g hg => hk.2 g (by have := ha 0 (Nat.zero_le _); have := h6 g hg; omega) (by have := (h1.lt g hg).1; omega)), h5, h6, h7, h8, fun j vs ds e1 e2 => ?_⟩
 have hj := (List.getElem?_eq_some_iff.1 e2).1
 have := mon_le h7 (Nat.zero_le j)
 have hv : v.ownBlock ≠ none := by
  rcases h1.2 with ⟨_, h0⟩ | ⟨g, cap, cur, rfl, _⟩
  ·omega
  ·intro h; cases h
 obtain ⟨g, hg⟩ := Option.ne_none_iff_exists'.1 hv
 exact (h9 j vs ds e1 e2).kp (B := B) (hk.mono (ha (j + 1) hj)) (by have := (h1.lt g hg).1; have := h6 g hg; omega)
/-- A whole struct loaded, inside a region that draws its order. -/
theorem step_load_mid {P : Program} {ops : Array Oper} {op : Oper} {a : Act} {w : World} {K : Act → World → Prop} {Q : Exit → Act → World → Prop} {E : Prop} (hgd : op.guard = none) (ty : TypeId) (x : Operand) (ho : op.op = .load ty x)
  (b o : Nat) (hx : a.eval x = .pointer (some ⟨b, o, none⟩)) (cs : List Value) (d : TypeDesc) (hc : w.rangeAt b o cs)
  (hu : P.underlying ty = some d) (hd : d.isRow = true) (hi : (P.info? ty).map (·.size) = some cs.length)
  (h : K (a.put op.dst (.agg cs.toArray)) w) : if Region.wanted op (yielded ops a.tmps) = true then op.wp P a w K Q else E := by
 have hw : Region.wanted op (yielded ops a.tmps) = true := by simp [Region.wanted, hgd]
 rw [if_pos hw]
 exact wp_load_mid ty x ho b o hx cs d hc hu hd hi h
theorem step_store_mid {P : Program} {ops : Array Oper} {op : Oper} {a : Act} {w : World} {K : Act → World → Prop} {Q : Exit → Act → World → Prop} {E : Prop} (hgd : op.guard = none) (ty : TypeId) (x y : Operand) (ho : op.op = .store ty x y)
  (b o : Nat) (cs : List Value) (hx : a.eval x = .pointer (some ⟨b, o, none⟩)) (hy : a.eval y = .agg cs.toArray)
  (ht : w.there b o cs.length) (hi : (P.info? ty).map (·.size) = some cs.length) (h1 : ∀ u ∈ cs, u.oneCell' = true)
  (h : K (a.put op.dst undef) (w.setCells b o cs)) : if Region.wanted op (yielded ops a.tmps) = true then op.wp P a w K Q else E := by
 have hw : Region.wanted op (yielded ops a.tmps) = true := by simp [Region.wanted, hgd]
 rw [if_pos hw]
 exact wp_store_mid ty x y ho b o cs.toArray hx hy (by rw [List.size_toArray]; exact ht) (by rw [List.size_toArray]; exact hi) (all_oneCell_toArray h1) (by simpa using h)
end Go.Proofs.Ytiebjkbofoppaaa
end
section
namespace Go.Proofs.Ytiebjkbofoppaaa
open Go Go.RowKit Go.Sort Cg
/-- The part that a block plays. -/
inductive Role where
 | ply
 | lst (j i : Nat)
 | row (c : Nat)
 | cold
 | none
deriving DecidableEq
def kk : Nat → Nat
 | 1 => 19
 | 4 => 94
 | _ => 1
def tt : Nat → TypeId
 | 1 => 47
 | 4 => 83
 | _ => 3
def ee : Nat → List K
 | 1 => kObject
 | 4 => kItem
 | _ => kI 1
def bb : Nat → Nat
 | 1 => 128
 | 4 => 824
 | _ => 8
theorem ee_len (c : Nat) : (ee c).length = kk c := by
 unfold ee kk
 split <;> rfl
/-- A row of the call's own in a block that plays part r; what its elements hold is cold. -/
structure OwnR (ρ : Nat → Role) (r : Role) (L B k : Nat) (t : TypeId) (e : List K) (by_ : Nat) (w : World) (v : Value) (xs : List (List D)) : Prop where
 row : ∃ es : List (Cl k), w.ownsRow B t k v es.length (es.flatMap Subtype.val) ∧ Es (fun b => ρ b = .cold) L w e es xs
 role : ∀ g, v.ownBlock = some g → ρ g = r
 bytes : xs.length * by_ ≤ L
theorem OwnR.lt {ρ : Nat → Role} {r : Role} {L B k : Nat} {t : TypeId} {e : List K} {by_ : Nat} {w : World} {v : Value} {xs : List (List D)} (h : OwnR ρ r L B k t e by_ w v xs) : ∀ g, v.ownBlock = some g → B ≤ g ∧ g < w.heap.size := by
 obtain ⟨es, h1, _⟩ := h.row
 exact h1.lt
theorem OwnR.frame {ρ ρ' : Nat → Role} {r : Role} {L L' B k : Nat} {t : TypeId} {e : List K} {by_ : Nat} {w w' : World} {v : Value} {xs : List (List D)} (h : OwnR ρ r L B k t e by_ w v xs) (hL : L ≤ L') (hs : w.heap.size ≤ w'.heap.size) (hb : ∀ b, b < w.heap.size → (ρ b = r ∨ ρ b = .cold) → w'.heap[b]? = w.heap[b]?) (hr : ∀ b, b < w.heap.size → ρ' b = ρ b) : OwnR ρ' r L' B k t e by_ w' v xs := by
 obtain ⟨es, h1, h2⟩ := h.row
 exact ⟨⟨es, ownsRow_same h1 (fun g hg => hb g (h1.lt g hg).2 (.inl (h.role g hg))), h2.frame hL hs (fun b hc hlt => hb b hlt (.inr hc)) (fun b hc hlt => (hr b hlt).trans hc)⟩, fun g hg => (hr g (h.lt g hg).2).trans (h.role g hg), Nat.le_trans h.bytes hL⟩
theorem OwnR.rd {ρ : Nat → Role} {r : Role} {L B k : Nat} {t : TypeId} {e : List K} {by_ : Nat} {w : World} {v : Value} {xs : List (List D)} (h : OwnR ρ r L B k t e by_ w v xs) (hk : e.length = k) (G : Nat → Prop) (hG : ∀ b, ρ b = r ∨ ρ b = .cold → G b) : RdC G L w (.sl e by_) v (.sl xs) := by
 obtain ⟨es, h1, h2⟩ := h.row
 exact rdC_of hk (rowK_own Cl.len h1) (h2.frame (Nat.le_refl _) (Nat.le_refl _) (fun _ _ _ => rfl) (fun b hb _ => hG b (.inr hb))) h.bytes (fun g hg _ => hG g (.inl (h.role g hg)))
/-- Player j, the lists of the call's own. -/
structure PlR (ρ : Nat → Role) (L B j : Nat) (w : World) (vs : List Value) (ds : List D) : Prop where
 rd : RdL (fun _ => False) 0 w (kPlayer.take 11) (vs.take 11) (ds.take 11)
 len : vs.length = 14 ∧ ds.length = 14
 lst : ∀ i, i < 3 → ∃ v, vs[11 + i]? = some v ∧ ds[11 + i]? = some (.sl (dxs ds (11 + i))) ∧ OwnR ρ (.lst j i) L B 1 3 (kI 1) 8 w v (dxs ds (11 + i))
theorem flat11 : flatK (kPlayer.take 11) := fun k hk => by
 have h : ∀ k ∈ kPlayer.take 11, (match k with
  | .lit _ => true
  | .sl _ _ => false) = true := by
  rw [← List.all_eq_true]
  rfl
 have := h k hk
 cases k with
 | lit l => exact ⟨l, rfl⟩
 | sl e b => cases this
theorem PlR.frame {ρ ρ' : Nat → Role} {L L' B j : Nat} {w w' : World} {vs : List Value} {ds : List D} (h : PlR ρ L B j w vs ds) (hL : L ≤ L') (hs : w.heap.size ≤ w'.heap.size) (hb : ∀ b, b < w.heap.size → ((∃ i, i < 3 ∧ ρ b = .lst j i) ∨ ρ b = .cold) → w'.heap[b]? = w.heap[b]?) (hr : ∀ b, b < w.heap.size → ρ' b = ρ b) : PlR ρ' L' B j w' vs ds :=
 ⟨h.rd.any flat11, h.len, fun i hi => by
  obtain ⟨v, h1, h2, h3⟩ := h.lst i hi
  exact ⟨v, h1, h2, h3.frame hL hs (fun b hlt hc => hb b hlt (hc.imp (fun e => ⟨i, hi, e⟩) id)) hr⟩⟩
theorem PlR.all {ρ : Nat → Role} {L B j : Nat} {w : World} {vs : List Value} {ds : List D} (h : PlR ρ L B j w vs ds) (G : Nat → Prop) (hG : ∀ b, (∃ i, i < 3 ∧ ρ b = .lst j i) ∨ ρ b = .cold → G b) : RdL G L w kPlayer vs ds := by
 have q : ∀ i (hi : i < 3), ∃ v, vs[11 + i]? = some v ∧ ds[11 + i]? = some (.sl (dxs ds (11 + i))) ∧ RdC G L w kInts v (.sl (dxs ds (11 + i))) := fun i hi => by
  obtain ⟨v, h1, h2, h3⟩ := h.lst i hi
  exact ⟨v, h1, h2, h3.rd (by decide) G (fun b hb => hG b (hb.imp (fun e => ⟨i, hi, e⟩) id))⟩
 obtain ⟨v1, a1, b1, c1⟩ := q 0 (by omega)
 obtain ⟨v2, a2, b2, c2⟩ := q 1 (by omega)
 obtain ⟨v3, a3, b3, c3⟩ := q 2 (by omega)
 have hall := (h.rd.any (G := G) (M := L) (w' := w) flat11).append (.cons c1 (.cons c2 (.cons c3 .nil)))
 have e1 : kPlayer.take 11 ++ [kInts, kInts, kInts] = kPlayer := by rfl
 have e2 : vs.take 11 ++ [v1, v2, v3] = vs := by
  match vs, h.len.1, a1, a2, a3 with
  | [c0, c1, c2, c3, c4, c5, c6, c7, c8, c9, c10, c11, c12, c13], _, h1, h2, h3 =>
   have g1 : c11 = v1 := Option.some.inj h1
   have g2 : c12 = v2 := Option.some.inj h2
   have g3 : c13 = v3 := Option.some.inj h3
   subst g1 g2 g3
   rfl
 have e3 : ds.take 11 ++ [.sl (dxs ds 11), .sl (dxs ds 12), .sl (dxs ds 13)] = ds := by
  match ds, h.len.2, b1, b2, b3 with
  | [c0, c1, c2, c3, c4, c5, c6, c7, c8, c9, c10, c11, c12, c13], _, h1, h2, h3 =>
   have g1 : c11 = .sl _ := Option.some.inj h1
   have g2 : c12 = .sl _ := Option.some.inj h2
   have g3 : c13 = .sl _ := Option.some.inj h3
   show [c0, c1, c2, c3, c4, c5, c6, c7, c8, c9, c10] ++ _ = _
   rw [g1, g2, g3]
   rfl
 rw [e1, e2] at hall
 exact e3 ▸ hall
/-- The players of a state. -/
structure OwnPl (ρ : Nat → Role) (L B : Nat) (w : World) (v : Value) (xs : List (List D)) : Prop where
 row : ∃ es : List (Cl 14), w.ownsRow B 59 14 v es.length (es.flatMap Subtype.val) ∧ es.length = xs.length ∧ ∀ (j : Nat) (vs : Cl 14) (ds : List D), es[j]? = some vs → xs[j]? = some ds → PlR ρ L B j w vs.1 ds
 role : ∀ g, v.ownBlock = some g → ρ g = .ply
 bytes : xs.length * 152 ≤ L
theorem OwnPl.lt {ρ : Nat → Role} {L B : Nat} {w : World} {v : Value} {xs : List (List D)} (h : OwnPl ρ L B w v xs) : ∀ g, v.ownBlock = some g → B ≤ g ∧ g < w.heap.size := by
 obtain ⟨es, h1, _⟩ := h.row
 exact h1.lt
theorem OwnPl.frame {ρ ρ' : Nat → Role} {L L' B : Nat} {w w' : World} {v : Value} {xs : List (List D)} (h : OwnPl ρ L B w v xs) (hL : L ≤ L') (hs : w.heap.size ≤ w'.heap.size) (hb : ∀ b, b < w.heap.size → ((∃ j i, i < 3 ∧ ρ b = .lst j i) ∨ ρ b = .ply ∨ ρ b = .cold) → w'.heap[b]? = w.heap[b]?) (hr : ∀ b, b < w.heap.size → ρ' b = ρ b) : OwnPl ρ' L' B w' v xs := by
 obtain ⟨es, h1, h2, h3⟩ := h.row
 exact ⟨⟨es, ownsRow_same h1 (fun g hg => hb g (h1.lt g hg).2 (.inr (.inl (h.role g hg)))), h2, fun j vs ds e1 e2 => (h3 j vs ds e1 e2).frame hL hs (fun b hlt hc => hb b hlt (hc.elim (fun ⟨i, hi, e⟩ => .inl ⟨j, i, hi, e⟩) (fun e => .inr (.inr e)))) hr⟩, fun g hg => (hr g (h.lt g hg).2).trans (h.role g hg), Nat.le_trans h.bytes hL⟩
theorem OwnPl.rd {ρ : Nat → Role} {L B : Nat} {w : World} {v : Value} {xs : List (List D)} (h : OwnPl ρ L B w v xs) (G : Nat → Prop) (hG : ∀ b, (∃ j i, i < 3 ∧ ρ b = .lst j i) ∨ ρ b = .ply ∨ ρ b = .cold → G b) : RdC G L w (.sl kPlayer 152) v (.sl xs) := by
 obtain ⟨es, h1, h2, h3⟩ := h.row
 exact rdC_of (k := 14) rfl (rowK_own Cl.len h1) ⟨h2, fun j vs ds e1 e2 => (h3 j vs ds e1 e2).all G (fun b hb => hG b (hb.elim (fun ⟨i, hi, e⟩ => .inl ⟨j, i, hi, e⟩) (fun e => .inr (.inr e))))⟩ h.bytes (fun g hg _ => hG g (.inr (.inl (h.role g hg))))
/-- A state of the call's own. -/
structure OwnS (ρ : Nat → Role) (L B : Nat) (w : World) (cs : List Value) (ds : List D) : Prop where
 len : cs.length = 19 ∧ ds.length = 19
 ply : ∃ v, cs[0]? = some v ∧ ds[0]? = some (.sl (dxs ds 0)) ∧ OwnPl ρ L B w v (dxs ds 0)
 row : ∀ c, 1 ≤ c → c < 5 → ∃ v, cs[c]? = some v ∧ ds[c]? = some (.sl (dxs ds c)) ∧ OwnR ρ (.row c) L B (kk c) (tt c) (ee c) (bb c) w v (dxs ds c)
 rest : RdL (fun b => ρ b = .cold) L w (kState.drop 5) (cs.drop 5) (ds.drop 5)
theorem OwnS.rd {ρ : Nat → Role} {L B : Nat} {w : World} {cs : List Value} {ds : List D} (h : OwnS ρ L B w cs ds) : RdL (fun b => ρ b ≠ .none) L w kState cs ds := by
 obtain ⟨v0, a0, b0, c0⟩ := h.ply
 obtain ⟨v1, a1, b1, c1⟩ := h.row 1 (by omega) (by omega)
 obtain ⟨v2, a2, b2, c2⟩ := h.row 2 (by omega) (by omega)
 obtain ⟨v3, a3, b3, c3⟩ := h.row 3 (by omega) (by omega)
 obtain ⟨v4, a4, b4, c4⟩ := h.row 4 (by omega) (by omega)
 have r0 := c0.rd (fun b => ρ b ≠ .none) (fun b hb => by rcases hb with ⟨j, i, _, e⟩ | e | e <;> rw [e] <;> simp)
 have r1 := c1.rd (by decide) (fun b => ρ b ≠ .none) (fun b hb => by rcases hb with e | e <;> rw [e] <;> simp)
 have r2 := c2.rd (by decide) (fun b => ρ b ≠ .none) (fun b hb => by rcases hb with e | e <;> rw [e] <;> simp)
 have r3 := c3.rd (by decide) (fun b => ρ b ≠ .none) (fun b hb => by rcases hb with e | e <;> rw [e] <;> simp)
 have r4 := c4.rd (by decide) (fun b => ρ b ≠ .none) (fun b hb => by rcases hb with e | e <;> rw [e] <;> simp)
 have hall := RdL.append (.cons r0 (.cons r1 (.cons r2 (.cons r3 (.cons r4 .nil))))) (h.rest.imp (G := fun b => ρ b ≠ .none) (fun b hb _ => by rw [hb]; simp))
 have e1 : [K.sl kPlayer 152, .sl (ee 1) (bb 1), .sl (ee 2) (bb 2), .sl (ee 3) (bb 3), .sl (ee 4) (bb 4)] ++ kState.drop 5 = kState := by rfl
 have e2 : [v0, v1, v2, v3, v4] ++ cs.drop 5 = cs := by
  match cs, h.len.1, a0, a1, a2, a3, a4 with
  | q0 :: q1 :: q2 :: q3 :: q4 :: r, _, h0, h1, h2, h3, h4 =>
   have g0 : q0 = v0 := Option.some.inj h0
   have g1 : q1 = v1 := Option.some.inj h1
   have g2 : q2 = v2 := Option.some.inj h2
   have g3 : q3 = v3 := Option.some.inj h3
   have g4 : q4 = v4 := Option.some.inj h4
   subst g0 g1 g2 g3 g4
   rfl
 have e3 : [D.sl (dxs ds 0), .sl (dxs ds 1), .sl (dxs ds 2), .sl (dxs ds 3), .sl (dxs ds 4)] ++ ds.drop 5 = ds := by
  match ds, h.len.2, b0, b1, b2, b3, b4 with
  | q0 :: q1 :: q2 :: q3 :: q4 :: r, _, h0, h1, h2, h3, h4 =>
   have g0 : q0 = .sl _ := Option.some.inj h0
   have g1 : q1 = .sl _ := Option.some.inj h1
   have g2 : q2 = .sl _ := Option.some.inj h2
   have g3 : q3 = .sl _ := Option.some.inj h3
   have g4 : q4 = .sl _ := Option.some.inj h4
   show _ ++ r = _
   conv => rhs; rw [g0, g1, g2, g3, g4]
   rfl
 rw [e1, e2] at hall
 exact e3 ▸ hall
theorem ply_roles {L : Nat} {w : World} {es : List (Cl 14)} {xs : List (List D)} {a : Nat → Nat} (mon : ∀ j, a j ≤ a (j + 1)) (h9 : ∀ (j : Nat) (vs : Cl 14) (ds : List D), es[j]? = some vs → xs[j]? = some ds → PlEl L (a j) (a (j + 1)) w vs.1 ds) : ∀ n, ∃ ρ : Nat → Role, ∀ j, j < n → ∀ (vs : Cl 14) (ds : List D), es[j]? = some vs → xs[j]? = some ds → ∀ i, i < 3 → ∀ v, vs.1[11 + i]? = some v → ∀ g, v.ownBlock = some g → ρ g = .lst j i
 | 0 => ⟨fun _ => .none, fun j hj => absurd hj (Nat.not_lt_zero j)⟩
 | n + 1 => by
  obtain ⟨ρ, hρ⟩ := ply_roles mon h9 n
  cases hes : es[n]? with
  | none => exact ⟨ρ, fun j hj vs ds h1 h2 => by
    by_cases e : j = n
    ·subst e; rw [hes] at h1; cases h1
    ·exact hρ j (by omega) vs ds h1 h2⟩
  | some vn =>
   cases hxs : xs[n]? with
   | none => exact ⟨ρ, fun j hj vs ds h1 h2 => by
     by_cases e : j = n
     ·subst e; rw [hxs] at h2; cases h2
     ·exact hρ j (by omega) vs ds h1 h2⟩
   | some dn =>
    obtain ⟨⟨v1, v2, v3, e1, e2, e3, o1, o2, o3, a12, a13, a23⟩, _⟩ := h9 n vn dn hes hxs
    refine ⟨fun b => if b < a n then ρ b else if v1.ownBlock = some b then .lst n 0 else if v2.ownBlock = some b then .lst n 1 else .lst n 2, fun j hj vs ds h1 h2 i hi v hv g hg => ?_⟩
    by_cases e : j = n
    ·subst e
     rw [hes] at h1
     obtain rfl := Option.some.inj h1
     have key : ∀ (u : Value) (x : List (List D)), OwnIn (a j) (a (j + 1)) w u x → u.ownBlock = some g → ¬ g < a j := fun u x ho hu => Nat.not_lt.2 (ho.1.lt g hu).1
     rcases i with _ | _ | _ | i
     ·obtain rfl : v1 = v := Option.some.inj (e1.symm.trans hv)
      dsimp only
      rw [if_neg (key _ _ o1 hg), if_pos hg]
     ·obtain rfl : v2 = v := Option.some.inj (e2.symm.trans hv)
      dsimp only
      rw [if_neg (key _ _ o2 hg), if_neg (fun h => a12 g h hg), if_pos hg]
     ·obtain rfl : v3 = v := Option.some.inj (e3.symm.trans hv)
      dsimp only
      rw [if_neg (key _ _ o3 hg), if_neg (fun h => a13 g h hg), if_neg (fun h => a23 g h hg)]
     ·omega
    ·have hlt : g < a n := by
      obtain ⟨⟨u1, u2, u3, f1, f2, f3, q1, q2, q3, _⟩, _⟩ := h9 j vs ds h1 h2
      have hm := mon_le mon (show j + 1 ≤ n by omega)
      rcases i with _ | _ | _ | i
      ·obtain rfl : u1 = v := Option.some.inj (f1.symm.trans hv)
       have := q1.2 g hg; omega
      ·obtain rfl : u2 = v := Option.some.inj (f2.symm.trans hv)
       have := q2.2 g hg; omega
      ·obtain rfl : u3 = v := Option.some.inj (f3.symm.trans hv)
       have := q3.2 g hg; omega
      ·omega
     dsimp only
     rw [if_pos hlt]
     exact hρ j (by omega) vs ds h1 h2 i hi v hv g hg
theorem OwnX.cold {k : Nat} {t : TypeId} {e : List K} {F : Nat → Prop} {L B lo hi : Nat} {w : World} {v : Value} {xs : List (List D)} (h : OwnX k t e F L B lo hi w v xs) {by_ : Nat} (hk : e.length = k) (hby : xs.length * by_ ≤ L) (G : Nat → Prop) (hG1 : ∀ b, F b → b < B → G b) (hG2 : ∀ b, lo ≤ b → G b) : RdC G L w (.sl e by_) v (.sl xs) := by
 obtain ⟨es, h1, h2, _, _⟩ := h
 exact rdC_of hk (rowK_own Cl.len h1) (h2.frame (Nat.le_refl _) (Nat.le_refl _) (fun _ _ _ => rfl) (fun b hb _ => hb.elim (fun h => hG1 b h.1 h.2) (fun h => hG2 b h.1))) hby (fun g hg _ => hG2 g (h1.lt g hg).1)
theorem rd_bytes {F : Nat → Prop} {L : Nat} {w : World} {e : List K} {by_ : Nat} {v : Value} {xs : List (List D)} (h : RdC F L w (.sl e by_) v (.sl xs)) : xs.length * by_ ≤ L := by
 obtain ⟨_, _, _, _, h, _⟩ := h.form
 exact h
open Classical in
theorem ownS_of {F : Nat → Prop} {L B m1 m2 m3 m4 m5 m6 m7 m8 : Nat} {w0 w : World} {cs cs' : List Value} {ds : List D} {v0 v1 v2 v3 v4 v5 v6 v16 : Value} (hB : w0.heap.size = B)
  (P0 : PlyOwn L (B + 2) m1 w v0 (dxs ds 0)) (P1 : OwnE 19 47 kObject m1 m2 w v1 (dxs ds 1)) (P2 : OwnIn m2 m3 w v2 (dxs ds 2)) (P3 : OwnIn m3 m4 w v3 (dxs ds 3))
  (P4 : OwnX 94 83 kItem F L B m4 m5 w v4 (dxs ds 4)) (P5 : OwnX 89 92 kWaiting F L B m5 m6 w v5 (dxs ds 5)) (P6 : OwnX 6 94 kCont F L B m6 m7 w v6 (dxs ds 6)) (P7 : OwnIn m7 m8 w v16 (dxs ds 16))
  (hm1 : B + 2 ≤ m1) (hm2 : m1 ≤ m2) (hm3 : m2 ≤ m3) (hm4 : m3 ≤ m4) (hm5 : m4 ≤ m5) (hm6 : m5 ≤ m6) (hm7 : m6 ≤ m7) (hfl : flatK kObject)
  (h : RdL F L w0 kState cs ds) (hb : Below w0.heap.size w0 w) (hc : cs' = (((((((cs.set 0 v0).set 1 v1).set 2 v2).set 3 v3).set 4 v4).set 5 v5).set 6 v6).set 16 v16) : ∃ ρ, OwnS ρ L B w cs' ds ∧ ∀ b, b < B → ¬ F b → ρ b = .none := by
 obtain ⟨hl1, hl2⟩ := h.len
 rw [kState_len] at hl1 hl2
 obtain ⟨_, _, d0, r0⟩ := h.sl 0 _ _ rfl
 obtain ⟨_, _, d1, r1⟩ := h.sl 1 _ _ rfl
 obtain ⟨_, _, d2, r2⟩ := h.sl 2 _ _ rfl
 obtain ⟨_, _, d3, r3⟩ := h.sl 3 _ _ rfl
 obtain ⟨_, _, d4, r4⟩ := h.sl 4 _ _ rfl
 obtain ⟨_, _, d5, r5⟩ := h.sl 5 _ _ rfl
 obtain ⟨_, _, d6, r6⟩ := h.sl 6 _ _ rfl
 obtain ⟨_, _, d16, r16⟩ := h.sl 16 _ _ rfl
 obtain ⟨es0, a, o0, el0, a0, mon, top, h9⟩ := P0
 obtain ⟨es1, o1, x1, b1⟩ := P1
 obtain ⟨⟨es2, o2, x2⟩, b2⟩ := P2
 obtain ⟨⟨es3, o3, x3⟩, b3⟩ := P3
 have P4' := P4
 obtain ⟨es4, o4, x4, b4, _⟩ := P4
 obtain ⟨ρ0, hρ0⟩ := ply_roles mon h9 es0.length
 obtain ⟨ρ, hρ⟩ : ∃ ρ : Nat → Role, ρ = fun b => if b < B then (if F b then .cold else .none) else if v0.ownBlock = some b then .ply else if b < m1 then ρ0 b else if v1.ownBlock = some b then .row 1 else if v2.ownBlock = some b then .row 2 else if v3.ownBlock = some b then .row 3 else if v4.ownBlock = some b then .row 4 else .cold := ⟨_, rfl⟩
 have c0 : ∀ b, F b → b < B → ρ b = .cold := fun b hF hlt => by rw [hρ]; simp only [if_pos hlt, if_pos hF]
 have c1 : ∀ b, b < B → ¬ F b → ρ b = .none := fun b hlt hF => by rw [hρ]; simp only [if_pos hlt, if_neg hF]
 have hv0 : ∀ g, v0.ownBlock = some g → B + 2 ≤ g ∧ g < m1 := fun g hg => ⟨(o0.lt g hg).1, Nat.lt_of_lt_of_le (a0 g hg) (Nat.le_trans (mon_le mon (Nat.zero_le _)) top)⟩
 have hv1 : ∀ g, v1.ownBlock = some g → m1 ≤ g ∧ g < m2 := fun g hg => ⟨(o1.lt g hg).1, b1 g hg⟩
 have hv2 : ∀ g, v2.ownBlock = some g → m2 ≤ g ∧ g < m3 := fun g hg => ⟨(o2.lt g hg).1, b2 g hg⟩
 have hv3 : ∀ g, v3.ownBlock = some g → m3 ≤ g ∧ g < m4 := fun g hg => ⟨(o3.lt g hg).1, b3 g hg⟩
 have hv4 : ∀ g, v4.ownBlock = some g → m4 ≤ g ∧ g < m5 := fun g hg => ⟨(o4.lt g hg).1, b4 g hg⟩
 have n0 : ∀ b, m1 ≤ b → ¬ v0.ownBlock = some b := fun b hb he => by have := hv0 b he; omega
 have n1 : ∀ b, m2 ≤ b → ¬ v1.ownBlock = some b := fun b hb he => by have := hv1 b he; omega
 have n2 : ∀ b, m3 ≤ b → ¬ v2.ownBlock = some b := fun b hb he => by have := hv2 b he; omega
 have n3 : ∀ b, m4 ≤ b → ¬ v3.ownBlock = some b := fun b hb he => by have := hv3 b he; omega
 have n4 : ∀ b, m5 ≤ b → ¬ v4.ownBlock = some b := fun b hb he => by have := hv4 b he; omega
 have cold : ∀ b, m4 ≤ b → ¬ v4.ownBlock = some b → ρ b = .cold := fun b h1 h2 => by
  rw [hρ]
  simp only [if_neg (show ¬ b < B by omega), if_neg (n0 b (by omega)), if_neg (show ¬ b < m1 by omega), if_neg (n1 b (by omega)), if_neg (n2 b (by omega)), if_neg (n3 b (by omega)), if_neg h2]
 refine ⟨ρ, ⟨⟨by rw [hc]; simp only [List.length_set]; exact hl1, hl2⟩, ⟨v0, by rw [hc]; simp [hl1], d0, ⟨⟨es0, own_low o0 (by omega), el0, fun j vs dj e1 e2 => ?_⟩, fun g hg => ?_, (rd_bytes r0)⟩⟩, fun c hc1 hc5 => ?_, ?_⟩, c1⟩
 ·have P := h9 j vs dj e1 e2
  have hj := (List.getElem?_eq_some_iff.1 e1).1
  have hro := hρ0 j hj vs dj e1 e2
  have hlo : a 0 ≤ a j := mon_le mon (Nat.zero_le j)
  have hhi : a (j + 1) ≤ m1 := Nat.le_trans (mon_le mon (by rw [← el0]; exact hj)) top
  obtain ⟨⟨u1, u2, u3, f1, f2, f3, q1, q2, q3, _⟩, rd⟩ := P
  have key : ∀ i, i < 3 → ∀ u, vs.1[11 + i]? = some u → OwnIn (a j) (a (j + 1)) w u (dxs dj (11 + i)) → ∃ v, vs.1[11 + i]? = some v ∧ dj[11 + i]? = some (.sl (dxs dj (11 + i))) ∧ OwnR ρ (.lst j i) L B 1 3 (kI 1) 8 w v (dxs dj (11 + i)) := fun i hi u hu ho => by
   obtain ⟨_, _, hd, hr⟩ := rd.sl (11 + i) (kI 1) 8 (by rcases i with _ | _ | _ | i; rfl; rfl; rfl; omega)
   obtain ⟨⟨es, h1, h2⟩, h3⟩ := ho
   have hne : v0.ownBlock ≠ none := by
    rcases o0.2 with ⟨_, h0⟩ | ⟨g, cap, cur, rfl, _⟩
    ·omega
    ·intro h; cases h
   obtain ⟨gp, hgp⟩ := Option.ne_none_iff_exists'.1 hne
   have hgp0 := a0 gp hgp
   have hgp1 := hv0 gp hgp
   refine ⟨u, hu, hd, ⟨⟨es, own_low h1 (by omega), es_any (flat_ints 1) h2⟩, fun g hg => ?_, (rd_bytes hr)⟩⟩
   have hg1 := (h1.lt g hg).1
   have hg2 := h3 g hg
   rw [hρ]
   simp only [if_neg (show ¬ g < B by omega), if_neg (show ¬ v0.ownBlock = some g from fun h => by have := a0 g h; omega), if_pos (show g < m1 by omega)]
   exact hro i hi u hu g hg
  refine ⟨(rd.take 11).any flat11, ⟨vs.len, by rw [rd.len.2]; rfl⟩, fun i hi => ?_⟩
  rcases i with _ | _ | _ | i
  ·exact key 0 hi u1 f1 q1
  ·exact key 1 hi u2 f2 q2
  ·exact key 2 hi u3 f3 q3
  ·omega
 ·have := hv0 g hg
  rw [hρ]
  simp only [if_neg (show ¬ g < B by omega), if_pos hg]
 ·have nB : ∀ g, m1 ≤ g → ¬ g < B := fun g hg => by omega
  rcases c with _ | _ | _ | _ | _ | c
  ·omega
  ·refine ⟨v1, by rw [hc]; simp [hl1], d1, ⟨⟨es1, own_low o1 (by omega), es_any hfl x1⟩, fun g hg => ?_, (rd_bytes r1)⟩⟩
   have := hv1 g hg
   rw [hρ]
   simp only [if_neg (nB g (by omega)), if_neg (n0 g (by omega)), if_neg (show ¬ g < m1 by omega), if_pos hg]
  ·refine ⟨v2, by rw [hc]; simp [hl1], d2, ⟨⟨es2, own_low o2 (by omega), es_any (flat_ints 1) x2⟩, fun g hg => ?_, (rd_bytes r2)⟩⟩
   have := hv2 g hg
   rw [hρ]
   simp only [if_neg (nB g (by omega)), if_neg (n0 g (by omega)), if_neg (show ¬ g < m1 by omega), if_neg (n1 g (by omega)), if_pos hg]
  ·refine ⟨v3, by rw [hc]; simp [hl1], d3, ⟨⟨es3, own_low o3 (by omega), es_any (flat_ints 1) x3⟩, fun g hg => ?_, (rd_bytes r3)⟩⟩
   have := hv3 g hg
   rw [hρ]
   simp only [if_neg (nB g (by omega)), if_neg (n0 g (by omega)), if_neg (show ¬ g < m1 by omega), if_neg (n1 g (by omega)), if_neg (n2 g (by omega)), if_pos hg]
  ·refine ⟨v4, by rw [hc]; simp [hl1], d4, ⟨⟨es4, own_low o4 (by omega), x4.frame (Nat.le_refl _) (Nat.le_refl _) (fun _ _ _ => rfl) (fun b hb _ => hb.elim (fun h => c0 b h.1 h.2) (fun h => cold b h.1 h.2))⟩, fun g hg => ?_, (rd_bytes r4)⟩⟩
   have := hv4 g hg
   rw [hρ]
   simp only [if_neg (nB g (by omega)), if_neg (n0 g (by omega)), if_neg (show ¬ g < m1 by omega), if_neg (n1 g (by omega)), if_neg (n2 g (by omega)), if_neg (n3 g (by omega)), if_pos hg]
  ·omega
 ·have hr : RdL (fun b => ρ b = .cold) L w kState cs ds := h.frame (Nat.le_refl _) hb.size (fun b _ hlt => hb.block b hlt) (fun b hF hlt => c0 b hF (by omega))
  have q5 := P5.cold (by decide) (rd_bytes r5) (fun b => ρ b = .cold) c0 (fun b hb => cold b (by omega) (n4 b hb))
  have q6 := P6.cold (by decide) (rd_bytes r6) (fun b => ρ b = .cold) c0 (fun b hb => cold b (by omega) (n4 b (by omega)))
  have q16 := P7.1.rd (fun b => ρ b = .cold) L (rd_bytes r16) (fun g hg _ => by have := (P7.1.lt g hg).1; exact cold g (by omega) (n4 g (by omega)))
  have s5 := hr.set 5 _ v5 _ rfl q5
  have s6 := s5.set 6 _ v6 _ rfl q6
  have s16 := s6.set 16 _ v16 _ rfl q16
  rw [set_same ds 5 _ d5, set_same ds 6 _ d6, set_same ds 16 _ d16] at s16
  have := s16.drop 5
  have e : (((cs.set 5 v5).set 6 v6).set 16 v16).drop 5 = cs'.drop 5 := by
   rw [hc]
   simp [List.drop_set]
  rw [e] at this
  exact this
end Go.Proofs.Ytiebjkbofoppaaa
end
