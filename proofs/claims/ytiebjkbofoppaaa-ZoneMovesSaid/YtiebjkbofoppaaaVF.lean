/- Parts of the proof, joined: Trees of a shape; from the reading by shape to trees and back. No program in sight; Trees read out of memory by shape, where they are known. No program in sight; The program's types, as the evaluation on trees wants them; The program's records as structures, and their trees; Evaluation on trees: rows given up; contracts seen otherwise. No program in sight; Chapter 25, on trees: copies of the reference; Chapter 25, on trees: Copy of the reference; Chapter 25: what the functions compute, on records. No program in sight; Chapter 25, on trees: the reference finds, puts, lists; Chapter 25, on trees: the reference's lists; Chapter 25, on trees: Put of the reference; Chapter 25, on trees: Set of the reference; Chapter 25, on trees: a new object, a moved object; Chapter 25, on trees: an object removed; Chapter 25, on trees: Move of the reference; Chapter 25, on trees: Make of the reference; Move whole; Chapter 25: what the program's functions compute, on trees and on records, is the same (plain); Chapter 25: removing, moving and making, on trees and on records, is the same (plain); Chapter 25, on trees: the program's functions; Chapter 25: bounds of states; the arguments of the laws as records; Chapter 25: what Move does to a valid state (plain). -/
import Derived.Test.YtiebjkbofoppaaaME
import Derived.Test.YtiebjkbofoppaaaProg
import Derived.Shelf.Abstract
section
namespace Cg
open Go Go.RowKit Go.Sort Go.Lib
def limB : Nat := 140737488352256
mutual
def FitK : K → Tr → Prop
 | .lit .int, t => ∃ n, t = iv n
 | .lit .u64, t => ∃ n, t = .lit (.int .u64 n)
 | .lit .bool, t => ∃ b, t = bv b
 | .lit .str, t => ∃ s, t = sv s
 | .sl e by_, t => ∃ xs, t = .sl e.length xs ∧ xs.length * by_ ≤ limB ∧ ∀ ts ∈ xs, FitS e ts
def FitS : List K → List Tr → Prop
 | [], ts => ts = []
 | k :: ks, ts => ∃ t r, ts = t :: r ∧ FitK k t ∧ FitS ks r
end
mutual
def Tr.d : Tr → D
 | .lit v => .lit v
 | .sl _ xs => .sl (trE xs)
def trL : List Tr → List D
 | [] => []
 | t :: ts => t.d :: trL ts
def trE : List (List Tr) → List (List D)
 | [] => []
 | ts :: xs => trL ts :: trE xs
end
theorem trL_map (ts : List Tr) : trL ts = ts.map Tr.d := by
 induction ts with
 | nil => simp [trL]
 | cons t ts ih => simp [trL, ih]
theorem trE_map (xs : List (List Tr)) : trE xs = xs.map (fun ts => ts.map Tr.d) := by
 induction xs with
 | nil => simp [trE]
 | cons t ts ih => simp [trE, ih, trL_map]
theorem Tr.d_sl (k : Nat) (xs : List (List Tr)) : (Tr.sl k xs).d = .sl (xs.map fun ts => ts.map Tr.d) := by rw [Tr.d, trE_map]
theorem Tr.d_lit (v : Value) : (Tr.lit v).d = .lit v := by rw [Tr.d]
theorem fitK_lit {k : Lk} {t : Tr} : FitK (.lit k) t ↔ ∃ v, isLit k v ∧ t = .lit v := by
 cases k <;> rw [FitK] <;> constructor
 ·rintro ⟨n, rfl⟩; exact ⟨_, ⟨n, rfl⟩, rfl⟩
 ·rintro ⟨v, ⟨n, rfl⟩, rfl⟩; exact ⟨n, rfl⟩
 ·rintro ⟨n, rfl⟩; exact ⟨_, ⟨n, rfl⟩, rfl⟩
 ·rintro ⟨v, ⟨n, rfl⟩, rfl⟩; exact ⟨n, rfl⟩
 ·rintro ⟨n, rfl⟩; exact ⟨_, ⟨n, rfl⟩, rfl⟩
 ·rintro ⟨v, ⟨n, rfl⟩, rfl⟩; exact ⟨n, rfl⟩
 ·rintro ⟨n, rfl⟩; exact ⟨_, ⟨n, rfl⟩, rfl⟩
 ·rintro ⟨v, ⟨n, rfl⟩, rfl⟩; exact ⟨n, rfl⟩
theorem fitK_sl {e : List K} {by_ : Nat} {t : Tr} : FitK (.sl e by_) t ↔ ∃ xs, t = .sl e.length xs ∧ xs.length * by_ ≤ limB ∧ ∀ ts ∈ xs, FitS e ts := by rw [FitK]
theorem isLit_litV {k : Lk} {v : Value} (h : isLit k v) : litV v = true := by cases k <;> obtain ⟨n, rfl⟩ := h <;> rfl
theorem fitS_len : ∀ {ks : List K} {ts : List Tr}, FitS ks ts → ts.length = ks.length
 | [], ts, h => by
  rw [FitS] at h
  rw [h]
  rfl
 | k :: ks, ts, h => by
  rw [FitS] at h
  obtain ⟨t, r, rfl, _, h⟩ := h
  simp [fitS_len h]
theorem fitS_cons {k : K} {ks : List K} {ts : List Tr} : FitS (k :: ks) ts ↔ ∃ t r, ts = t :: r ∧ FitK k t ∧ FitS ks r := by rw [FitS]
theorem fitS_nil {ts : List Tr} : FitS [] ts ↔ ts = [] := by rw [FitS]
theorem fitK_int {t : Tr} : FitK (.lit .int) t ↔ ∃ n, t = iv n := by rw [FitK]
theorem fitK_u64 {t : Tr} : FitK (.lit .u64) t ↔ ∃ n, t = .lit (.int .u64 n) := by rw [FitK]
theorem fitK_bool {t : Tr} : FitK (.lit .bool) t ↔ ∃ b, t = bv b := by rw [FitK]
theorem fitK_str {t : Tr} : FitK (.lit .str) t ↔ ∃ s, t = sv s := by rw [FitK]
theorem fitS_append : ∀ {a b : List K} {ts : List Tr}, FitS (a ++ b) ts ↔ ∃ t1 t2, ts = t1 ++ t2 ∧ FitS a t1 ∧ FitS b t2
 | [], b, ts => by
  rw [List.nil_append]
  exact ⟨fun h => ⟨[], ts, rfl, fitS_nil.2 rfl, h⟩, fun ⟨t1, t2, h1, h2, h3⟩ => by
   rw [fitS_nil.1 h2] at h1
   rw [h1]
   exact h3⟩
 | k :: a, b, ts => by
  rw [List.cons_append, fitS_cons]
  constructor
  ·rintro ⟨t, r, rfl, h1, h2⟩
   obtain ⟨t1, t2, rfl, h3, h4⟩ := fitS_append.1 h2
   exact ⟨t :: t1, t2, rfl, fitS_cons.2 ⟨t, t1, rfl, h1, h3⟩, h4⟩
  ·rintro ⟨t1, t2, rfl, h1, h2⟩
   obtain ⟨t, r, rfl, h3, h4⟩ := fitS_cons.1 h1
   exact ⟨t, r ++ t2, rfl, h3, fitS_append.2 ⟨r, t2, rfl, h4, h2⟩⟩
/-- What reads by shape reads as a tree. -/
theorem rd_rt {F : Nat → Prop} {w : World} {k : K} {v : Value} {d : D} (h : RdC F limB w k v d) : ∃ t, FitK k t ∧ t.d = d ∧ RT F w v t := by
 refine RdC.rec (motive_1 := fun k v d _ => ∃ t, FitK k t ∧ t.d = d ∧ RT F w v t) (motive_2 := fun ks vs ds _ => ∃ ts, FitS ks ts ∧ ts.map Tr.d = ds ∧ RTL F w vs ts) (motive_3 := fun e b o xs _ => ∃ ys, (∀ ts ∈ ys, FitS e ts) ∧ ys.map (fun ts => ts.map Tr.d) = xs ∧ RTE F w e.length b o ys) ?_ ?_ ?_ ?_ ?_ ?_ ?_ h
 ·intro k v hl
  exact ⟨.lit v, fitK_lit.2 ⟨v, hl, rfl⟩, Tr.d_lit v, .lit (isLit_litV hl)⟩
 ·intro e by_ ao cap hc
  exact ⟨.sl e.length [], fitK_sl.2 ⟨[], rfl, by simp, fun ts h => by cases h⟩, by rw [Tr.d_sl]; rfl, .slNil hc⟩
 ·intro e by_ b o cap n xs h1 h2 h3 h4 h5 _ ih
  obtain ⟨ys, g1, g2, g3⟩ := ih
  have hl : ys.length = xs.length := by rw [← g2, List.length_map]
  exact ⟨.sl e.length ys, fitK_sl.2 ⟨ys, rfl, by rw [hl, ← h1]; exact h3, g1⟩, by rw [Tr.d_sl, g2], .slSome (by rw [hl]; exact h1) h2 h4 h5 g3⟩
 ·exact ⟨[], by rw [FitS], rfl, .nil⟩
 ·intro k v d ks vs ds _ _ ih1 ih2
  obtain ⟨t, g1, g2, g3⟩ := ih1
  obtain ⟨ts, g4, g5, g6⟩ := ih2
  exact ⟨t :: ts, by rw [FitS]; exact ⟨t, ts, rfl, g1, g4⟩, by rw [List.map_cons, g2, g5], .cons g3 g6⟩
 ·intro e b o
  exact ⟨[], fun ts h => (by cases h), rfl, .nil⟩
 ·intro e b o vs ds xs hc hL _ ih1 ih2
  obtain ⟨ts, g1, g2, g3⟩ := ih1
  obtain ⟨ys, g4, g5, g6⟩ := ih2
  refine ⟨ts :: ys, fun x hx => ?_, by rw [List.map_cons, g2, g5], .cons (g3.len.trans (fitS_len g1)) hc g3 g6⟩
  rcases List.mem_cons.1 hx with rfl | hx
  ·exact g1
  ·exact g4 x hx
theorem rdL_rt {F : Nat → Prop} {w : World} : ∀ {ks : List K} {vs : List Value} {ds : List D}, RdL F limB w ks vs ds → ∃ ts, FitS ks ts ∧ ts.map Tr.d = ds ∧ RTL F w vs ts
 | _, _, _, .nil => ⟨[], by rw [FitS], rfl, .nil⟩
 | _, _, _, .cons h1 h2 => by
  obtain ⟨t, g1, g2, g3⟩ := rd_rt h1
  obtain ⟨ts, g4, g5, g6⟩ := rdL_rt h2
  exact ⟨t :: ts, by rw [FitS]; exact ⟨t, ts, rfl, g1, g4⟩, by rw [List.map_cons, g2, g5], .cons g3 g6⟩
/-- And back. -/
theorem rt_rd {F : Nat → Prop} {w : World} {v : Value} {t : Tr} (h : RT F w v t) : ∀ {k : K}, FitK k t → RdC F limB w k v t.d := by
 refine RT.rec (motive_1 := fun v t _ => ∀ {k : K}, FitK k t → RdC F limB w k v t.d) (motive_2 := fun vs ts _ => ∀ {ks : List K}, FitS ks ts → RdL F limB w ks vs (ts.map Tr.d)) (motive_3 := fun k g o xs _ => ∀ {e : List K}, e.length = k → (∀ ts ∈ xs, FitS e ts) → RdE F limB w e g o (xs.map fun ts => ts.map Tr.d)) ?_ ?_ ?_ ?_ ?_ ?_ ?_ h
 ·intro v hl k hk
  cases k with
  | lit k =>
   obtain ⟨u, h1, h2⟩ := fitK_lit.1 hk
   cases h2
   rw [Tr.d_lit]
   exact .lit h1
  | sl e by_ =>
   obtain ⟨xs, h1, _⟩ := fitK_sl.1 hk
   cases h1
 ·intro k ao cap hc kk hk
  cases kk with
  | lit k =>
   obtain ⟨u, h1, h2⟩ := fitK_lit.1 hk
   cases h2
  | sl e by_ =>
   rw [Tr.d_sl]
   exact .slNil hc
 ·intro k g o n cap xs h1 h2 h3 h4 _ ih kk hk
  cases kk with
  | lit k =>
   obtain ⟨u, g1, g2⟩ := fitK_lit.1 hk
   cases g2
  | sl e by_ =>
   obtain ⟨ys, g1, g2, g3⟩ := fitK_sl.1 hk
   cases g1
   rw [Tr.d_sl]
   exact .slSome (by rw [List.length_map]; exact h1) h2 (by rw [h1]; exact g2) h3 h4 (ih rfl g3)
 ·intro ks hk
  cases ks with
  | nil => exact .nil
  | cons k ks =>
   rw [FitS] at hk
   obtain ⟨t, r, h, _⟩ := hk
   cases h
 ·intro v t vs ts _ _ ih1 ih2 ks hk
  cases ks with
  | nil =>
   rw [FitS] at hk
   cases hk
  | cons k ks =>
   rw [FitS] at hk
   obtain ⟨t', r, h, h1, h2⟩ := hk
   cases h
   exact .cons (ih1 h1) (ih2 h2)
 ·intro k g o e he _
  exact .nil
 ·intro k g o vs ts xs hl hc _ _ ih1 ih2 e he hx
  refine .cons hc (ih1 (hx ts List.mem_cons_self)) ?_
  rw [he]
  exact ih2 he fun t ht => hx t (List.mem_cons_of_mem _ ht)
theorem rtL_rd {F : Nat → Prop} {w : World} : ∀ {vs : List Value} {ts : List Tr}, RTL F w vs ts → ∀ {ks : List K}, FitS ks ts → RdL F limB w ks vs (ts.map Tr.d)
 | _, _, .nil, ks, hk => by
  cases ks with
  | nil => exact .nil
  | cons k ks =>
   rw [FitS] at hk
   obtain ⟨t, r, h, _⟩ := hk
   cases h
 | _, _, .cons h1 h2, ks, hk => by
  cases ks with
  | nil =>
   rw [FitS] at hk
   cases hk
  | cons k ks =>
   rw [FitS] at hk
   obtain ⟨t', r, h, g1, g2⟩ := hk
   cases h
   exact .cons (rt_rd h1 g1) (rtL_rd h2 g2)
/-- Trees of one shape that look the same are the same. -/
theorem fitS_list {α : Type} {enc : α → List Tr} {ok : α → Prop} {e : List K} (h : ∀ ts, FitS e ts → ∃ x, ok x ∧ ts = enc x) : ∀ {xs : List (List Tr)}, (∀ ts ∈ xs, FitS e ts) → ∃ l : List α, xs = l.map enc ∧ ∀ y ∈ l, ok y
 | [], _ => ⟨[], rfl, fun y h => by cases h⟩
 | ts :: xs, hx => by
  obtain ⟨x, h1, rfl⟩ := h ts (hx ts List.mem_cons_self)
  obtain ⟨l, rfl, h3⟩ := fitS_list h (xs := xs) fun t ht => hx t (List.mem_cons_of_mem _ ht)
  exact ⟨x :: l, rfl, fun y hy => by
   rcases List.mem_cons.1 hy with rfl | hy
   ·exact h1
   ·exact h3 y hy⟩
theorem fitS_map {α : Type} {enc : α → List Tr} {ok : α → Prop} {e : List K} (h : ∀ x, ok x → FitS e (enc x)) {l : List α} (hl : ∀ y ∈ l, ok y) : ∀ ts ∈ l.map enc, FitS e ts := fun ts ht => by
 obtain ⟨x, hx, rfl⟩ := List.mem_map.1 ht
 exact h x (hl x hx)
def encI (i : Int) : List Tr := [iv i]
theorem int_of_fit (ts : List Tr) (h : FitS [.lit .int] ts) : ∃ x : Int, True ∧ ts = encI x := by
 rw [FitS] at h
 obtain ⟨t, r, rfl, h1, h2⟩ := h
 rw [FitK] at h1
 rw [FitS] at h2
 obtain ⟨n, rfl⟩ := h1
 exact ⟨n, trivial, by rw [h2]; rfl⟩
theorem int_fit (x : Int) (_ : True) : FitS [.lit .int] (encI x) := by
 rw [FitS]
 exact ⟨iv x, [], rfl, by rw [FitK]; exact ⟨x, rfl⟩, by rw [FitS]⟩
end Cg
end
section
namespace Cg
open Go Go.RowKit
theorem rd_to {F : Nat → Prop} {L : Nat} {w : World} {k : K} {v : Value} {d : D} (h : RdC F L w k v d) : ∀ {t : Tr}, FitK k t → t.d = d → RT F w v t := by
 refine RdC.rec (motive_1 := fun k v d _ => ∀ {t : Tr}, FitK k t → t.d = d → RT F w v t) (motive_2 := fun ks vs ds _ => ∀ {ts : List Tr}, FitS ks ts → ts.map Tr.d = ds → RTL F w vs ts) (motive_3 := fun e b o xs _ => ∀ {ys : List (List Tr)}, (∀ ts ∈ ys, FitS e ts) → ys.map (fun ts => ts.map Tr.d) = xs → RTE F w e.length b o ys) ?_ ?_ ?_ ?_ ?_ ?_ ?_ h
 ·intro k v hl t hf hd
  obtain ⟨u, h1, rfl⟩ := fitK_lit.1 hf
  rw [Tr.d_lit] at hd
  cases hd
  exact .lit (isLit_litV h1)
 ·intro e by_ ao cap hc t hf hd
  obtain ⟨xs, rfl, _⟩ := fitK_sl.1 hf
  rw [Tr.d_sl] at hd
  have : xs = [] := by
   cases xs with
   | nil => rfl
   | cons x xs => simp at hd
  subst this
  exact .slNil hc
 ·intro e by_ b o cap n xs h1 h2 h3 h4 h5 _ ih t hf hd
  obtain ⟨ys, rfl, _, g⟩ := fitK_sl.1 hf
  rw [Tr.d_sl] at hd
  have hd : ys.map (fun ts => ts.map Tr.d) = xs := by injection hd
  have hl : ys.length = xs.length := by rw [← hd, List.length_map]
  exact .slSome (by rw [hl]; exact h1) h2 h4 h5 (ih g hd)
 ·intro ts hf hd
  rw [fitS_nil.1 hf]
  exact .nil
 ·intro k v d ks vs ds _ _ ih1 ih2 ts hf hd
  obtain ⟨t, r, rfl, g1, g2⟩ := fitS_cons.1 hf
  rw [List.map_cons] at hd
  injection hd with e1 e2
  exact .cons (ih1 g1 e1) (ih2 g2 e2)
 ·intro e b o ys _ hd
  have : ys = [] := by
   cases ys with
   | nil => rfl
   | cons x xs => simp at hd
  subst this
  exact .nil
 ·intro e b o vs ds xs hc hL _ ih1 ih2 ys hf hd
  cases ys with
  | nil => simp at hd
  | cons t ys =>
   rw [List.map_cons] at hd
   injection hd with e1 e2
   have g := ih1 (hf t List.mem_cons_self) e1
   exact .cons (g.len.trans (fitS_len (hf t List.mem_cons_self))) hc g (ih2 (fun x hx => hf x (List.mem_cons_of_mem _ hx)) e2)
theorem rdL_to {F : Nat → Prop} {L : Nat} {w : World} : ∀ {ks : List K} {vs : List Value} {ds : List D}, RdL F L w ks vs ds → ∀ {ts : List Tr}, FitS ks ts → ts.map Tr.d = ds → RTL F w vs ts
 | _, _, _, .nil, ts, hf, _ => by
  rw [fitS_nil.1 hf]
  exact .nil
 | _, _, _, .cons h1 h2, ts, hf, hd => by
  obtain ⟨t, r, rfl, g1, g2⟩ := fitS_cons.1 hf
  rw [List.map_cons] at hd
  injection hd with e1 e2
  exact .cons (rd_to h1 g1 e1) (rdL_to h2 g2 e2)
end Cg
end
section
namespace Go.Proofs.Ytiebjkbofoppaaa
open Go Cg
def tab : List (Nat × Ty) := [(2, ⟨.int .i64, 1, 8, [.t (.lit (.int .i64 0))], []⟩),
 (3, ⟨.int .i64, 1, 8, [.t (.lit (.int .i64 0))], []⟩),
 (4, ⟨.bas, 1, 1, [.t (.lit (.bool false))], [.bool]⟩),
 (5, ⟨.int .u8, 1, 1, [.t (.lit (.int .u8 0))], []⟩),
 (6, ⟨.int .u8, 1, 1, [.t (.lit (.int .u8 0))], []⟩),
 (9, ⟨.string, 1, 16, [.t (.lit (.string ⟨#[]⟩))], []⟩),
 (12, ⟨.int .u64, 1, 8, [.t (.lit (.int .u64 0))], []⟩),
 (21, ⟨.int .i32, 1, 4, [.t (.lit (.int .i32 0))], []⟩),
 (22, ⟨.slc 59, 1, 24, [.nil], []⟩),
 (23, ⟨.slc 47, 1, 24, [.nil], []⟩),
 (24, ⟨.slc 3, 1, 24, [.nil], []⟩),
 (25, ⟨.slc 83, 1, 24, [.nil], []⟩),
 (26, ⟨.slc 92, 1, 24, [.nil], []⟩),
 (27, ⟨.slc 94, 1, 24, [.nil], []⟩),
 (28, ⟨.int .u64, 1, 8, [.t (.lit (.int .u64 0))], []⟩),
 (29, ⟨.str [(0, 22), (1, 23), (2, 24), (3, 24), (4, 25), (5, 26), (6, 27), (7, 3), (8, 3), (9, 3), (10, 4), (11, 3), (12, 3), (13, 3), (14, 3), (15, 28), (16, 24), (17, 3), (18, 3)], 19, 280, [.nil, .nil, .nil, .nil, .nil, .nil, .nil, .t (.lit (.int .i64 0)), .t (.lit (.int .i64 0)), .t (.lit (.int .i64 0)), .t (.lit (.bool false)), .t (.lit (.int .i64 0)), .t (.lit (.int .i64 0)), .t (.lit (.int .i64 0)), .t (.lit (.int .i64 0)), .t (.lit (.int .u64 0)), .nil, .t (.lit (.int .i64 0)), .t (.lit (.int .i64 0))], []⟩),
 (30, ⟨.str [(0, 22), (1, 23), (2, 24), (3, 24), (4, 25), (5, 26), (6, 27), (7, 3), (8, 3), (9, 3), (10, 4), (11, 3), (12, 3), (13, 3), (14, 3), (15, 28), (16, 24), (17, 3), (18, 3)], 19, 280, [.nil, .nil, .nil, .nil, .nil, .nil, .nil, .t (.lit (.int .i64 0)), .t (.lit (.int .i64 0)), .t (.lit (.int .i64 0)), .t (.lit (.bool false)), .t (.lit (.int .i64 0)), .t (.lit (.int .i64 0)), .t (.lit (.int .i64 0)), .t (.lit (.int .i64 0)), .t (.lit (.int .u64 0)), .nil, .t (.lit (.int .i64 0)), .t (.lit (.int .i64 0))], []⟩),
 (36, ⟨.str [(0, 3), (1, 3), (2, 3), (3, 4)], 4, 32, [.t (.lit (.int .i64 0)), .t (.lit (.int .i64 0)), .t (.lit (.int .i64 0)), .t (.lit (.bool false))], [.int, .int, .int, .bool]⟩),
 (37, ⟨.str [(0, 3), (1, 3), (2, 3), (3, 4)], 4, 32, [.t (.lit (.int .i64 0)), .t (.lit (.int .i64 0)), .t (.lit (.int .i64 0)), .t (.lit (.bool false))], [.int, .int, .int, .bool]⟩),
 (45, ⟨.arr 3 3, 3, 24, [.t (.lit (.int .i64 0)), .t (.lit (.int .i64 0)), .t (.lit (.int .i64 0))], [.int, .int, .int]⟩),
 (46, ⟨.str [(0, 3), (1, 3), (2, 3), (3, 3), (4, 3), (5, 4), (6, 4), (7, 4), (8, 4), (9, 3), (10, 45), (13, 3), (14, 3), (15, 3), (16, 4), (17, 3), (18, 3)], 19, 128, [.t (.lit (.int .i64 0)), .t (.lit (.int .i64 0)), .t (.lit (.int .i64 0)), .t (.lit (.int .i64 0)), .t (.lit (.int .i64 0)), .t (.lit (.bool false)), .t (.lit (.bool false)), .t (.lit (.bool false)), .t (.lit (.bool false)), .t (.lit (.int .i64 0)), .t (.lit (.int .i64 0)), .t (.lit (.int .i64 0)), .t (.lit (.int .i64 0)), .t (.lit (.int .i64 0)), .t (.lit (.int .i64 0)), .t (.lit (.int .i64 0)), .t (.lit (.bool false)), .t (.lit (.int .i64 0)), .t (.lit (.int .i64 0))], [.int, .int, .int, .int, .int, .bool, .bool, .bool, .bool, .int, .int, .int, .int, .int, .int, .int, .bool, .int, .int]⟩),
 (47, ⟨.str [(0, 3), (1, 3), (2, 3), (3, 3), (4, 3), (5, 4), (6, 4), (7, 4), (8, 4), (9, 3), (10, 45), (13, 3), (14, 3), (15, 3), (16, 4), (17, 3), (18, 3)], 19, 128, [.t (.lit (.int .i64 0)), .t (.lit (.int .i64 0)), .t (.lit (.int .i64 0)), .t (.lit (.int .i64 0)), .t (.lit (.int .i64 0)), .t (.lit (.bool false)), .t (.lit (.bool false)), .t (.lit (.bool false)), .t (.lit (.bool false)), .t (.lit (.int .i64 0)), .t (.lit (.int .i64 0)), .t (.lit (.int .i64 0)), .t (.lit (.int .i64 0)), .t (.lit (.int .i64 0)), .t (.lit (.int .i64 0)), .t (.lit (.int .i64 0)), .t (.lit (.bool false)), .t (.lit (.int .i64 0)), .t (.lit (.int .i64 0))], [.int, .int, .int, .int, .int, .bool, .bool, .bool, .bool, .int, .int, .int, .int, .int, .int, .int, .bool, .int, .int]⟩),
 (56, ⟨.arr 6 3, 6, 48, [.t (.lit (.int .i64 0)), .t (.lit (.int .i64 0)), .t (.lit (.int .i64 0)), .t (.lit (.int .i64 0)), .t (.lit (.int .i64 0)), .t (.lit (.int .i64 0))], [.int, .int, .int, .int, .int, .int]⟩),
 (57, ⟨.arr 6 3, 6, 48, [.t (.lit (.int .i64 0)), .t (.lit (.int .i64 0)), .t (.lit (.int .i64 0)), .t (.lit (.int .i64 0)), .t (.lit (.int .i64 0)), .t (.lit (.int .i64 0))], [.int, .int, .int, .int, .int, .int]⟩),
 (58, ⟨.str [(0, 3), (1, 3), (2, 3), (3, 57), (9, 4), (10, 4), (11, 24), (12, 24), (13, 24)], 14, 152, [.t (.lit (.int .i64 0)), .t (.lit (.int .i64 0)), .t (.lit (.int .i64 0)), .t (.lit (.int .i64 0)), .t (.lit (.int .i64 0)), .t (.lit (.int .i64 0)), .t (.lit (.int .i64 0)), .t (.lit (.int .i64 0)), .t (.lit (.int .i64 0)), .t (.lit (.bool false)), .t (.lit (.bool false)), .nil, .nil, .nil], []⟩),
 (59, ⟨.str [(0, 3), (1, 3), (2, 3), (3, 57), (9, 4), (10, 4), (11, 24), (12, 24), (13, 24)], 14, 152, [.t (.lit (.int .i64 0)), .t (.lit (.int .i64 0)), .t (.lit (.int .i64 0)), .t (.lit (.int .i64 0)), .t (.lit (.int .i64 0)), .t (.lit (.int .i64 0)), .t (.lit (.int .i64 0)), .t (.lit (.int .i64 0)), .t (.lit (.int .i64 0)), .t (.lit (.bool false)), .t (.lit (.bool false)), .nil, .nil, .nil], []⟩),
 (61, ⟨.str [(0, 3), (1, 3)], 2, 16, [.t (.lit (.int .i64 0)), .t (.lit (.int .i64 0))], [.int, .int]⟩),
 (62, ⟨.str [(0, 3), (1, 3)], 2, 16, [.t (.lit (.int .i64 0)), .t (.lit (.int .i64 0))], [.int, .int]⟩),
 (63, ⟨.str [(0, 3), (1, 3), (2, 3), (3, 3), (4, 3), (5, 3), (6, 3), (7, 9), (8, 3), (9, 3), (10, 62), (12, 62), (14, 62)], 16, 136, [.t (.lit (.int .i64 0)), .t (.lit (.int .i64 0)), .t (.lit (.int .i64 0)), .t (.lit (.int .i64 0)), .t (.lit (.int .i64 0)), .t (.lit (.int .i64 0)), .t (.lit (.int .i64 0)), .t (.lit (.string ⟨#[]⟩)), .t (.lit (.int .i64 0)), .t (.lit (.int .i64 0)), .t (.lit (.int .i64 0)), .t (.lit (.int .i64 0)), .t (.lit (.int .i64 0)), .t (.lit (.int .i64 0)), .t (.lit (.int .i64 0)), .t (.lit (.int .i64 0))], [.int, .int, .int, .int, .int, .int, .int, .str, .int, .int, .int, .int, .int, .int, .int, .int]⟩),
 (64, ⟨.str [(0, 3), (1, 3), (2, 3), (3, 3), (4, 3), (5, 3), (6, 3), (7, 9), (8, 3), (9, 3), (10, 62), (12, 62), (14, 62)], 16, 136, [.t (.lit (.int .i64 0)), .t (.lit (.int .i64 0)), .t (.lit (.int .i64 0)), .t (.lit (.int .i64 0)), .t (.lit (.int .i64 0)), .t (.lit (.int .i64 0)), .t (.lit (.int .i64 0)), .t (.lit (.string ⟨#[]⟩)), .t (.lit (.int .i64 0)), .t (.lit (.int .i64 0)), .t (.lit (.int .i64 0)), .t (.lit (.int .i64 0)), .t (.lit (.int .i64 0)), .t (.lit (.int .i64 0)), .t (.lit (.int .i64 0)), .t (.lit (.int .i64 0))], [.int, .int, .int, .int, .int, .int, .int, .str, .int, .int, .int, .int, .int, .int, .int, .int]⟩),
 (65, ⟨.slc 113, 1, 24, [.nil], []⟩),
 (66, ⟨.arr 5 3, 5, 40, [.t (.lit (.int .i64 0)), .t (.lit (.int .i64 0)), .t (.lit (.int .i64 0)), .t (.lit (.int .i64 0)), .t (.lit (.int .i64 0))], [.int, .int, .int, .int, .int]⟩),
 (67, ⟨.str [(0, 3), (1, 3), (2, 66)], 7, 56, [.t (.lit (.int .i64 0)), .t (.lit (.int .i64 0)), .t (.lit (.int .i64 0)), .t (.lit (.int .i64 0)), .t (.lit (.int .i64 0)), .t (.lit (.int .i64 0)), .t (.lit (.int .i64 0))], [.int, .int, .int, .int, .int, .int, .int]⟩),
 (68, ⟨.str [(0, 3), (1, 3), (2, 66)], 7, 56, [.t (.lit (.int .i64 0)), .t (.lit (.int .i64 0)), .t (.lit (.int .i64 0)), .t (.lit (.int .i64 0)), .t (.lit (.int .i64 0)), .t (.lit (.int .i64 0)), .t (.lit (.int .i64 0))], [.int, .int, .int, .int, .int, .int, .int]⟩),
 (69, ⟨.str [(0, 68), (7, 4), (8, 4), (9, 3)], 10, 72, [.t (.lit (.int .i64 0)), .t (.lit (.int .i64 0)), .t (.lit (.int .i64 0)), .t (.lit (.int .i64 0)), .t (.lit (.int .i64 0)), .t (.lit (.int .i64 0)), .t (.lit (.int .i64 0)), .t (.lit (.bool false)), .t (.lit (.bool false)), .t (.lit (.int .i64 0))], [.int, .int, .int, .int, .int, .int, .int, .bool, .bool, .int]⟩),
 (70, ⟨.str [(0, 68), (7, 4), (8, 4), (9, 3)], 10, 72, [.t (.lit (.int .i64 0)), .t (.lit (.int .i64 0)), .t (.lit (.int .i64 0)), .t (.lit (.int .i64 0)), .t (.lit (.int .i64 0)), .t (.lit (.int .i64 0)), .t (.lit (.int .i64 0)), .t (.lit (.bool false)), .t (.lit (.bool false)), .t (.lit (.int .i64 0))], [.int, .int, .int, .int, .int, .int, .int, .bool, .bool, .int]⟩),
 (71, ⟨.str [(0, 3), (1, 3), (2, 64)], 18, 152, [.t (.lit (.int .i64 0)), .t (.lit (.int .i64 0)), .t (.lit (.int .i64 0)), .t (.lit (.int .i64 0)), .t (.lit (.int .i64 0)), .t (.lit (.int .i64 0)), .t (.lit (.int .i64 0)), .t (.lit (.int .i64 0)), .t (.lit (.int .i64 0)), .t (.lit (.string ⟨#[]⟩)), .t (.lit (.int .i64 0)), .t (.lit (.int .i64 0)), .t (.lit (.int .i64 0)), .t (.lit (.int .i64 0)), .t (.lit (.int .i64 0)), .t (.lit (.int .i64 0)), .t (.lit (.int .i64 0)), .t (.lit (.int .i64 0))], [.int, .int, .int, .int, .int, .int, .int, .int, .int, .str, .int, .int, .int, .int, .int, .int, .int, .int]⟩),
 (72, ⟨.str [(0, 3), (1, 3), (2, 64)], 18, 152, [.t (.lit (.int .i64 0)), .t (.lit (.int .i64 0)), .t (.lit (.int .i64 0)), .t (.lit (.int .i64 0)), .t (.lit (.int .i64 0)), .t (.lit (.int .i64 0)), .t (.lit (.int .i64 0)), .t (.lit (.int .i64 0)), .t (.lit (.int .i64 0)), .t (.lit (.string ⟨#[]⟩)), .t (.lit (.int .i64 0)), .t (.lit (.int .i64 0)), .t (.lit (.int .i64 0)), .t (.lit (.int .i64 0)), .t (.lit (.int .i64 0)), .t (.lit (.int .i64 0)), .t (.lit (.int .i64 0)), .t (.lit (.int .i64 0))], [.int, .int, .int, .int, .int, .int, .int, .int, .int, .str, .int, .int, .int, .int, .int, .int, .int, .int]⟩),
 (73, ⟨.slc 133, 1, 24, [.nil], []⟩),
 (74, ⟨.slc 121, 1, 24, [.nil], []⟩),
 (75, ⟨.str [(0, 3), (1, 3), (2, 64), (18, 3), (19, 3), (20, 3), (21, 3)], 22, 184, [.t (.lit (.int .i64 0)), .t (.lit (.int .i64 0)), .t (.lit (.int .i64 0)), .t (.lit (.int .i64 0)), .t (.lit (.int .i64 0)), .t (.lit (.int .i64 0)), .t (.lit (.int .i64 0)), .t (.lit (.int .i64 0)), .t (.lit (.int .i64 0)), .t (.lit (.string ⟨#[]⟩)), .t (.lit (.int .i64 0)), .t (.lit (.int .i64 0)), .t (.lit (.int .i64 0)), .t (.lit (.int .i64 0)), .t (.lit (.int .i64 0)), .t (.lit (.int .i64 0)), .t (.lit (.int .i64 0)), .t (.lit (.int .i64 0)), .t (.lit (.int .i64 0)), .t (.lit (.int .i64 0)), .t (.lit (.int .i64 0)), .t (.lit (.int .i64 0))], [.int, .int, .int, .int, .int, .int, .int, .int, .int, .str, .int, .int, .int, .int, .int, .int, .int, .int, .int, .int, .int, .int]⟩),
 (76, ⟨.str [(0, 3), (1, 3), (2, 64), (18, 3), (19, 3), (20, 3), (21, 3)], 22, 184, [.t (.lit (.int .i64 0)), .t (.lit (.int .i64 0)), .t (.lit (.int .i64 0)), .t (.lit (.int .i64 0)), .t (.lit (.int .i64 0)), .t (.lit (.int .i64 0)), .t (.lit (.int .i64 0)), .t (.lit (.int .i64 0)), .t (.lit (.int .i64 0)), .t (.lit (.string ⟨#[]⟩)), .t (.lit (.int .i64 0)), .t (.lit (.int .i64 0)), .t (.lit (.int .i64 0)), .t (.lit (.int .i64 0)), .t (.lit (.int .i64 0)), .t (.lit (.int .i64 0)), .t (.lit (.int .i64 0)), .t (.lit (.int .i64 0)), .t (.lit (.int .i64 0)), .t (.lit (.int .i64 0)), .t (.lit (.int .i64 0)), .t (.lit (.int .i64 0))], [.int, .int, .int, .int, .int, .int, .int, .int, .int, .str, .int, .int, .int, .int, .int, .int, .int, .int, .int, .int, .int, .int]⟩),
 (77, ⟨.str [(0, 3), (1, 64), (17, 65), (18, 70), (28, 4), (29, 72), (47, 4), (48, 73), (49, 74), (50, 76)], 72, 640, [.t (.lit (.int .i64 0)), .t (.lit (.int .i64 0)), .t (.lit (.int .i64 0)), .t (.lit (.int .i64 0)), .t (.lit (.int .i64 0)), .t (.lit (.int .i64 0)), .t (.lit (.int .i64 0)), .t (.lit (.int .i64 0)), .t (.lit (.string ⟨#[]⟩)), .t (.lit (.int .i64 0)), .t (.lit (.int .i64 0)), .t (.lit (.int .i64 0)), .t (.lit (.int .i64 0)), .t (.lit (.int .i64 0)), .t (.lit (.int .i64 0)), .t (.lit (.int .i64 0)), .t (.lit (.int .i64 0)), .nil, .t (.lit (.int .i64 0)), .t (.lit (.int .i64 0)), .t (.lit (.int .i64 0)), .t (.lit (.int .i64 0)), .t (.lit (.int .i64 0)), .t (.lit (.int .i64 0)), .t (.lit (.int .i64 0)), .t (.lit (.bool false)), .t (.lit (.bool false)), .t (.lit (.int .i64 0)), .t (.lit (.bool false)), .t (.lit (.int .i64 0)), .t (.lit (.int .i64 0)), .t (.lit (.int .i64 0)), .t (.lit (.int .i64 0)), .t (.lit (.int .i64 0)), .t (.lit (.int .i64 0)), .t (.lit (.int .i64 0)), .t (.lit (.int .i64 0)), .t (.lit (.int .i64 0)), .t (.lit (.string ⟨#[]⟩)), .t (.lit (.int .i64 0)), .t (.lit (.int .i64 0)), .t (.lit (.int .i64 0)), .t (.lit (.int .i64 0)), .t (.lit (.int .i64 0)), .t (.lit (.int .i64 0)), .t (.lit (.int .i64 0)), .t (.lit (.int .i64 0)), .t (.lit (.bool false)), .nil, .nil, .t (.lit (.int .i64 0)), .t (.lit (.int .i64 0)), .t (.lit (.int .i64 0)), .t (.lit (.int .i64 0)), .t (.lit (.int .i64 0)), .t (.lit (.int .i64 0)), .t (.lit (.int .i64 0)), .t (.lit (.int .i64 0)), .t (.lit (.int .i64 0)), .t (.lit (.string ⟨#[]⟩)), .t (.lit (.int .i64 0)), .t (.lit (.int .i64 0)), .t (.lit (.int .i64 0)), .t (.lit (.int .i64 0)), .t (.lit (.int .i64 0)), .t (.lit (.int .i64 0)), .t (.lit (.int .i64 0)), .t (.lit (.int .i64 0)), .t (.lit (.int .i64 0)), .t (.lit (.int .i64 0)), .t (.lit (.int .i64 0)), .t (.lit (.int .i64 0))], []⟩),
 (78, ⟨.str [(0, 3), (1, 64), (17, 65), (18, 70), (28, 4), (29, 72), (47, 4), (48, 73), (49, 74), (50, 76)], 72, 640, [.t (.lit (.int .i64 0)), .t (.lit (.int .i64 0)), .t (.lit (.int .i64 0)), .t (.lit (.int .i64 0)), .t (.lit (.int .i64 0)), .t (.lit (.int .i64 0)), .t (.lit (.int .i64 0)), .t (.lit (.int .i64 0)), .t (.lit (.string ⟨#[]⟩)), .t (.lit (.int .i64 0)), .t (.lit (.int .i64 0)), .t (.lit (.int .i64 0)), .t (.lit (.int .i64 0)), .t (.lit (.int .i64 0)), .t (.lit (.int .i64 0)), .t (.lit (.int .i64 0)), .t (.lit (.int .i64 0)), .nil, .t (.lit (.int .i64 0)), .t (.lit (.int .i64 0)), .t (.lit (.int .i64 0)), .t (.lit (.int .i64 0)), .t (.lit (.int .i64 0)), .t (.lit (.int .i64 0)), .t (.lit (.int .i64 0)), .t (.lit (.bool false)), .t (.lit (.bool false)), .t (.lit (.int .i64 0)), .t (.lit (.bool false)), .t (.lit (.int .i64 0)), .t (.lit (.int .i64 0)), .t (.lit (.int .i64 0)), .t (.lit (.int .i64 0)), .t (.lit (.int .i64 0)), .t (.lit (.int .i64 0)), .t (.lit (.int .i64 0)), .t (.lit (.int .i64 0)), .t (.lit (.int .i64 0)), .t (.lit (.string ⟨#[]⟩)), .t (.lit (.int .i64 0)), .t (.lit (.int .i64 0)), .t (.lit (.int .i64 0)), .t (.lit (.int .i64 0)), .t (.lit (.int .i64 0)), .t (.lit (.int .i64 0)), .t (.lit (.int .i64 0)), .t (.lit (.int .i64 0)), .t (.lit (.bool false)), .nil, .nil, .t (.lit (.int .i64 0)), .t (.lit (.int .i64 0)), .t (.lit (.int .i64 0)), .t (.lit (.int .i64 0)), .t (.lit (.int .i64 0)), .t (.lit (.int .i64 0)), .t (.lit (.int .i64 0)), .t (.lit (.int .i64 0)), .t (.lit (.int .i64 0)), .t (.lit (.string ⟨#[]⟩)), .t (.lit (.int .i64 0)), .t (.lit (.int .i64 0)), .t (.lit (.int .i64 0)), .t (.lit (.int .i64 0)), .t (.lit (.int .i64 0)), .t (.lit (.int .i64 0)), .t (.lit (.int .i64 0)), .t (.lit (.int .i64 0)), .t (.lit (.int .i64 0)), .t (.lit (.int .i64 0)), .t (.lit (.int .i64 0)), .t (.lit (.int .i64 0))], []⟩),
 (79, ⟨.slc 108, 1, 24, [.nil], []⟩),
 (80, ⟨.str [(0, 3), (1, 3), (2, 3), (3, 3), (4, 3), (5, 3), (6, 3), (7, 3), (8, 3), (9, 3), (10, 4), (11, 4), (12, 45)], 15, 112, [.t (.lit (.int .i64 0)), .t (.lit (.int .i64 0)), .t (.lit (.int .i64 0)), .t (.lit (.int .i64 0)), .t (.lit (.int .i64 0)), .t (.lit (.int .i64 0)), .t (.lit (.int .i64 0)), .t (.lit (.int .i64 0)), .t (.lit (.int .i64 0)), .t (.lit (.int .i64 0)), .t (.lit (.bool false)), .t (.lit (.bool false)), .t (.lit (.int .i64 0)), .t (.lit (.int .i64 0)), .t (.lit (.int .i64 0))], [.int, .int, .int, .int, .int, .int, .int, .int, .int, .int, .bool, .bool, .int, .int, .int]⟩),
 (81, ⟨.str [(0, 3), (1, 3), (2, 3), (3, 3), (4, 3), (5, 3), (6, 3), (7, 3), (8, 3), (9, 3), (10, 4), (11, 4), (12, 45)], 15, 112, [.t (.lit (.int .i64 0)), .t (.lit (.int .i64 0)), .t (.lit (.int .i64 0)), .t (.lit (.int .i64 0)), .t (.lit (.int .i64 0)), .t (.lit (.int .i64 0)), .t (.lit (.int .i64 0)), .t (.lit (.int .i64 0)), .t (.lit (.int .i64 0)), .t (.lit (.int .i64 0)), .t (.lit (.bool false)), .t (.lit (.bool false)), .t (.lit (.int .i64 0)), .t (.lit (.int .i64 0)), .t (.lit (.int .i64 0))], [.int, .int, .int, .int, .int, .int, .int, .int, .int, .int, .bool, .bool, .int, .int, .int]⟩),
 (82, ⟨.str [(0, 3), (1, 3), (2, 3), (3, 3), (4, 3), (5, 4), (6, 78), (78, 79), (79, 81)], 94, 824, [.t (.lit (.int .i64 0)), .t (.lit (.int .i64 0)), .t (.lit (.int .i64 0)), .t (.lit (.int .i64 0)), .t (.lit (.int .i64 0)), .t (.lit (.bool false)), .t (.lit (.int .i64 0)), .t (.lit (.int .i64 0)), .t (.lit (.int .i64 0)), .t (.lit (.int .i64 0)), .t (.lit (.int .i64 0)), .t (.lit (.int .i64 0)), .t (.lit (.int .i64 0)), .t (.lit (.int .i64 0)), .t (.lit (.string ⟨#[]⟩)), .t (.lit (.int .i64 0)), .t (.lit (.int .i64 0)), .t (.lit (.int .i64 0)), .t (.lit (.int .i64 0)), .t (.lit (.int .i64 0)), .t (.lit (.int .i64 0)), .t (.lit (.int .i64 0)), .t (.lit (.int .i64 0)), .nil, .t (.lit (.int .i64 0)), .t (.lit (.int .i64 0)), .t (.lit (.int .i64 0)), .t (.lit (.int .i64 0)), .t (.lit (.int .i64 0)), .t (.lit (.int .i64 0)), .t (.lit (.int .i64 0)), .t (.lit (.bool false)), .t (.lit (.bool false)), .t (.lit (.int .i64 0)), .t (.lit (.bool false)), .t (.lit (.int .i64 0)), .t (.lit (.int .i64 0)), .t (.lit (.int .i64 0)), .t (.lit (.int .i64 0)), .t (.lit (.int .i64 0)), .t (.lit (.int .i64 0)), .t (.lit (.int .i64 0)), .t (.lit (.int .i64 0)), .t (.lit (.int .i64 0)), .t (.lit (.string ⟨#[]⟩)), .t (.lit (.int .i64 0)), .t (.lit (.int .i64 0)), .t (.lit (.int .i64 0)), .t (.lit (.int .i64 0)), .t (.lit (.int .i64 0)), .t (.lit (.int .i64 0)), .t (.lit (.int .i64 0)), .t (.lit (.int .i64 0)), .t (.lit (.bool false)), .nil, .nil, .t (.lit (.int .i64 0)), .t (.lit (.int .i64 0)), .t (.lit (.int .i64 0)), .t (.lit (.int .i64 0)), .t (.lit (.int .i64 0)), .t (.lit (.int .i64 0)), .t (.lit (.int .i64 0)), .t (.lit (.int .i64 0)), .t (.lit (.int .i64 0)), .t (.lit (.string ⟨#[]⟩)), .t (.lit (.int .i64 0)), .t (.lit (.int .i64 0)), .t (.lit (.int .i64 0)), .t (.lit (.int .i64 0)), .t (.lit (.int .i64 0)), .t (.lit (.int .i64 0)), .t (.lit (.int .i64 0)), .t (.lit (.int .i64 0)), .t (.lit (.int .i64 0)), .t (.lit (.int .i64 0)), .t (.lit (.int .i64 0)), .t (.lit (.int .i64 0)), .nil, .t (.lit (.int .i64 0)), .t (.lit (.int .i64 0)), .t (.lit (.int .i64 0)), .t (.lit (.int .i64 0)), .t (.lit (.int .i64 0)), .t (.lit (.int .i64 0)), .t (.lit (.int .i64 0)), .t (.lit (.int .i64 0)), .t (.lit (.int .i64 0)), .t (.lit (.int .i64 0)), .t (.lit (.bool false)), .t (.lit (.bool false)), .t (.lit (.int .i64 0)), .t (.lit (.int .i64 0)), .t (.lit (.int .i64 0))], []⟩),
 (83, ⟨.str [(0, 3), (1, 3), (2, 3), (3, 3), (4, 3), (5, 4), (6, 78), (78, 79), (79, 81)], 94, 824, [.t (.lit (.int .i64 0)), .t (.lit (.int .i64 0)), .t (.lit (.int .i64 0)), .t (.lit (.int .i64 0)), .t (.lit (.int .i64 0)), .t (.lit (.bool false)), .t (.lit (.int .i64 0)), .t (.lit (.int .i64 0)), .t (.lit (.int .i64 0)), .t (.lit (.int .i64 0)), .t (.lit (.int .i64 0)), .t (.lit (.int .i64 0)), .t (.lit (.int .i64 0)), .t (.lit (.int .i64 0)), .t (.lit (.string ⟨#[]⟩)), .t (.lit (.int .i64 0)), .t (.lit (.int .i64 0)), .t (.lit (.int .i64 0)), .t (.lit (.int .i64 0)), .t (.lit (.int .i64 0)), .t (.lit (.int .i64 0)), .t (.lit (.int .i64 0)), .t (.lit (.int .i64 0)), .nil, .t (.lit (.int .i64 0)), .t (.lit (.int .i64 0)), .t (.lit (.int .i64 0)), .t (.lit (.int .i64 0)), .t (.lit (.int .i64 0)), .t (.lit (.int .i64 0)), .t (.lit (.int .i64 0)), .t (.lit (.bool false)), .t (.lit (.bool false)), .t (.lit (.int .i64 0)), .t (.lit (.bool false)), .t (.lit (.int .i64 0)), .t (.lit (.int .i64 0)), .t (.lit (.int .i64 0)), .t (.lit (.int .i64 0)), .t (.lit (.int .i64 0)), .t (.lit (.int .i64 0)), .t (.lit (.int .i64 0)), .t (.lit (.int .i64 0)), .t (.lit (.int .i64 0)), .t (.lit (.string ⟨#[]⟩)), .t (.lit (.int .i64 0)), .t (.lit (.int .i64 0)), .t (.lit (.int .i64 0)), .t (.lit (.int .i64 0)), .t (.lit (.int .i64 0)), .t (.lit (.int .i64 0)), .t (.lit (.int .i64 0)), .t (.lit (.int .i64 0)), .t (.lit (.bool false)), .nil, .nil, .t (.lit (.int .i64 0)), .t (.lit (.int .i64 0)), .t (.lit (.int .i64 0)), .t (.lit (.int .i64 0)), .t (.lit (.int .i64 0)), .t (.lit (.int .i64 0)), .t (.lit (.int .i64 0)), .t (.lit (.int .i64 0)), .t (.lit (.int .i64 0)), .t (.lit (.string ⟨#[]⟩)), .t (.lit (.int .i64 0)), .t (.lit (.int .i64 0)), .t (.lit (.int .i64 0)), .t (.lit (.int .i64 0)), .t (.lit (.int .i64 0)), .t (.lit (.int .i64 0)), .t (.lit (.int .i64 0)), .t (.lit (.int .i64 0)), .t (.lit (.int .i64 0)), .t (.lit (.int .i64 0)), .t (.lit (.int .i64 0)), .t (.lit (.int .i64 0)), .nil, .t (.lit (.int .i64 0)), .t (.lit (.int .i64 0)), .t (.lit (.int .i64 0)), .t (.lit (.int .i64 0)), .t (.lit (.int .i64 0)), .t (.lit (.int .i64 0)), .t (.lit (.int .i64 0)), .t (.lit (.int .i64 0)), .t (.lit (.int .i64 0)), .t (.lit (.int .i64 0)), .t (.lit (.bool false)), .t (.lit (.bool false)), .t (.lit (.int .i64 0)), .t (.lit (.int .i64 0)), .t (.lit (.int .i64 0))], []⟩),
 (91, ⟨.str [(0, 3), (1, 3), (2, 78), (74, 81)], 89, 768, [.t (.lit (.int .i64 0)), .t (.lit (.int .i64 0)), .t (.lit (.int .i64 0)), .t (.lit (.int .i64 0)), .t (.lit (.int .i64 0)), .t (.lit (.int .i64 0)), .t (.lit (.int .i64 0)), .t (.lit (.int .i64 0)), .t (.lit (.int .i64 0)), .t (.lit (.int .i64 0)), .t (.lit (.string ⟨#[]⟩)), .t (.lit (.int .i64 0)), .t (.lit (.int .i64 0)), .t (.lit (.int .i64 0)), .t (.lit (.int .i64 0)), .t (.lit (.int .i64 0)), .t (.lit (.int .i64 0)), .t (.lit (.int .i64 0)), .t (.lit (.int .i64 0)), .nil, .t (.lit (.int .i64 0)), .t (.lit (.int .i64 0)), .t (.lit (.int .i64 0)), .t (.lit (.int .i64 0)), .t (.lit (.int .i64 0)), .t (.lit (.int .i64 0)), .t (.lit (.int .i64 0)), .t (.lit (.bool false)), .t (.lit (.bool false)), .t (.lit (.int .i64 0)), .t (.lit (.bool false)), .t (.lit (.int .i64 0)), .t (.lit (.int .i64 0)), .t (.lit (.int .i64 0)), .t (.lit (.int .i64 0)), .t (.lit (.int .i64 0)), .t (.lit (.int .i64 0)), .t (.lit (.int .i64 0)), .t (.lit (.int .i64 0)), .t (.lit (.int .i64 0)), .t (.lit (.string ⟨#[]⟩)), .t (.lit (.int .i64 0)), .t (.lit (.int .i64 0)), .t (.lit (.int .i64 0)), .t (.lit (.int .i64 0)), .t (.lit (.int .i64 0)), .t (.lit (.int .i64 0)), .t (.lit (.int .i64 0)), .t (.lit (.int .i64 0)), .t (.lit (.bool false)), .nil, .nil, .t (.lit (.int .i64 0)), .t (.lit (.int .i64 0)), .t (.lit (.int .i64 0)), .t (.lit (.int .i64 0)), .t (.lit (.int .i64 0)), .t (.lit (.int .i64 0)), .t (.lit (.int .i64 0)), .t (.lit (.int .i64 0)), .t (.lit (.int .i64 0)), .t (.lit (.string ⟨#[]⟩)), .t (.lit (.int .i64 0)), .t (.lit (.int .i64 0)), .t (.lit (.int .i64 0)), .t (.lit (.int .i64 0)), .t (.lit (.int .i64 0)), .t (.lit (.int .i64 0)), .t (.lit (.int .i64 0)), .t (.lit (.int .i64 0)), .t (.lit (.int .i64 0)), .t (.lit (.int .i64 0)), .t (.lit (.int .i64 0)), .t (.lit (.int .i64 0)), .t (.lit (.int .i64 0)), .t (.lit (.int .i64 0)), .t (.lit (.int .i64 0)), .t (.lit (.int .i64 0)), .t (.lit (.int .i64 0)), .t (.lit (.int .i64 0)), .t (.lit (.int .i64 0)), .t (.lit (.int .i64 0)), .t (.lit (.int .i64 0)), .t (.lit (.int .i64 0)), .t (.lit (.bool false)), .t (.lit (.bool false)), .t (.lit (.int .i64 0)), .t (.lit (.int .i64 0)), .t (.lit (.int .i64 0))], []⟩),
 (92, ⟨.str [(0, 3), (1, 3), (2, 78), (74, 81)], 89, 768, [.t (.lit (.int .i64 0)), .t (.lit (.int .i64 0)), .t (.lit (.int .i64 0)), .t (.lit (.int .i64 0)), .t (.lit (.int .i64 0)), .t (.lit (.int .i64 0)), .t (.lit (.int .i64 0)), .t (.lit (.int .i64 0)), .t (.lit (.int .i64 0)), .t (.lit (.int .i64 0)), .t (.lit (.string ⟨#[]⟩)), .t (.lit (.int .i64 0)), .t (.lit (.int .i64 0)), .t (.lit (.int .i64 0)), .t (.lit (.int .i64 0)), .t (.lit (.int .i64 0)), .t (.lit (.int .i64 0)), .t (.lit (.int .i64 0)), .t (.lit (.int .i64 0)), .nil, .t (.lit (.int .i64 0)), .t (.lit (.int .i64 0)), .t (.lit (.int .i64 0)), .t (.lit (.int .i64 0)), .t (.lit (.int .i64 0)), .t (.lit (.int .i64 0)), .t (.lit (.int .i64 0)), .t (.lit (.bool false)), .t (.lit (.bool false)), .t (.lit (.int .i64 0)), .t (.lit (.bool false)), .t (.lit (.int .i64 0)), .t (.lit (.int .i64 0)), .t (.lit (.int .i64 0)), .t (.lit (.int .i64 0)), .t (.lit (.int .i64 0)), .t (.lit (.int .i64 0)), .t (.lit (.int .i64 0)), .t (.lit (.int .i64 0)), .t (.lit (.int .i64 0)), .t (.lit (.string ⟨#[]⟩)), .t (.lit (.int .i64 0)), .t (.lit (.int .i64 0)), .t (.lit (.int .i64 0)), .t (.lit (.int .i64 0)), .t (.lit (.int .i64 0)), .t (.lit (.int .i64 0)), .t (.lit (.int .i64 0)), .t (.lit (.int .i64 0)), .t (.lit (.bool false)), .nil, .nil, .t (.lit (.int .i64 0)), .t (.lit (.int .i64 0)), .t (.lit (.int .i64 0)), .t (.lit (.int .i64 0)), .t (.lit (.int .i64 0)), .t (.lit (.int .i64 0)), .t (.lit (.int .i64 0)), .t (.lit (.int .i64 0)), .t (.lit (.int .i64 0)), .t (.lit (.string ⟨#[]⟩)), .t (.lit (.int .i64 0)), .t (.lit (.int .i64 0)), .t (.lit (.int .i64 0)), .t (.lit (.int .i64 0)), .t (.lit (.int .i64 0)), .t (.lit (.int .i64 0)), .t (.lit (.int .i64 0)), .t (.lit (.int .i64 0)), .t (.lit (.int .i64 0)), .t (.lit (.int .i64 0)), .t (.lit (.int .i64 0)), .t (.lit (.int .i64 0)), .t (.lit (.int .i64 0)), .t (.lit (.int .i64 0)), .t (.lit (.int .i64 0)), .t (.lit (.int .i64 0)), .t (.lit (.int .i64 0)), .t (.lit (.int .i64 0)), .t (.lit (.int .i64 0)), .t (.lit (.int .i64 0)), .t (.lit (.int .i64 0)), .t (.lit (.int .i64 0)), .t (.lit (.bool false)), .t (.lit (.bool false)), .t (.lit (.int .i64 0)), .t (.lit (.int .i64 0)), .t (.lit (.int .i64 0))], []⟩),
 (93, ⟨.str [(0, 3), (1, 3), (2, 3), (3, 3), (4, 24), (5, 65)], 6, 80, [.t (.lit (.int .i64 0)), .t (.lit (.int .i64 0)), .t (.lit (.int .i64 0)), .t (.lit (.int .i64 0)), .nil, .nil], []⟩),
 (94, ⟨.str [(0, 3), (1, 3), (2, 3), (3, 3), (4, 24), (5, 65)], 6, 80, [.t (.lit (.int .i64 0)), .t (.lit (.int .i64 0)), .t (.lit (.int .i64 0)), .t (.lit (.int .i64 0)), .nil, .nil], []⟩),
 (107, ⟨.str [(0, 3), (1, 3)], 2, 16, [.t (.lit (.int .i64 0)), .t (.lit (.int .i64 0))], [.int, .int]⟩),
 (108, ⟨.str [(0, 3), (1, 3)], 2, 16, [.t (.lit (.int .i64 0)), .t (.lit (.int .i64 0))], [.int, .int]⟩),
 (112, ⟨.str [(0, 3), (1, 3), (2, 3), (3, 9), (4, 64)], 20, 176, [.t (.lit (.int .i64 0)), .t (.lit (.int .i64 0)), .t (.lit (.int .i64 0)), .t (.lit (.string ⟨#[]⟩)), .t (.lit (.int .i64 0)), .t (.lit (.int .i64 0)), .t (.lit (.int .i64 0)), .t (.lit (.int .i64 0)), .t (.lit (.int .i64 0)), .t (.lit (.int .i64 0)), .t (.lit (.int .i64 0)), .t (.lit (.string ⟨#[]⟩)), .t (.lit (.int .i64 0)), .t (.lit (.int .i64 0)), .t (.lit (.int .i64 0)), .t (.lit (.int .i64 0)), .t (.lit (.int .i64 0)), .t (.lit (.int .i64 0)), .t (.lit (.int .i64 0)), .t (.lit (.int .i64 0))], [.int, .int, .int, .str, .int, .int, .int, .int, .int, .int, .int, .str, .int, .int, .int, .int, .int, .int, .int, .int]⟩),
 (113, ⟨.str [(0, 3), (1, 3), (2, 3), (3, 9), (4, 64)], 20, 176, [.t (.lit (.int .i64 0)), .t (.lit (.int .i64 0)), .t (.lit (.int .i64 0)), .t (.lit (.string ⟨#[]⟩)), .t (.lit (.int .i64 0)), .t (.lit (.int .i64 0)), .t (.lit (.int .i64 0)), .t (.lit (.int .i64 0)), .t (.lit (.int .i64 0)), .t (.lit (.int .i64 0)), .t (.lit (.int .i64 0)), .t (.lit (.string ⟨#[]⟩)), .t (.lit (.int .i64 0)), .t (.lit (.int .i64 0)), .t (.lit (.int .i64 0)), .t (.lit (.int .i64 0)), .t (.lit (.int .i64 0)), .t (.lit (.int .i64 0)), .t (.lit (.int .i64 0)), .t (.lit (.int .i64 0))], [.int, .int, .int, .str, .int, .int, .int, .int, .int, .int, .int, .str, .int, .int, .int, .int, .int, .int, .int, .int]⟩),
 (116, ⟨.str [(0, 3), (1, 3), (2, 64)], 18, 152, [.t (.lit (.int .i64 0)), .t (.lit (.int .i64 0)), .t (.lit (.int .i64 0)), .t (.lit (.int .i64 0)), .t (.lit (.int .i64 0)), .t (.lit (.int .i64 0)), .t (.lit (.int .i64 0)), .t (.lit (.int .i64 0)), .t (.lit (.int .i64 0)), .t (.lit (.string ⟨#[]⟩)), .t (.lit (.int .i64 0)), .t (.lit (.int .i64 0)), .t (.lit (.int .i64 0)), .t (.lit (.int .i64 0)), .t (.lit (.int .i64 0)), .t (.lit (.int .i64 0)), .t (.lit (.int .i64 0)), .t (.lit (.int .i64 0))], [.int, .int, .int, .int, .int, .int, .int, .int, .int, .str, .int, .int, .int, .int, .int, .int, .int, .int]⟩),
 (117, ⟨.str [(0, 3), (1, 3), (2, 64)], 18, 152, [.t (.lit (.int .i64 0)), .t (.lit (.int .i64 0)), .t (.lit (.int .i64 0)), .t (.lit (.int .i64 0)), .t (.lit (.int .i64 0)), .t (.lit (.int .i64 0)), .t (.lit (.int .i64 0)), .t (.lit (.int .i64 0)), .t (.lit (.int .i64 0)), .t (.lit (.string ⟨#[]⟩)), .t (.lit (.int .i64 0)), .t (.lit (.int .i64 0)), .t (.lit (.int .i64 0)), .t (.lit (.int .i64 0)), .t (.lit (.int .i64 0)), .t (.lit (.int .i64 0)), .t (.lit (.int .i64 0)), .t (.lit (.int .i64 0))], [.int, .int, .int, .int, .int, .int, .int, .int, .int, .str, .int, .int, .int, .int, .int, .int, .int, .int]⟩),
 (118, ⟨.str [(0, 3), (1, 3), (2, 3), (3, 64)], 19, 160, [.t (.lit (.int .i64 0)), .t (.lit (.int .i64 0)), .t (.lit (.int .i64 0)), .t (.lit (.int .i64 0)), .t (.lit (.int .i64 0)), .t (.lit (.int .i64 0)), .t (.lit (.int .i64 0)), .t (.lit (.int .i64 0)), .t (.lit (.int .i64 0)), .t (.lit (.int .i64 0)), .t (.lit (.string ⟨#[]⟩)), .t (.lit (.int .i64 0)), .t (.lit (.int .i64 0)), .t (.lit (.int .i64 0)), .t (.lit (.int .i64 0)), .t (.lit (.int .i64 0)), .t (.lit (.int .i64 0)), .t (.lit (.int .i64 0)), .t (.lit (.int .i64 0))], [.int, .int, .int, .int, .int, .int, .int, .int, .int, .int, .str, .int, .int, .int, .int, .int, .int, .int, .int]⟩),
 (119, ⟨.str [(0, 3), (1, 3), (2, 3), (3, 64)], 19, 160, [.t (.lit (.int .i64 0)), .t (.lit (.int .i64 0)), .t (.lit (.int .i64 0)), .t (.lit (.int .i64 0)), .t (.lit (.int .i64 0)), .t (.lit (.int .i64 0)), .t (.lit (.int .i64 0)), .t (.lit (.int .i64 0)), .t (.lit (.int .i64 0)), .t (.lit (.int .i64 0)), .t (.lit (.string ⟨#[]⟩)), .t (.lit (.int .i64 0)), .t (.lit (.int .i64 0)), .t (.lit (.int .i64 0)), .t (.lit (.int .i64 0)), .t (.lit (.int .i64 0)), .t (.lit (.int .i64 0)), .t (.lit (.int .i64 0)), .t (.lit (.int .i64 0))], [.int, .int, .int, .int, .int, .int, .int, .int, .int, .int, .str, .int, .int, .int, .int, .int, .int, .int, .int]⟩),
 (120, ⟨.str [(0, 3), (1, 117), (19, 119), (38, 3), (39, 3), (40, 9), (41, 64), (57, 57), (63, 65)], 64, 560, [.t (.lit (.int .i64 0)), .t (.lit (.int .i64 0)), .t (.lit (.int .i64 0)), .t (.lit (.int .i64 0)), .t (.lit (.int .i64 0)), .t (.lit (.int .i64 0)), .t (.lit (.int .i64 0)), .t (.lit (.int .i64 0)), .t (.lit (.int .i64 0)), .t (.lit (.int .i64 0)), .t (.lit (.string ⟨#[]⟩)), .t (.lit (.int .i64 0)), .t (.lit (.int .i64 0)), .t (.lit (.int .i64 0)), .t (.lit (.int .i64 0)), .t (.lit (.int .i64 0)), .t (.lit (.int .i64 0)), .t (.lit (.int .i64 0)), .t (.lit (.int .i64 0)), .t (.lit (.int .i64 0)), .t (.lit (.int .i64 0)), .t (.lit (.int .i64 0)), .t (.lit (.int .i64 0)), .t (.lit (.int .i64 0)), .t (.lit (.int .i64 0)), .t (.lit (.int .i64 0)), .t (.lit (.int .i64 0)), .t (.lit (.int .i64 0)), .t (.lit (.int .i64 0)), .t (.lit (.string ⟨#[]⟩)), .t (.lit (.int .i64 0)), .t (.lit (.int .i64 0)), .t (.lit (.int .i64 0)), .t (.lit (.int .i64 0)), .t (.lit (.int .i64 0)), .t (.lit (.int .i64 0)), .t (.lit (.int .i64 0)), .t (.lit (.int .i64 0)), .t (.lit (.int .i64 0)), .t (.lit (.int .i64 0)), .t (.lit (.string ⟨#[]⟩)), .t (.lit (.int .i64 0)), .t (.lit (.int .i64 0)), .t (.lit (.int .i64 0)), .t (.lit (.int .i64 0)), .t (.lit (.int .i64 0)), .t (.lit (.int .i64 0)), .t (.lit (.int .i64 0)), .t (.lit (.string ⟨#[]⟩)), .t (.lit (.int .i64 0)), .t (.lit (.int .i64 0)), .t (.lit (.int .i64 0)), .t (.lit (.int .i64 0)), .t (.lit (.int .i64 0)), .t (.lit (.int .i64 0)), .t (.lit (.int .i64 0)), .t (.lit (.int .i64 0)), .t (.lit (.int .i64 0)), .t (.lit (.int .i64 0)), .t (.lit (.int .i64 0)), .t (.lit (.int .i64 0)), .t (.lit (.int .i64 0)), .t (.lit (.int .i64 0)), .nil], []⟩),
 (121, ⟨.str [(0, 3), (1, 117), (19, 119), (38, 3), (39, 3), (40, 9), (41, 64), (57, 57), (63, 65)], 64, 560, [.t (.lit (.int .i64 0)), .t (.lit (.int .i64 0)), .t (.lit (.int .i64 0)), .t (.lit (.int .i64 0)), .t (.lit (.int .i64 0)), .t (.lit (.int .i64 0)), .t (.lit (.int .i64 0)), .t (.lit (.int .i64 0)), .t (.lit (.int .i64 0)), .t (.lit (.int .i64 0)), .t (.lit (.string ⟨#[]⟩)), .t (.lit (.int .i64 0)), .t (.lit (.int .i64 0)), .t (.lit (.int .i64 0)), .t (.lit (.int .i64 0)), .t (.lit (.int .i64 0)), .t (.lit (.int .i64 0)), .t (.lit (.int .i64 0)), .t (.lit (.int .i64 0)), .t (.lit (.int .i64 0)), .t (.lit (.int .i64 0)), .t (.lit (.int .i64 0)), .t (.lit (.int .i64 0)), .t (.lit (.int .i64 0)), .t (.lit (.int .i64 0)), .t (.lit (.int .i64 0)), .t (.lit (.int .i64 0)), .t (.lit (.int .i64 0)), .t (.lit (.int .i64 0)), .t (.lit (.string ⟨#[]⟩)), .t (.lit (.int .i64 0)), .t (.lit (.int .i64 0)), .t (.lit (.int .i64 0)), .t (.lit (.int .i64 0)), .t (.lit (.int .i64 0)), .t (.lit (.int .i64 0)), .t (.lit (.int .i64 0)), .t (.lit (.int .i64 0)), .t (.lit (.int .i64 0)), .t (.lit (.int .i64 0)), .t (.lit (.string ⟨#[]⟩)), .t (.lit (.int .i64 0)), .t (.lit (.int .i64 0)), .t (.lit (.int .i64 0)), .t (.lit (.int .i64 0)), .t (.lit (.int .i64 0)), .t (.lit (.int .i64 0)), .t (.lit (.int .i64 0)), .t (.lit (.string ⟨#[]⟩)), .t (.lit (.int .i64 0)), .t (.lit (.int .i64 0)), .t (.lit (.int .i64 0)), .t (.lit (.int .i64 0)), .t (.lit (.int .i64 0)), .t (.lit (.int .i64 0)), .t (.lit (.int .i64 0)), .t (.lit (.int .i64 0)), .t (.lit (.int .i64 0)), .t (.lit (.int .i64 0)), .t (.lit (.int .i64 0)), .t (.lit (.int .i64 0)), .t (.lit (.int .i64 0)), .t (.lit (.int .i64 0)), .nil], []⟩),
 (132, ⟨.str [(0, 4), (1, 4), (2, 64)], 18, 144, [.t (.lit (.bool false)), .t (.lit (.bool false)), .t (.lit (.int .i64 0)), .t (.lit (.int .i64 0)), .t (.lit (.int .i64 0)), .t (.lit (.int .i64 0)), .t (.lit (.int .i64 0)), .t (.lit (.int .i64 0)), .t (.lit (.int .i64 0)), .t (.lit (.string ⟨#[]⟩)), .t (.lit (.int .i64 0)), .t (.lit (.int .i64 0)), .t (.lit (.int .i64 0)), .t (.lit (.int .i64 0)), .t (.lit (.int .i64 0)), .t (.lit (.int .i64 0)), .t (.lit (.int .i64 0)), .t (.lit (.int .i64 0))], [.bool, .bool, .int, .int, .int, .int, .int, .int, .int, .str, .int, .int, .int, .int, .int, .int, .int, .int]⟩),
 (133, ⟨.str [(0, 4), (1, 4), (2, 64)], 18, 144, [.t (.lit (.bool false)), .t (.lit (.bool false)), .t (.lit (.int .i64 0)), .t (.lit (.int .i64 0)), .t (.lit (.int .i64 0)), .t (.lit (.int .i64 0)), .t (.lit (.int .i64 0)), .t (.lit (.int .i64 0)), .t (.lit (.int .i64 0)), .t (.lit (.string ⟨#[]⟩)), .t (.lit (.int .i64 0)), .t (.lit (.int .i64 0)), .t (.lit (.int .i64 0)), .t (.lit (.int .i64 0)), .t (.lit (.int .i64 0)), .t (.lit (.int .i64 0)), .t (.lit (.int .i64 0)), .t (.lit (.int .i64 0))], [.bool, .bool, .int, .int, .int, .int, .int, .int, .int, .str, .int, .int, .int, .int, .int, .int, .int, .int]⟩),
 (150, ⟨.int .u32, 1, 4, [.t (.lit (.int .u32 0))], []⟩),
 (151, ⟨.int .u8, 1, 1, [.t (.lit (.int .u8 0))], []⟩),
 (152, ⟨.int .u8, 1, 1, [.t (.lit (.int .u8 0))], []⟩),
 (155, ⟨.int .i32, 1, 4, [.t (.lit (.int .i32 0))], []⟩),
 (156, ⟨.int .i32, 1, 4, [.t (.lit (.int .i32 0))], []⟩)]
def T (t : Nat) : Option Ty := lk tab t
theorem tabOk : TabOk Try.prog T := tabOk_of Try.prog tab (by kernel_rfl) (by kernel_rfl)
end Go.Proofs.Ytiebjkbofoppaaa
end
section
namespace Cg
open Go
structure GPlayer where
 life : Int
 venom : Int
 lands : Int
 pool0 : Int
 pool1 : Int
 pool2 : Int
 pool3 : Int
 pool4 : Int
 pool5 : Int
 failed : Bool
 lost : Bool
 library : List Int
 hand : List Int
 graveyard : List Int
def GPlayer.enc (x : GPlayer) : List Tr := [iv x.life, iv x.venom, iv x.lands, iv x.pool0, iv x.pool1, iv x.pool2, iv x.pool3, iv x.pool4, iv x.pool5, bv x.failed, bv x.lost, .sl 1 (x.library.map encI), .sl 1 (x.hand.map encI), .sl 1 (x.graveyard.map encI)]
def GPlayer.ks : List K := [.lit .int, .lit .int, .lit .int, .lit .int, .lit .int, .lit .int, .lit .int, .lit .int, .lit .int, .lit .bool, .lit .bool, .sl [.lit .int] 8, .sl [.lit .int] 8, .sl [.lit .int] 8]
def GPlayer.ok (x : GPlayer) : Prop := (x.library.length * 8 ≤ limB) ∧ (x.hand.length * 8 ≤ limB) ∧ (x.graveyard.length * 8 ≤ limB)
theorem GPlayer.ks_len : GPlayer.ks.length = 14 := rfl
set_option maxRecDepth 100000 in
theorem GPlayer.of_fit (ts : List Tr) (h : FitS GPlayer.ks ts) : ∃ x : GPlayer, x.ok ∧ ts = x.enc := by
 unfold GPlayer.ks at h
 obtain ⟨_, _, rfl, k1, q1⟩ := fitS_cons.1 h
 obtain ⟨a1, rfl⟩ := fitK_int.1 k1
 obtain ⟨_, _, rfl, k2, q2⟩ := fitS_cons.1 q1
 obtain ⟨a2, rfl⟩ := fitK_int.1 k2
 obtain ⟨_, _, rfl, k3, q3⟩ := fitS_cons.1 q2
 obtain ⟨a3, rfl⟩ := fitK_int.1 k3
 obtain ⟨_, _, rfl, k4, q4⟩ := fitS_cons.1 q3
 obtain ⟨a4, rfl⟩ := fitK_int.1 k4
 obtain ⟨_, _, rfl, k5, q5⟩ := fitS_cons.1 q4
 obtain ⟨a5, rfl⟩ := fitK_int.1 k5
 obtain ⟨_, _, rfl, k6, q6⟩ := fitS_cons.1 q5
 obtain ⟨a6, rfl⟩ := fitK_int.1 k6
 obtain ⟨_, _, rfl, k7, q7⟩ := fitS_cons.1 q6
 obtain ⟨a7, rfl⟩ := fitK_int.1 k7
 obtain ⟨_, _, rfl, k8, q8⟩ := fitS_cons.1 q7
 obtain ⟨a8, rfl⟩ := fitK_int.1 k8
 obtain ⟨_, _, rfl, k9, q9⟩ := fitS_cons.1 q8
 obtain ⟨a9, rfl⟩ := fitK_int.1 k9
 obtain ⟨_, _, rfl, k10, q10⟩ := fitS_cons.1 q9
 obtain ⟨a10, rfl⟩ := fitK_bool.1 k10
 obtain ⟨_, _, rfl, k11, q11⟩ := fitS_cons.1 q10
 obtain ⟨a11, rfl⟩ := fitK_bool.1 k11
 obtain ⟨_, _, rfl, k12, q12⟩ := fitS_cons.1 q11
 obtain ⟨_, rfl, hb12, hc12⟩ := fitK_sl.1 k12
 obtain ⟨l12, rfl, ho12⟩ := fitS_list int_of_fit hc12
 rw [List.length_map] at hb12
 obtain ⟨_, _, rfl, k13, q13⟩ := fitS_cons.1 q12
 obtain ⟨_, rfl, hb13, hc13⟩ := fitK_sl.1 k13
 obtain ⟨l13, rfl, ho13⟩ := fitS_list int_of_fit hc13
 rw [List.length_map] at hb13
 obtain ⟨_, _, rfl, k14, q14⟩ := fitS_cons.1 q13
 obtain ⟨_, rfl, hb14, hc14⟩ := fitK_sl.1 k14
 obtain ⟨l14, rfl, ho14⟩ := fitS_list int_of_fit hc14
 rw [List.length_map] at hb14
 obtain rfl := fitS_nil.1 q14
 exact ⟨⟨a1, a2, a3, a4, a5, a6, a7, a8, a9, a10, a11, l12, l13, l14⟩, ⟨hb12, hb13, hb14⟩, rfl⟩
set_option maxRecDepth 100000 in
theorem GPlayer.fit (x : GPlayer) (h : x.ok) : FitS GPlayer.ks x.enc := by
 obtain ⟨h0, h1, h2⟩ := h
 unfold GPlayer.ks
 exact fitS_cons.2 ⟨_, _, rfl, fitK_int.2 ⟨_, rfl⟩, fitS_cons.2 ⟨_, _, rfl, fitK_int.2 ⟨_, rfl⟩, fitS_cons.2 ⟨_, _, rfl, fitK_int.2 ⟨_, rfl⟩, fitS_cons.2 ⟨_, _, rfl, fitK_int.2 ⟨_, rfl⟩, fitS_cons.2 ⟨_, _, rfl, fitK_int.2 ⟨_, rfl⟩, fitS_cons.2 ⟨_, _, rfl, fitK_int.2 ⟨_, rfl⟩, fitS_cons.2 ⟨_, _, rfl, fitK_int.2 ⟨_, rfl⟩, fitS_cons.2 ⟨_, _, rfl, fitK_int.2 ⟨_, rfl⟩, fitS_cons.2 ⟨_, _, rfl, fitK_int.2 ⟨_, rfl⟩, fitS_cons.2 ⟨_, _, rfl, fitK_bool.2 ⟨_, rfl⟩, fitS_cons.2 ⟨_, _, rfl, fitK_bool.2 ⟨_, rfl⟩, fitS_cons.2 ⟨_, _, rfl, fitK_sl.2 ⟨_, rfl, by rw [List.length_map]; exact h0, fitS_map int_fit (fun _ _ => trivial)⟩, fitS_cons.2 ⟨_, _, rfl, fitK_sl.2 ⟨_, rfl, by rw [List.length_map]; exact h1, fitS_map int_fit (fun _ _ => trivial)⟩, fitS_cons.2 ⟨_, _, rfl, fitK_sl.2 ⟨_, rfl, by rw [List.length_map]; exact h2, fitS_map int_fit (fun _ _ => trivial)⟩, fitS_nil.2 rfl⟩⟩⟩⟩⟩⟩⟩⟩⟩⟩⟩⟩⟩⟩
structure GObject where
 id : Int
 card : Int
 owner : Int
 control : Int
 zone : Int
 token : Bool
 tapped : Bool
 sick : Bool
 deadly : Bool
 damage : Int
 counters0 : Int
 counters1 : Int
 counters2 : Int
 stamp : Int
 copy : Int
 attack : Int
 blocked : Bool
 blocks : Int
 shield : Int
def GObject.enc (x : GObject) : List Tr := [iv x.id, iv x.card, iv x.owner, iv x.control, iv x.zone, bv x.token, bv x.tapped, bv x.sick, bv x.deadly, iv x.damage, iv x.counters0, iv x.counters1, iv x.counters2, iv x.stamp, iv x.copy, iv x.attack, bv x.blocked, iv x.blocks, iv x.shield]
def GObject.ks : List K := [.lit .int, .lit .int, .lit .int, .lit .int, .lit .int, .lit .bool, .lit .bool, .lit .bool, .lit .bool, .lit .int, .lit .int, .lit .int, .lit .int, .lit .int, .lit .int, .lit .int, .lit .bool, .lit .int, .lit .int]
def GObject.ok (_ : GObject) : Prop := True
theorem GObject.ks_len : GObject.ks.length = 19 := rfl
set_option maxRecDepth 100000 in
theorem GObject.of_fit (ts : List Tr) (h : FitS GObject.ks ts) : ∃ x : GObject, x.ok ∧ ts = x.enc := by
 unfold GObject.ks at h
 obtain ⟨_, _, rfl, k1, q1⟩ := fitS_cons.1 h
 obtain ⟨a1, rfl⟩ := fitK_int.1 k1
 obtain ⟨_, _, rfl, k2, q2⟩ := fitS_cons.1 q1
 obtain ⟨a2, rfl⟩ := fitK_int.1 k2
 obtain ⟨_, _, rfl, k3, q3⟩ := fitS_cons.1 q2
 obtain ⟨a3, rfl⟩ := fitK_int.1 k3
 obtain ⟨_, _, rfl, k4, q4⟩ := fitS_cons.1 q3
 obtain ⟨a4, rfl⟩ := fitK_int.1 k4
 obtain ⟨_, _, rfl, k5, q5⟩ := fitS_cons.1 q4
 obtain ⟨a5, rfl⟩ := fitK_int.1 k5
 obtain ⟨_, _, rfl, k6, q6⟩ := fitS_cons.1 q5
 obtain ⟨a6, rfl⟩ := fitK_bool.1 k6
 obtain ⟨_, _, rfl, k7, q7⟩ := fitS_cons.1 q6
 obtain ⟨a7, rfl⟩ := fitK_bool.1 k7
 obtain ⟨_, _, rfl, k8, q8⟩ := fitS_cons.1 q7
 obtain ⟨a8, rfl⟩ := fitK_bool.1 k8
 obtain ⟨_, _, rfl, k9, q9⟩ := fitS_cons.1 q8
 obtain ⟨a9, rfl⟩ := fitK_bool.1 k9
 obtain ⟨_, _, rfl, k10, q10⟩ := fitS_cons.1 q9
 obtain ⟨a10, rfl⟩ := fitK_int.1 k10
 obtain ⟨_, _, rfl, k11, q11⟩ := fitS_cons.1 q10
 obtain ⟨a11, rfl⟩ := fitK_int.1 k11
 obtain ⟨_, _, rfl, k12, q12⟩ := fitS_cons.1 q11
 obtain ⟨a12, rfl⟩ := fitK_int.1 k12
 obtain ⟨_, _, rfl, k13, q13⟩ := fitS_cons.1 q12
 obtain ⟨a13, rfl⟩ := fitK_int.1 k13
 obtain ⟨_, _, rfl, k14, q14⟩ := fitS_cons.1 q13
 obtain ⟨a14, rfl⟩ := fitK_int.1 k14
 obtain ⟨_, _, rfl, k15, q15⟩ := fitS_cons.1 q14
 obtain ⟨a15, rfl⟩ := fitK_int.1 k15
 obtain ⟨_, _, rfl, k16, q16⟩ := fitS_cons.1 q15
 obtain ⟨a16, rfl⟩ := fitK_int.1 k16
 obtain ⟨_, _, rfl, k17, q17⟩ := fitS_cons.1 q16
 obtain ⟨a17, rfl⟩ := fitK_bool.1 k17
 obtain ⟨_, _, rfl, k18, q18⟩ := fitS_cons.1 q17
 obtain ⟨a18, rfl⟩ := fitK_int.1 k18
 obtain ⟨_, _, rfl, k19, q19⟩ := fitS_cons.1 q18
 obtain ⟨a19, rfl⟩ := fitK_int.1 k19
 obtain rfl := fitS_nil.1 q19
 exact ⟨⟨a1, a2, a3, a4, a5, a6, a7, a8, a9, a10, a11, a12, a13, a14, a15, a16, a17, a18, a19⟩, trivial, rfl⟩
set_option maxRecDepth 100000 in
theorem GObject.fit (x : GObject) (_ : x.ok) : FitS GObject.ks x.enc := by
 unfold GObject.ks
 exact fitS_cons.2 ⟨_, _, rfl, fitK_int.2 ⟨_, rfl⟩, fitS_cons.2 ⟨_, _, rfl, fitK_int.2 ⟨_, rfl⟩, fitS_cons.2 ⟨_, _, rfl, fitK_int.2 ⟨_, rfl⟩, fitS_cons.2 ⟨_, _, rfl, fitK_int.2 ⟨_, rfl⟩, fitS_cons.2 ⟨_, _, rfl, fitK_int.2 ⟨_, rfl⟩, fitS_cons.2 ⟨_, _, rfl, fitK_bool.2 ⟨_, rfl⟩, fitS_cons.2 ⟨_, _, rfl, fitK_bool.2 ⟨_, rfl⟩, fitS_cons.2 ⟨_, _, rfl, fitK_bool.2 ⟨_, rfl⟩, fitS_cons.2 ⟨_, _, rfl, fitK_bool.2 ⟨_, rfl⟩, fitS_cons.2 ⟨_, _, rfl, fitK_int.2 ⟨_, rfl⟩, fitS_cons.2 ⟨_, _, rfl, fitK_int.2 ⟨_, rfl⟩, fitS_cons.2 ⟨_, _, rfl, fitK_int.2 ⟨_, rfl⟩, fitS_cons.2 ⟨_, _, rfl, fitK_int.2 ⟨_, rfl⟩, fitS_cons.2 ⟨_, _, rfl, fitK_int.2 ⟨_, rfl⟩, fitS_cons.2 ⟨_, _, rfl, fitK_int.2 ⟨_, rfl⟩, fitS_cons.2 ⟨_, _, rfl, fitK_int.2 ⟨_, rfl⟩, fitS_cons.2 ⟨_, _, rfl, fitK_bool.2 ⟨_, rfl⟩, fitS_cons.2 ⟨_, _, rfl, fitK_int.2 ⟨_, rfl⟩, fitS_cons.2 ⟨_, _, rfl, fitK_int.2 ⟨_, rfl⟩, fitS_nil.2 rfl⟩⟩⟩⟩⟩⟩⟩⟩⟩⟩⟩⟩⟩⟩⟩⟩⟩⟩⟩
structure GBound where
 kind : Int
 n : Int
def GBound.enc (x : GBound) : List Tr := [iv x.kind, iv x.n]
def GBound.ks : List K := [.lit .int, .lit .int]
def GBound.ok (_ : GBound) : Prop := True
theorem GBound.ks_len : GBound.ks.length = 2 := rfl
set_option maxRecDepth 100000 in
theorem GBound.of_fit (ts : List Tr) (h : FitS GBound.ks ts) : ∃ x : GBound, x.ok ∧ ts = x.enc := by
 unfold GBound.ks at h
 obtain ⟨_, _, rfl, k1, q1⟩ := fitS_cons.1 h
 obtain ⟨a1, rfl⟩ := fitK_int.1 k1
 obtain ⟨_, _, rfl, k2, q2⟩ := fitS_cons.1 q1
 obtain ⟨a2, rfl⟩ := fitK_int.1 k2
 obtain rfl := fitS_nil.1 q2
 exact ⟨⟨a1, a2⟩, trivial, rfl⟩
set_option maxRecDepth 100000 in
theorem GBound.fit (x : GBound) (_ : x.ok) : FitS GBound.ks x.enc := by
 unfold GBound.ks
 exact fitS_cons.2 ⟨_, _, rfl, fitK_int.2 ⟨_, rfl⟩, fitS_cons.2 ⟨_, _, rfl, fitK_int.2 ⟨_, rfl⟩, fitS_nil.2 rfl⟩⟩
structure GFilter where
 zone : Int
 who : Int
 self : Int
 types : Int
 notTypes : Int
 colors : Int
 notColors : Int
 sub : ByteArray
 keys : Int
 tap : Int
 power : GBound
 tough : GBound
 value : GBound
def GFilter.enc (x : GFilter) : List Tr := [iv x.zone, iv x.who, iv x.self, iv x.types, iv x.notTypes, iv x.colors, iv x.notColors, sv x.sub, iv x.keys, iv x.tap, iv x.power.kind, iv x.power.n, iv x.tough.kind, iv x.tough.n, iv x.value.kind, iv x.value.n]
def GFilter.ks : List K := [.lit .int, .lit .int, .lit .int, .lit .int, .lit .int, .lit .int, .lit .int, .lit .str, .lit .int, .lit .int] ++ (GBound.ks ++ (GBound.ks ++ (GBound.ks)))
def GFilter.ok (x : GFilter) : Prop := (x.power.ok) ∧ (x.tough.ok) ∧ (x.value.ok)
theorem GFilter.ks_len : GFilter.ks.length = 16 := rfl
set_option maxRecDepth 100000 in
theorem GFilter.of_fit (ts : List Tr) (h : FitS GFilter.ks ts) : ∃ x : GFilter, x.ok ∧ ts = x.enc := by
 unfold GFilter.ks at h
 obtain ⟨_, _, rfl, g0, h1⟩ := fitS_append.1 h
 obtain ⟨_, _, rfl, k1, q1⟩ := fitS_cons.1 g0
 obtain ⟨a1, rfl⟩ := fitK_int.1 k1
 obtain ⟨_, _, rfl, k2, q2⟩ := fitS_cons.1 q1
 obtain ⟨a2, rfl⟩ := fitK_int.1 k2
 obtain ⟨_, _, rfl, k3, q3⟩ := fitS_cons.1 q2
 obtain ⟨a3, rfl⟩ := fitK_int.1 k3
 obtain ⟨_, _, rfl, k4, q4⟩ := fitS_cons.1 q3
 obtain ⟨a4, rfl⟩ := fitK_int.1 k4
 obtain ⟨_, _, rfl, k5, q5⟩ := fitS_cons.1 q4
 obtain ⟨a5, rfl⟩ := fitK_int.1 k5
 obtain ⟨_, _, rfl, k6, q6⟩ := fitS_cons.1 q5
 obtain ⟨a6, rfl⟩ := fitK_int.1 k6
 obtain ⟨_, _, rfl, k7, q7⟩ := fitS_cons.1 q6
 obtain ⟨a7, rfl⟩ := fitK_int.1 k7
 obtain ⟨_, _, rfl, k8, q8⟩ := fitS_cons.1 q7
 obtain ⟨a8, rfl⟩ := fitK_str.1 k8
 obtain ⟨_, _, rfl, k9, q9⟩ := fitS_cons.1 q8
 obtain ⟨a9, rfl⟩ := fitK_int.1 k9
 obtain ⟨_, _, rfl, k10, q10⟩ := fitS_cons.1 q9
 obtain ⟨a10, rfl⟩ := fitK_int.1 k10
 obtain rfl := fitS_nil.1 q10
 obtain ⟨_, _, rfl, g1, h2⟩ := fitS_append.1 h1
 obtain ⟨y1, oy1, rfl⟩ := GBound.of_fit _ g1
 obtain ⟨_, _, rfl, g2, h3⟩ := fitS_append.1 h2
 obtain ⟨y2, oy2, rfl⟩ := GBound.of_fit _ g2
 obtain ⟨y3, oy3, rfl⟩ := GBound.of_fit _ h3
 exact ⟨⟨a1, a2, a3, a4, a5, a6, a7, a8, a9, a10, y1, y2, y3⟩, ⟨oy1, oy2, oy3⟩, rfl⟩
set_option maxRecDepth 100000 in
theorem GFilter.fit (x : GFilter) (h : x.ok) : FitS GFilter.ks x.enc := by
 obtain ⟨h0, h1, h2⟩ := h
 unfold GFilter.ks
 refine fitS_append.2 ⟨[iv x.zone, iv x.who, iv x.self, iv x.types, iv x.notTypes, iv x.colors, iv x.notColors, sv x.sub, iv x.keys, iv x.tap], _, rfl, fitS_cons.2 ⟨_, _, rfl, fitK_int.2 ⟨_, rfl⟩, fitS_cons.2 ⟨_, _, rfl, fitK_int.2 ⟨_, rfl⟩, fitS_cons.2 ⟨_, _, rfl, fitK_int.2 ⟨_, rfl⟩, fitS_cons.2 ⟨_, _, rfl, fitK_int.2 ⟨_, rfl⟩, fitS_cons.2 ⟨_, _, rfl, fitK_int.2 ⟨_, rfl⟩, fitS_cons.2 ⟨_, _, rfl, fitK_int.2 ⟨_, rfl⟩, fitS_cons.2 ⟨_, _, rfl, fitK_int.2 ⟨_, rfl⟩, fitS_cons.2 ⟨_, _, rfl, fitK_str.2 ⟨_, rfl⟩, fitS_cons.2 ⟨_, _, rfl, fitK_int.2 ⟨_, rfl⟩, fitS_cons.2 ⟨_, _, rfl, fitK_int.2 ⟨_, rfl⟩, fitS_nil.2 rfl⟩⟩⟩⟩⟩⟩⟩⟩⟩⟩, ?_⟩
 refine fitS_append.2 ⟨x.power.enc, _, rfl, GBound.fit x.power h0, ?_⟩
 refine fitS_append.2 ⟨x.tough.enc, _, rfl, GBound.fit x.tough h1, ?_⟩
 exact GBound.fit x.value h2
structure GMod where
 kind : Int
 n : Int
 m : Int
 sub : ByteArray
 filter : GFilter
def GMod.enc (x : GMod) : List Tr := [iv x.kind, iv x.n, iv x.m, sv x.sub, iv x.filter.zone, iv x.filter.who, iv x.filter.self, iv x.filter.types, iv x.filter.notTypes, iv x.filter.colors, iv x.filter.notColors, sv x.filter.sub, iv x.filter.keys, iv x.filter.tap, iv x.filter.power.kind, iv x.filter.power.n, iv x.filter.tough.kind, iv x.filter.tough.n, iv x.filter.value.kind, iv x.filter.value.n]
def GMod.ks : List K := [.lit .int, .lit .int, .lit .int, .lit .str] ++ (GFilter.ks)
def GMod.ok (x : GMod) : Prop := (x.filter.ok)
theorem GMod.ks_len : GMod.ks.length = 20 := rfl
set_option maxRecDepth 100000 in
theorem GMod.of_fit (ts : List Tr) (h : FitS GMod.ks ts) : ∃ x : GMod, x.ok ∧ ts = x.enc := by
 unfold GMod.ks at h
 obtain ⟨_, _, rfl, g0, h1⟩ := fitS_append.1 h
 obtain ⟨_, _, rfl, k1, q1⟩ := fitS_cons.1 g0
 obtain ⟨a1, rfl⟩ := fitK_int.1 k1
 obtain ⟨_, _, rfl, k2, q2⟩ := fitS_cons.1 q1
 obtain ⟨a2, rfl⟩ := fitK_int.1 k2
 obtain ⟨_, _, rfl, k3, q3⟩ := fitS_cons.1 q2
 obtain ⟨a3, rfl⟩ := fitK_int.1 k3
 obtain ⟨_, _, rfl, k4, q4⟩ := fitS_cons.1 q3
 obtain ⟨a4, rfl⟩ := fitK_str.1 k4
 obtain rfl := fitS_nil.1 q4
 obtain ⟨y1, oy1, rfl⟩ := GFilter.of_fit _ h1
 exact ⟨⟨a1, a2, a3, a4, y1⟩, oy1, rfl⟩
set_option maxRecDepth 100000 in
theorem GMod.fit (x : GMod) (h : x.ok) : FitS GMod.ks x.enc := by
 have h0 := h
 unfold GMod.ks
 refine fitS_append.2 ⟨[iv x.kind, iv x.n, iv x.m, sv x.sub], _, rfl, fitS_cons.2 ⟨_, _, rfl, fitK_int.2 ⟨_, rfl⟩, fitS_cons.2 ⟨_, _, rfl, fitK_int.2 ⟨_, rfl⟩, fitS_cons.2 ⟨_, _, rfl, fitK_int.2 ⟨_, rfl⟩, fitS_cons.2 ⟨_, _, rfl, fitK_str.2 ⟨_, rfl⟩, fitS_nil.2 rfl⟩⟩⟩⟩, ?_⟩
 exact GFilter.fit x.filter h0
structure GCost where
 generic : Int
 x : Int
 color0 : Int
 color1 : Int
 color2 : Int
 color3 : Int
 color4 : Int
def GCost.enc (x : GCost) : List Tr := [iv x.generic, iv x.x, iv x.color0, iv x.color1, iv x.color2, iv x.color3, iv x.color4]
def GCost.ks : List K := [.lit .int, .lit .int, .lit .int, .lit .int, .lit .int, .lit .int, .lit .int]
def GCost.ok (_ : GCost) : Prop := True
theorem GCost.ks_len : GCost.ks.length = 7 := rfl
set_option maxRecDepth 100000 in
theorem GCost.of_fit (ts : List Tr) (h : FitS GCost.ks ts) : ∃ x : GCost, x.ok ∧ ts = x.enc := by
 unfold GCost.ks at h
 obtain ⟨_, _, rfl, k1, q1⟩ := fitS_cons.1 h
 obtain ⟨a1, rfl⟩ := fitK_int.1 k1
 obtain ⟨_, _, rfl, k2, q2⟩ := fitS_cons.1 q1
 obtain ⟨a2, rfl⟩ := fitK_int.1 k2
 obtain ⟨_, _, rfl, k3, q3⟩ := fitS_cons.1 q2
 obtain ⟨a3, rfl⟩ := fitK_int.1 k3
 obtain ⟨_, _, rfl, k4, q4⟩ := fitS_cons.1 q3
 obtain ⟨a4, rfl⟩ := fitK_int.1 k4
 obtain ⟨_, _, rfl, k5, q5⟩ := fitS_cons.1 q4
 obtain ⟨a5, rfl⟩ := fitK_int.1 k5
 obtain ⟨_, _, rfl, k6, q6⟩ := fitS_cons.1 q5
 obtain ⟨a6, rfl⟩ := fitK_int.1 k6
 obtain ⟨_, _, rfl, k7, q7⟩ := fitS_cons.1 q6
 obtain ⟨a7, rfl⟩ := fitK_int.1 k7
 obtain rfl := fitS_nil.1 q7
 exact ⟨⟨a1, a2, a3, a4, a5, a6, a7⟩, trivial, rfl⟩
set_option maxRecDepth 100000 in
theorem GCost.fit (x : GCost) (_ : x.ok) : FitS GCost.ks x.enc := by
 unfold GCost.ks
 exact fitS_cons.2 ⟨_, _, rfl, fitK_int.2 ⟨_, rfl⟩, fitS_cons.2 ⟨_, _, rfl, fitK_int.2 ⟨_, rfl⟩, fitS_cons.2 ⟨_, _, rfl, fitK_int.2 ⟨_, rfl⟩, fitS_cons.2 ⟨_, _, rfl, fitK_int.2 ⟨_, rfl⟩, fitS_cons.2 ⟨_, _, rfl, fitK_int.2 ⟨_, rfl⟩, fitS_cons.2 ⟨_, _, rfl, fitK_int.2 ⟨_, rfl⟩, fitS_cons.2 ⟨_, _, rfl, fitK_int.2 ⟨_, rfl⟩, fitS_nil.2 rfl⟩⟩⟩⟩⟩⟩⟩
structure GPrice where
 mana : GCost
 tap : Bool
 sacrifice : Bool
 life : Int
def GPrice.enc (x : GPrice) : List Tr := [iv x.mana.generic, iv x.mana.x, iv x.mana.color0, iv x.mana.color1, iv x.mana.color2, iv x.mana.color3, iv x.mana.color4, bv x.tap, bv x.sacrifice, iv x.life]
def GPrice.ks : List K := GCost.ks ++ ([.lit .bool, .lit .bool, .lit .int])
def GPrice.ok (x : GPrice) : Prop := (x.mana.ok)
theorem GPrice.ks_len : GPrice.ks.length = 10 := rfl
set_option maxRecDepth 100000 in
theorem GPrice.of_fit (ts : List Tr) (h : FitS GPrice.ks ts) : ∃ x : GPrice, x.ok ∧ ts = x.enc := by
 unfold GPrice.ks at h
 obtain ⟨_, _, rfl, g0, h1⟩ := fitS_append.1 h
 obtain ⟨y0, oy0, rfl⟩ := GCost.of_fit _ g0
 obtain ⟨_, _, rfl, k1, q1⟩ := fitS_cons.1 h1
 obtain ⟨a1, rfl⟩ := fitK_bool.1 k1
 obtain ⟨_, _, rfl, k2, q2⟩ := fitS_cons.1 q1
 obtain ⟨a2, rfl⟩ := fitK_bool.1 k2
 obtain ⟨_, _, rfl, k3, q3⟩ := fitS_cons.1 q2
 obtain ⟨a3, rfl⟩ := fitK_int.1 k3
 obtain rfl := fitS_nil.1 q3
 exact ⟨⟨y0, a1, a2, a3⟩, oy0, rfl⟩
set_option maxRecDepth 100000 in
theorem GPrice.fit (x : GPrice) (h : x.ok) : FitS GPrice.ks x.enc := by
 have h0 := h
 unfold GPrice.ks
 refine fitS_append.2 ⟨x.mana.enc, _, rfl, GCost.fit x.mana h0, ?_⟩
 exact fitS_cons.2 ⟨_, _, rfl, fitK_bool.2 ⟨_, rfl⟩, fitS_cons.2 ⟨_, _, rfl, fitK_bool.2 ⟨_, rfl⟩, fitS_cons.2 ⟨_, _, rfl, fitK_int.2 ⟨_, rfl⟩, fitS_nil.2 rfl⟩⟩⟩
structure GTrigger where
 when : Int
 who : Int
 filter : GFilter
def GTrigger.enc (x : GTrigger) : List Tr := [iv x.when, iv x.who, iv x.filter.zone, iv x.filter.who, iv x.filter.self, iv x.filter.types, iv x.filter.notTypes, iv x.filter.colors, iv x.filter.notColors, sv x.filter.sub, iv x.filter.keys, iv x.filter.tap, iv x.filter.power.kind, iv x.filter.power.n, iv x.filter.tough.kind, iv x.filter.tough.n, iv x.filter.value.kind, iv x.filter.value.n]
def GTrigger.ks : List K := [.lit .int, .lit .int] ++ (GFilter.ks)
def GTrigger.ok (x : GTrigger) : Prop := (x.filter.ok)
theorem GTrigger.ks_len : GTrigger.ks.length = 18 := rfl
set_option maxRecDepth 100000 in
theorem GTrigger.of_fit (ts : List Tr) (h : FitS GTrigger.ks ts) : ∃ x : GTrigger, x.ok ∧ ts = x.enc := by
 unfold GTrigger.ks at h
 obtain ⟨_, _, rfl, g0, h1⟩ := fitS_append.1 h
 obtain ⟨_, _, rfl, k1, q1⟩ := fitS_cons.1 g0
 obtain ⟨a1, rfl⟩ := fitK_int.1 k1
 obtain ⟨_, _, rfl, k2, q2⟩ := fitS_cons.1 q1
 obtain ⟨a2, rfl⟩ := fitK_int.1 k2
 obtain rfl := fitS_nil.1 q2
 obtain ⟨y1, oy1, rfl⟩ := GFilter.of_fit _ h1
 exact ⟨⟨a1, a2, y1⟩, oy1, rfl⟩
set_option maxRecDepth 100000 in
theorem GTrigger.fit (x : GTrigger) (h : x.ok) : FitS GTrigger.ks x.enc := by
 have h0 := h
 unfold GTrigger.ks
 refine fitS_append.2 ⟨[iv x.when, iv x.who], _, rfl, fitS_cons.2 ⟨_, _, rfl, fitK_int.2 ⟨_, rfl⟩, fitS_cons.2 ⟨_, _, rfl, fitK_int.2 ⟨_, rfl⟩, fitS_nil.2 rfl⟩⟩, ?_⟩
 exact GFilter.fit x.filter h0
structure GSpec where
 player : Bool
 object : Bool
 filter : GFilter
def GSpec.enc (x : GSpec) : List Tr := [bv x.player, bv x.object, iv x.filter.zone, iv x.filter.who, iv x.filter.self, iv x.filter.types, iv x.filter.notTypes, iv x.filter.colors, iv x.filter.notColors, sv x.filter.sub, iv x.filter.keys, iv x.filter.tap, iv x.filter.power.kind, iv x.filter.power.n, iv x.filter.tough.kind, iv x.filter.tough.n, iv x.filter.value.kind, iv x.filter.value.n]
def GSpec.ks : List K := [.lit .bool, .lit .bool] ++ (GFilter.ks)
def GSpec.ok (x : GSpec) : Prop := (x.filter.ok)
theorem GSpec.ks_len : GSpec.ks.length = 18 := rfl
set_option maxRecDepth 100000 in
theorem GSpec.of_fit (ts : List Tr) (h : FitS GSpec.ks ts) : ∃ x : GSpec, x.ok ∧ ts = x.enc := by
 unfold GSpec.ks at h
 obtain ⟨_, _, rfl, g0, h1⟩ := fitS_append.1 h
 obtain ⟨_, _, rfl, k1, q1⟩ := fitS_cons.1 g0
 obtain ⟨a1, rfl⟩ := fitK_bool.1 k1
 obtain ⟨_, _, rfl, k2, q2⟩ := fitS_cons.1 q1
 obtain ⟨a2, rfl⟩ := fitK_bool.1 k2
 obtain rfl := fitS_nil.1 q2
 obtain ⟨y1, oy1, rfl⟩ := GFilter.of_fit _ h1
 exact ⟨⟨a1, a2, y1⟩, oy1, rfl⟩
set_option maxRecDepth 100000 in
theorem GSpec.fit (x : GSpec) (h : x.ok) : FitS GSpec.ks x.enc := by
 have h0 := h
 unfold GSpec.ks
 refine fitS_append.2 ⟨[bv x.player, bv x.object], _, rfl, fitS_cons.2 ⟨_, _, rfl, fitK_bool.2 ⟨_, rfl⟩, fitS_cons.2 ⟨_, _, rfl, fitK_bool.2 ⟨_, rfl⟩, fitS_nil.2 rfl⟩⟩, ?_⟩
 exact GFilter.fit x.filter h0
structure GRef where
 kind : Int
 n : Int
 filter : GFilter
def GRef.enc (x : GRef) : List Tr := [iv x.kind, iv x.n, iv x.filter.zone, iv x.filter.who, iv x.filter.self, iv x.filter.types, iv x.filter.notTypes, iv x.filter.colors, iv x.filter.notColors, sv x.filter.sub, iv x.filter.keys, iv x.filter.tap, iv x.filter.power.kind, iv x.filter.power.n, iv x.filter.tough.kind, iv x.filter.tough.n, iv x.filter.value.kind, iv x.filter.value.n]
def GRef.ks : List K := [.lit .int, .lit .int] ++ (GFilter.ks)
def GRef.ok (x : GRef) : Prop := (x.filter.ok)
theorem GRef.ks_len : GRef.ks.length = 18 := rfl
set_option maxRecDepth 100000 in
theorem GRef.of_fit (ts : List Tr) (h : FitS GRef.ks ts) : ∃ x : GRef, x.ok ∧ ts = x.enc := by
 unfold GRef.ks at h
 obtain ⟨_, _, rfl, g0, h1⟩ := fitS_append.1 h
 obtain ⟨_, _, rfl, k1, q1⟩ := fitS_cons.1 g0
 obtain ⟨a1, rfl⟩ := fitK_int.1 k1
 obtain ⟨_, _, rfl, k2, q2⟩ := fitS_cons.1 q1
 obtain ⟨a2, rfl⟩ := fitK_int.1 k2
 obtain rfl := fitS_nil.1 q2
 obtain ⟨y1, oy1, rfl⟩ := GFilter.of_fit _ h1
 exact ⟨⟨a1, a2, y1⟩, oy1, rfl⟩
set_option maxRecDepth 100000 in
theorem GRef.fit (x : GRef) (h : x.ok) : FitS GRef.ks x.enc := by
 have h0 := h
 unfold GRef.ks
 refine fitS_append.2 ⟨[iv x.kind, iv x.n], _, rfl, fitS_cons.2 ⟨_, _, rfl, fitK_int.2 ⟨_, rfl⟩, fitS_cons.2 ⟨_, _, rfl, fitK_int.2 ⟨_, rfl⟩, fitS_nil.2 rfl⟩⟩, ?_⟩
 exact GFilter.fit x.filter h0
structure GAmount where
 kind : Int
 n : Int
 counter : Int
 filter : GFilter
def GAmount.enc (x : GAmount) : List Tr := [iv x.kind, iv x.n, iv x.counter, iv x.filter.zone, iv x.filter.who, iv x.filter.self, iv x.filter.types, iv x.filter.notTypes, iv x.filter.colors, iv x.filter.notColors, sv x.filter.sub, iv x.filter.keys, iv x.filter.tap, iv x.filter.power.kind, iv x.filter.power.n, iv x.filter.tough.kind, iv x.filter.tough.n, iv x.filter.value.kind, iv x.filter.value.n]
def GAmount.ks : List K := [.lit .int, .lit .int, .lit .int] ++ (GFilter.ks)
def GAmount.ok (x : GAmount) : Prop := (x.filter.ok)
theorem GAmount.ks_len : GAmount.ks.length = 19 := rfl
set_option maxRecDepth 100000 in
theorem GAmount.of_fit (ts : List Tr) (h : FitS GAmount.ks ts) : ∃ x : GAmount, x.ok ∧ ts = x.enc := by
 unfold GAmount.ks at h
 obtain ⟨_, _, rfl, g0, h1⟩ := fitS_append.1 h
 obtain ⟨_, _, rfl, k1, q1⟩ := fitS_cons.1 g0
 obtain ⟨a1, rfl⟩ := fitK_int.1 k1
 obtain ⟨_, _, rfl, k2, q2⟩ := fitS_cons.1 q1
 obtain ⟨a2, rfl⟩ := fitK_int.1 k2
 obtain ⟨_, _, rfl, k3, q3⟩ := fitS_cons.1 q2
 obtain ⟨a3, rfl⟩ := fitK_int.1 k3
 obtain rfl := fitS_nil.1 q3
 obtain ⟨y1, oy1, rfl⟩ := GFilter.of_fit _ h1
 exact ⟨⟨a1, a2, a3, y1⟩, oy1, rfl⟩
set_option maxRecDepth 100000 in
theorem GAmount.fit (x : GAmount) (h : x.ok) : FitS GAmount.ks x.enc := by
 have h0 := h
 unfold GAmount.ks
 refine fitS_append.2 ⟨[iv x.kind, iv x.n, iv x.counter], _, rfl, fitS_cons.2 ⟨_, _, rfl, fitK_int.2 ⟨_, rfl⟩, fitS_cons.2 ⟨_, _, rfl, fitK_int.2 ⟨_, rfl⟩, fitS_cons.2 ⟨_, _, rfl, fitK_int.2 ⟨_, rfl⟩, fitS_nil.2 rfl⟩⟩⟩, ?_⟩
 exact GFilter.fit x.filter h0
structure GEffect where
 op : Int
 ref : GRef
 amount : GAmount
 counter : Int
 zone : Int
 card : ByteArray
 filter : GFilter
 pool0 : Int
 pool1 : Int
 pool2 : Int
 pool3 : Int
 pool4 : Int
 pool5 : Int
 mods : List GMod
def GEffect.enc (x : GEffect) : List Tr := [iv x.op, iv x.ref.kind, iv x.ref.n, iv x.ref.filter.zone, iv x.ref.filter.who, iv x.ref.filter.self, iv x.ref.filter.types, iv x.ref.filter.notTypes, iv x.ref.filter.colors, iv x.ref.filter.notColors, sv x.ref.filter.sub, iv x.ref.filter.keys, iv x.ref.filter.tap, iv x.ref.filter.power.kind, iv x.ref.filter.power.n, iv x.ref.filter.tough.kind, iv x.ref.filter.tough.n, iv x.ref.filter.value.kind, iv x.ref.filter.value.n, iv x.amount.kind, iv x.amount.n, iv x.amount.counter, iv x.amount.filter.zone, iv x.amount.filter.who, iv x.amount.filter.self, iv x.amount.filter.types, iv x.amount.filter.notTypes, iv x.amount.filter.colors, iv x.amount.filter.notColors, sv x.amount.filter.sub, iv x.amount.filter.keys, iv x.amount.filter.tap, iv x.amount.filter.power.kind, iv x.amount.filter.power.n, iv x.amount.filter.tough.kind, iv x.amount.filter.tough.n, iv x.amount.filter.value.kind, iv x.amount.filter.value.n, iv x.counter, iv x.zone, sv x.card, iv x.filter.zone, iv x.filter.who, iv x.filter.self, iv x.filter.types, iv x.filter.notTypes, iv x.filter.colors, iv x.filter.notColors, sv x.filter.sub, iv x.filter.keys, iv x.filter.tap, iv x.filter.power.kind, iv x.filter.power.n, iv x.filter.tough.kind, iv x.filter.tough.n, iv x.filter.value.kind, iv x.filter.value.n, iv x.pool0, iv x.pool1, iv x.pool2, iv x.pool3, iv x.pool4, iv x.pool5, .sl 20 (x.mods.map GMod.enc)]
def GEffect.ks : List K := [.lit .int] ++ (GRef.ks ++ (GAmount.ks ++ ([.lit .int, .lit .int, .lit .str] ++ (GFilter.ks ++ ([.lit .int, .lit .int, .lit .int, .lit .int, .lit .int, .lit .int, .sl GMod.ks 176])))))
def GEffect.ok (x : GEffect) : Prop := (x.ref.ok) ∧ (x.amount.ok) ∧ (x.filter.ok) ∧ (x.mods.length * 176 ≤ limB) ∧ (∀ y ∈ x.mods, GMod.ok y)
theorem GEffect.ks_len : GEffect.ks.length = 64 := rfl
set_option maxRecDepth 100000 in
theorem GEffect.of_fit (ts : List Tr) (h : FitS GEffect.ks ts) : ∃ x : GEffect, x.ok ∧ ts = x.enc := by
 unfold GEffect.ks at h
 obtain ⟨_, _, rfl, g0, h1⟩ := fitS_append.1 h
 obtain ⟨_, _, rfl, k1, q1⟩ := fitS_cons.1 g0
 obtain ⟨a1, rfl⟩ := fitK_int.1 k1
 obtain rfl := fitS_nil.1 q1
 obtain ⟨_, _, rfl, g1, h2⟩ := fitS_append.1 h1
 obtain ⟨y1, oy1, rfl⟩ := GRef.of_fit _ g1
 obtain ⟨_, _, rfl, g2, h3⟩ := fitS_append.1 h2
 obtain ⟨y2, oy2, rfl⟩ := GAmount.of_fit _ g2
 obtain ⟨_, _, rfl, g3, h4⟩ := fitS_append.1 h3
 obtain ⟨_, _, rfl, k2, q2⟩ := fitS_cons.1 g3
 obtain ⟨a2, rfl⟩ := fitK_int.1 k2
 obtain ⟨_, _, rfl, k3, q3⟩ := fitS_cons.1 q2
 obtain ⟨a3, rfl⟩ := fitK_int.1 k3
 obtain ⟨_, _, rfl, k4, q4⟩ := fitS_cons.1 q3
 obtain ⟨a4, rfl⟩ := fitK_str.1 k4
 obtain rfl := fitS_nil.1 q4
 obtain ⟨_, _, rfl, g4, h5⟩ := fitS_append.1 h4
 obtain ⟨y4, oy4, rfl⟩ := GFilter.of_fit _ g4
 obtain ⟨_, _, rfl, k5, q5⟩ := fitS_cons.1 h5
 obtain ⟨a5, rfl⟩ := fitK_int.1 k5
 obtain ⟨_, _, rfl, k6, q6⟩ := fitS_cons.1 q5
 obtain ⟨a6, rfl⟩ := fitK_int.1 k6
 obtain ⟨_, _, rfl, k7, q7⟩ := fitS_cons.1 q6
 obtain ⟨a7, rfl⟩ := fitK_int.1 k7
 obtain ⟨_, _, rfl, k8, q8⟩ := fitS_cons.1 q7
 obtain ⟨a8, rfl⟩ := fitK_int.1 k8
 obtain ⟨_, _, rfl, k9, q9⟩ := fitS_cons.1 q8
 obtain ⟨a9, rfl⟩ := fitK_int.1 k9
 obtain ⟨_, _, rfl, k10, q10⟩ := fitS_cons.1 q9
 obtain ⟨a10, rfl⟩ := fitK_int.1 k10
 obtain ⟨_, _, rfl, k11, q11⟩ := fitS_cons.1 q10
 obtain ⟨_, rfl, hb11, hc11⟩ := fitK_sl.1 k11
 obtain ⟨l11, rfl, ho11⟩ := fitS_list GMod.of_fit hc11
 rw [List.length_map] at hb11
 obtain rfl := fitS_nil.1 q11
 exact ⟨⟨a1, y1, y2, a2, a3, a4, y4, a5, a6, a7, a8, a9, a10, l11⟩, ⟨oy1, oy2, oy4, hb11, ho11⟩, rfl⟩
set_option maxRecDepth 100000 in
theorem GEffect.fit (x : GEffect) (h : x.ok) : FitS GEffect.ks x.enc := by
 obtain ⟨h0, h1, h2, h3, h4⟩ := h
 unfold GEffect.ks
 refine fitS_append.2 ⟨[iv x.op], _, rfl, fitS_cons.2 ⟨_, _, rfl, fitK_int.2 ⟨_, rfl⟩, fitS_nil.2 rfl⟩, ?_⟩
 refine fitS_append.2 ⟨x.ref.enc, _, rfl, GRef.fit x.ref h0, ?_⟩
 refine fitS_append.2 ⟨x.amount.enc, _, rfl, GAmount.fit x.amount h1, ?_⟩
 refine fitS_append.2 ⟨[iv x.counter, iv x.zone, sv x.card], _, rfl, fitS_cons.2 ⟨_, _, rfl, fitK_int.2 ⟨_, rfl⟩, fitS_cons.2 ⟨_, _, rfl, fitK_int.2 ⟨_, rfl⟩, fitS_cons.2 ⟨_, _, rfl, fitK_str.2 ⟨_, rfl⟩, fitS_nil.2 rfl⟩⟩⟩, ?_⟩
 refine fitS_append.2 ⟨x.filter.enc, _, rfl, GFilter.fit x.filter h2, ?_⟩
 exact fitS_cons.2 ⟨_, _, rfl, fitK_int.2 ⟨_, rfl⟩, fitS_cons.2 ⟨_, _, rfl, fitK_int.2 ⟨_, rfl⟩, fitS_cons.2 ⟨_, _, rfl, fitK_int.2 ⟨_, rfl⟩, fitS_cons.2 ⟨_, _, rfl, fitK_int.2 ⟨_, rfl⟩, fitS_cons.2 ⟨_, _, rfl, fitK_int.2 ⟨_, rfl⟩, fitS_cons.2 ⟨_, _, rfl, fitK_int.2 ⟨_, rfl⟩, fitS_cons.2 ⟨_, _, rfl, fitK_sl.2 ⟨_, rfl, by rw [List.length_map]; exact h3, fitS_map GMod.fit h4⟩, fitS_nil.2 rfl⟩⟩⟩⟩⟩⟩⟩
structure GReplace where
 on : Int
 who : Int
 filter : GFilter
 do_ : Int
 n : Int
 zone : Int
 counter : Int
def GReplace.enc (x : GReplace) : List Tr := [iv x.on, iv x.who, iv x.filter.zone, iv x.filter.who, iv x.filter.self, iv x.filter.types, iv x.filter.notTypes, iv x.filter.colors, iv x.filter.notColors, sv x.filter.sub, iv x.filter.keys, iv x.filter.tap, iv x.filter.power.kind, iv x.filter.power.n, iv x.filter.tough.kind, iv x.filter.tough.n, iv x.filter.value.kind, iv x.filter.value.n, iv x.do_, iv x.n, iv x.zone, iv x.counter]
def GReplace.ks : List K := [.lit .int, .lit .int] ++ (GFilter.ks ++ ([.lit .int, .lit .int, .lit .int, .lit .int]))
def GReplace.ok (x : GReplace) : Prop := (x.filter.ok)
theorem GReplace.ks_len : GReplace.ks.length = 22 := rfl
set_option maxRecDepth 100000 in
theorem GReplace.of_fit (ts : List Tr) (h : FitS GReplace.ks ts) : ∃ x : GReplace, x.ok ∧ ts = x.enc := by
 unfold GReplace.ks at h
 obtain ⟨_, _, rfl, g0, h1⟩ := fitS_append.1 h
 obtain ⟨_, _, rfl, k1, q1⟩ := fitS_cons.1 g0
 obtain ⟨a1, rfl⟩ := fitK_int.1 k1
 obtain ⟨_, _, rfl, k2, q2⟩ := fitS_cons.1 q1
 obtain ⟨a2, rfl⟩ := fitK_int.1 k2
 obtain rfl := fitS_nil.1 q2
 obtain ⟨_, _, rfl, g1, h2⟩ := fitS_append.1 h1
 obtain ⟨y1, oy1, rfl⟩ := GFilter.of_fit _ g1
 obtain ⟨_, _, rfl, k3, q3⟩ := fitS_cons.1 h2
 obtain ⟨a3, rfl⟩ := fitK_int.1 k3
 obtain ⟨_, _, rfl, k4, q4⟩ := fitS_cons.1 q3
 obtain ⟨a4, rfl⟩ := fitK_int.1 k4
 obtain ⟨_, _, rfl, k5, q5⟩ := fitS_cons.1 q4
 obtain ⟨a5, rfl⟩ := fitK_int.1 k5
 obtain ⟨_, _, rfl, k6, q6⟩ := fitS_cons.1 q5
 obtain ⟨a6, rfl⟩ := fitK_int.1 k6
 obtain rfl := fitS_nil.1 q6
 exact ⟨⟨a1, a2, y1, a3, a4, a5, a6⟩, oy1, rfl⟩
set_option maxRecDepth 100000 in
theorem GReplace.fit (x : GReplace) (h : x.ok) : FitS GReplace.ks x.enc := by
 have h0 := h
 unfold GReplace.ks
 refine fitS_append.2 ⟨[iv x.on, iv x.who], _, rfl, fitS_cons.2 ⟨_, _, rfl, fitK_int.2 ⟨_, rfl⟩, fitS_cons.2 ⟨_, _, rfl, fitK_int.2 ⟨_, rfl⟩, fitS_nil.2 rfl⟩⟩, ?_⟩
 refine fitS_append.2 ⟨x.filter.enc, _, rfl, GFilter.fit x.filter h0, ?_⟩
 exact fitS_cons.2 ⟨_, _, rfl, fitK_int.2 ⟨_, rfl⟩, fitS_cons.2 ⟨_, _, rfl, fitK_int.2 ⟨_, rfl⟩, fitS_cons.2 ⟨_, _, rfl, fitK_int.2 ⟨_, rfl⟩, fitS_cons.2 ⟨_, _, rfl, fitK_int.2 ⟨_, rfl⟩, fitS_nil.2 rfl⟩⟩⟩⟩
structure GAbility where
 kind : Int
 filter : GFilter
 mods : List GMod
 price : GPrice
 slow : Bool
 trigger : GTrigger
 may : Bool
 specs : List GSpec
 effects : List GEffect
 replace : GReplace
def GAbility.enc (x : GAbility) : List Tr := [iv x.kind, iv x.filter.zone, iv x.filter.who, iv x.filter.self, iv x.filter.types, iv x.filter.notTypes, iv x.filter.colors, iv x.filter.notColors, sv x.filter.sub, iv x.filter.keys, iv x.filter.tap, iv x.filter.power.kind, iv x.filter.power.n, iv x.filter.tough.kind, iv x.filter.tough.n, iv x.filter.value.kind, iv x.filter.value.n, .sl 20 (x.mods.map GMod.enc), iv x.price.mana.generic, iv x.price.mana.x, iv x.price.mana.color0, iv x.price.mana.color1, iv x.price.mana.color2, iv x.price.mana.color3, iv x.price.mana.color4, bv x.price.tap, bv x.price.sacrifice, iv x.price.life, bv x.slow, iv x.trigger.when, iv x.trigger.who, iv x.trigger.filter.zone, iv x.trigger.filter.who, iv x.trigger.filter.self, iv x.trigger.filter.types, iv x.trigger.filter.notTypes, iv x.trigger.filter.colors, iv x.trigger.filter.notColors, sv x.trigger.filter.sub, iv x.trigger.filter.keys, iv x.trigger.filter.tap, iv x.trigger.filter.power.kind, iv x.trigger.filter.power.n, iv x.trigger.filter.tough.kind, iv x.trigger.filter.tough.n, iv x.trigger.filter.value.kind, iv x.trigger.filter.value.n, bv x.may, .sl 18 (x.specs.map GSpec.enc), .sl 64 (x.effects.map GEffect.enc), iv x.replace.on, iv x.replace.who, iv x.replace.filter.zone, iv x.replace.filter.who, iv x.replace.filter.self, iv x.replace.filter.types, iv x.replace.filter.notTypes, iv x.replace.filter.colors, iv x.replace.filter.notColors, sv x.replace.filter.sub, iv x.replace.filter.keys, iv x.replace.filter.tap, iv x.replace.filter.power.kind, iv x.replace.filter.power.n, iv x.replace.filter.tough.kind, iv x.replace.filter.tough.n, iv x.replace.filter.value.kind, iv x.replace.filter.value.n, iv x.replace.do_, iv x.replace.n, iv x.replace.zone, iv x.replace.counter]
def GAbility.ks : List K := [.lit .int] ++ (GFilter.ks ++ ([.sl GMod.ks 176] ++ (GPrice.ks ++ ([.lit .bool] ++ (GTrigger.ks ++ ([.lit .bool, .sl GSpec.ks 144, .sl GEffect.ks 560] ++ (GReplace.ks)))))))
def GAbility.ok (x : GAbility) : Prop := (x.filter.ok) ∧ (x.mods.length * 176 ≤ limB) ∧ (∀ y ∈ x.mods, GMod.ok y) ∧ (x.price.ok) ∧ (x.trigger.ok) ∧ (x.specs.length * 144 ≤ limB) ∧ (∀ y ∈ x.specs, GSpec.ok y) ∧ (x.effects.length * 560 ≤ limB) ∧ (∀ y ∈ x.effects, GEffect.ok y) ∧ (x.replace.ok)
theorem GAbility.ks_len : GAbility.ks.length = 72 := rfl
set_option maxRecDepth 100000 in
theorem GAbility.of_fit (ts : List Tr) (h : FitS GAbility.ks ts) : ∃ x : GAbility, x.ok ∧ ts = x.enc := by
 unfold GAbility.ks at h
 obtain ⟨_, _, rfl, g0, h1⟩ := fitS_append.1 h
 obtain ⟨_, _, rfl, k1, q1⟩ := fitS_cons.1 g0
 obtain ⟨a1, rfl⟩ := fitK_int.1 k1
 obtain rfl := fitS_nil.1 q1
 obtain ⟨_, _, rfl, g1, h2⟩ := fitS_append.1 h1
 obtain ⟨y1, oy1, rfl⟩ := GFilter.of_fit _ g1
 obtain ⟨_, _, rfl, g2, h3⟩ := fitS_append.1 h2
 obtain ⟨_, _, rfl, k2, q2⟩ := fitS_cons.1 g2
 obtain ⟨_, rfl, hb2, hc2⟩ := fitK_sl.1 k2
 obtain ⟨l2, rfl, ho2⟩ := fitS_list GMod.of_fit hc2
 rw [List.length_map] at hb2
 obtain rfl := fitS_nil.1 q2
 obtain ⟨_, _, rfl, g3, h4⟩ := fitS_append.1 h3
 obtain ⟨y3, oy3, rfl⟩ := GPrice.of_fit _ g3
 obtain ⟨_, _, rfl, g4, h5⟩ := fitS_append.1 h4
 obtain ⟨_, _, rfl, k3, q3⟩ := fitS_cons.1 g4
 obtain ⟨a3, rfl⟩ := fitK_bool.1 k3
 obtain rfl := fitS_nil.1 q3
 obtain ⟨_, _, rfl, g5, h6⟩ := fitS_append.1 h5
 obtain ⟨y5, oy5, rfl⟩ := GTrigger.of_fit _ g5
 obtain ⟨_, _, rfl, g6, h7⟩ := fitS_append.1 h6
 obtain ⟨_, _, rfl, k4, q4⟩ := fitS_cons.1 g6
 obtain ⟨a4, rfl⟩ := fitK_bool.1 k4
 obtain ⟨_, _, rfl, k5, q5⟩ := fitS_cons.1 q4
 obtain ⟨_, rfl, hb5, hc5⟩ := fitK_sl.1 k5
 obtain ⟨l5, rfl, ho5⟩ := fitS_list GSpec.of_fit hc5
 rw [List.length_map] at hb5
 obtain ⟨_, _, rfl, k6, q6⟩ := fitS_cons.1 q5
 obtain ⟨_, rfl, hb6, hc6⟩ := fitK_sl.1 k6
 obtain ⟨l6, rfl, ho6⟩ := fitS_list GEffect.of_fit hc6
 rw [List.length_map] at hb6
 obtain rfl := fitS_nil.1 q6
 obtain ⟨y7, oy7, rfl⟩ := GReplace.of_fit _ h7
 exact ⟨⟨a1, y1, l2, y3, a3, y5, a4, l5, l6, y7⟩, ⟨oy1, hb2, ho2, oy3, oy5, hb5, ho5, hb6, ho6, oy7⟩, rfl⟩
set_option maxRecDepth 100000 in
theorem GAbility.fit (x : GAbility) (h : x.ok) : FitS GAbility.ks x.enc := by
 obtain ⟨h0, h1, h2, h3, h4, h5, h6, h7, h8, h9⟩ := h
 unfold GAbility.ks
 refine fitS_append.2 ⟨[iv x.kind], _, rfl, fitS_cons.2 ⟨_, _, rfl, fitK_int.2 ⟨_, rfl⟩, fitS_nil.2 rfl⟩, ?_⟩
 refine fitS_append.2 ⟨x.filter.enc, _, rfl, GFilter.fit x.filter h0, ?_⟩
 refine fitS_append.2 ⟨[.sl 20 (x.mods.map GMod.enc)], _, rfl, fitS_cons.2 ⟨_, _, rfl, fitK_sl.2 ⟨_, rfl, by rw [List.length_map]; exact h1, fitS_map GMod.fit h2⟩, fitS_nil.2 rfl⟩, ?_⟩
 refine fitS_append.2 ⟨x.price.enc, _, rfl, GPrice.fit x.price h3, ?_⟩
 refine fitS_append.2 ⟨[bv x.slow], _, rfl, fitS_cons.2 ⟨_, _, rfl, fitK_bool.2 ⟨_, rfl⟩, fitS_nil.2 rfl⟩, ?_⟩
 refine fitS_append.2 ⟨x.trigger.enc, _, rfl, GTrigger.fit x.trigger h4, ?_⟩
 refine fitS_append.2 ⟨[bv x.may, .sl 18 (x.specs.map GSpec.enc), .sl 64 (x.effects.map GEffect.enc)], _, rfl, fitS_cons.2 ⟨_, _, rfl, fitK_bool.2 ⟨_, rfl⟩, fitS_cons.2 ⟨_, _, rfl, fitK_sl.2 ⟨_, rfl, by rw [List.length_map]; exact h5, fitS_map GSpec.fit h6⟩, fitS_cons.2 ⟨_, _, rfl, fitK_sl.2 ⟨_, rfl, by rw [List.length_map]; exact h7, fitS_map GEffect.fit h8⟩, fitS_nil.2 rfl⟩⟩⟩, ?_⟩
 exact GReplace.fit x.replace h9
structure GTarget where
 object : Int
 player : Int
def GTarget.enc (x : GTarget) : List Tr := [iv x.object, iv x.player]
def GTarget.ks : List K := [.lit .int, .lit .int]
def GTarget.ok (_ : GTarget) : Prop := True
theorem GTarget.ks_len : GTarget.ks.length = 2 := rfl
set_option maxRecDepth 100000 in
theorem GTarget.of_fit (ts : List Tr) (h : FitS GTarget.ks ts) : ∃ x : GTarget, x.ok ∧ ts = x.enc := by
 unfold GTarget.ks at h
 obtain ⟨_, _, rfl, k1, q1⟩ := fitS_cons.1 h
 obtain ⟨a1, rfl⟩ := fitK_int.1 k1
 obtain ⟨_, _, rfl, k2, q2⟩ := fitS_cons.1 q1
 obtain ⟨a2, rfl⟩ := fitK_int.1 k2
 obtain rfl := fitS_nil.1 q2
 exact ⟨⟨a1, a2⟩, trivial, rfl⟩
set_option maxRecDepth 100000 in
theorem GTarget.fit (x : GTarget) (_ : x.ok) : FitS GTarget.ks x.enc := by
 unfold GTarget.ks
 exact fitS_cons.2 ⟨_, _, rfl, fitK_int.2 ⟨_, rfl⟩, fitS_cons.2 ⟨_, _, rfl, fitK_int.2 ⟨_, rfl⟩, fitS_nil.2 rfl⟩⟩
structure GEvent where
 kind : Int
 source : Int
 object : Int
 player : Int
 amount : Int
 from_ : Int
 to_ : Int
 cause : Int
 counter : Int
 card : Int
 combat : Bool
 tapped : Bool
 extra0 : Int
 extra1 : Int
 extra2 : Int
def GEvent.enc (x : GEvent) : List Tr := [iv x.kind, iv x.source, iv x.object, iv x.player, iv x.amount, iv x.from_, iv x.to_, iv x.cause, iv x.counter, iv x.card, bv x.combat, bv x.tapped, iv x.extra0, iv x.extra1, iv x.extra2]
def GEvent.ks : List K := [.lit .int, .lit .int, .lit .int, .lit .int, .lit .int, .lit .int, .lit .int, .lit .int, .lit .int, .lit .int, .lit .bool, .lit .bool, .lit .int, .lit .int, .lit .int]
def GEvent.ok (_ : GEvent) : Prop := True
theorem GEvent.ks_len : GEvent.ks.length = 15 := rfl
set_option maxRecDepth 100000 in
theorem GEvent.of_fit (ts : List Tr) (h : FitS GEvent.ks ts) : ∃ x : GEvent, x.ok ∧ ts = x.enc := by
 unfold GEvent.ks at h
 obtain ⟨_, _, rfl, k1, q1⟩ := fitS_cons.1 h
 obtain ⟨a1, rfl⟩ := fitK_int.1 k1
 obtain ⟨_, _, rfl, k2, q2⟩ := fitS_cons.1 q1
 obtain ⟨a2, rfl⟩ := fitK_int.1 k2
 obtain ⟨_, _, rfl, k3, q3⟩ := fitS_cons.1 q2
 obtain ⟨a3, rfl⟩ := fitK_int.1 k3
 obtain ⟨_, _, rfl, k4, q4⟩ := fitS_cons.1 q3
 obtain ⟨a4, rfl⟩ := fitK_int.1 k4
 obtain ⟨_, _, rfl, k5, q5⟩ := fitS_cons.1 q4
 obtain ⟨a5, rfl⟩ := fitK_int.1 k5
 obtain ⟨_, _, rfl, k6, q6⟩ := fitS_cons.1 q5
 obtain ⟨a6, rfl⟩ := fitK_int.1 k6
 obtain ⟨_, _, rfl, k7, q7⟩ := fitS_cons.1 q6
 obtain ⟨a7, rfl⟩ := fitK_int.1 k7
 obtain ⟨_, _, rfl, k8, q8⟩ := fitS_cons.1 q7
 obtain ⟨a8, rfl⟩ := fitK_int.1 k8
 obtain ⟨_, _, rfl, k9, q9⟩ := fitS_cons.1 q8
 obtain ⟨a9, rfl⟩ := fitK_int.1 k9
 obtain ⟨_, _, rfl, k10, q10⟩ := fitS_cons.1 q9
 obtain ⟨a10, rfl⟩ := fitK_int.1 k10
 obtain ⟨_, _, rfl, k11, q11⟩ := fitS_cons.1 q10
 obtain ⟨a11, rfl⟩ := fitK_bool.1 k11
 obtain ⟨_, _, rfl, k12, q12⟩ := fitS_cons.1 q11
 obtain ⟨a12, rfl⟩ := fitK_bool.1 k12
 obtain ⟨_, _, rfl, k13, q13⟩ := fitS_cons.1 q12
 obtain ⟨a13, rfl⟩ := fitK_int.1 k13
 obtain ⟨_, _, rfl, k14, q14⟩ := fitS_cons.1 q13
 obtain ⟨a14, rfl⟩ := fitK_int.1 k14
 obtain ⟨_, _, rfl, k15, q15⟩ := fitS_cons.1 q14
 obtain ⟨a15, rfl⟩ := fitK_int.1 k15
 obtain rfl := fitS_nil.1 q15
 exact ⟨⟨a1, a2, a3, a4, a5, a6, a7, a8, a9, a10, a11, a12, a13, a14, a15⟩, trivial, rfl⟩
set_option maxRecDepth 100000 in
theorem GEvent.fit (x : GEvent) (_ : x.ok) : FitS GEvent.ks x.enc := by
 unfold GEvent.ks
 exact fitS_cons.2 ⟨_, _, rfl, fitK_int.2 ⟨_, rfl⟩, fitS_cons.2 ⟨_, _, rfl, fitK_int.2 ⟨_, rfl⟩, fitS_cons.2 ⟨_, _, rfl, fitK_int.2 ⟨_, rfl⟩, fitS_cons.2 ⟨_, _, rfl, fitK_int.2 ⟨_, rfl⟩, fitS_cons.2 ⟨_, _, rfl, fitK_int.2 ⟨_, rfl⟩, fitS_cons.2 ⟨_, _, rfl, fitK_int.2 ⟨_, rfl⟩, fitS_cons.2 ⟨_, _, rfl, fitK_int.2 ⟨_, rfl⟩, fitS_cons.2 ⟨_, _, rfl, fitK_int.2 ⟨_, rfl⟩, fitS_cons.2 ⟨_, _, rfl, fitK_int.2 ⟨_, rfl⟩, fitS_cons.2 ⟨_, _, rfl, fitK_int.2 ⟨_, rfl⟩, fitS_cons.2 ⟨_, _, rfl, fitK_bool.2 ⟨_, rfl⟩, fitS_cons.2 ⟨_, _, rfl, fitK_bool.2 ⟨_, rfl⟩, fitS_cons.2 ⟨_, _, rfl, fitK_int.2 ⟨_, rfl⟩, fitS_cons.2 ⟨_, _, rfl, fitK_int.2 ⟨_, rfl⟩, fitS_cons.2 ⟨_, _, rfl, fitK_int.2 ⟨_, rfl⟩, fitS_nil.2 rfl⟩⟩⟩⟩⟩⟩⟩⟩⟩⟩⟩⟩⟩⟩⟩
structure GItem where
 id : Int
 kind : Int
 source : Int
 control : Int
 x : Int
 copy : Bool
 ability : GAbility
 targets : List GTarget
 event : GEvent
def GItem.enc (x : GItem) : List Tr := [iv x.id, iv x.kind, iv x.source, iv x.control, iv x.x, bv x.copy, iv x.ability.kind, iv x.ability.filter.zone, iv x.ability.filter.who, iv x.ability.filter.self, iv x.ability.filter.types, iv x.ability.filter.notTypes, iv x.ability.filter.colors, iv x.ability.filter.notColors, sv x.ability.filter.sub, iv x.ability.filter.keys, iv x.ability.filter.tap, iv x.ability.filter.power.kind, iv x.ability.filter.power.n, iv x.ability.filter.tough.kind, iv x.ability.filter.tough.n, iv x.ability.filter.value.kind, iv x.ability.filter.value.n, .sl 20 (x.ability.mods.map GMod.enc), iv x.ability.price.mana.generic, iv x.ability.price.mana.x, iv x.ability.price.mana.color0, iv x.ability.price.mana.color1, iv x.ability.price.mana.color2, iv x.ability.price.mana.color3, iv x.ability.price.mana.color4, bv x.ability.price.tap, bv x.ability.price.sacrifice, iv x.ability.price.life, bv x.ability.slow, iv x.ability.trigger.when, iv x.ability.trigger.who, iv x.ability.trigger.filter.zone, iv x.ability.trigger.filter.who, iv x.ability.trigger.filter.self, iv x.ability.trigger.filter.types, iv x.ability.trigger.filter.notTypes, iv x.ability.trigger.filter.colors, iv x.ability.trigger.filter.notColors, sv x.ability.trigger.filter.sub, iv x.ability.trigger.filter.keys, iv x.ability.trigger.filter.tap, iv x.ability.trigger.filter.power.kind, iv x.ability.trigger.filter.power.n, iv x.ability.trigger.filter.tough.kind, iv x.ability.trigger.filter.tough.n, iv x.ability.trigger.filter.value.kind, iv x.ability.trigger.filter.value.n, bv x.ability.may, .sl 18 (x.ability.specs.map GSpec.enc), .sl 64 (x.ability.effects.map GEffect.enc), iv x.ability.replace.on, iv x.ability.replace.who, iv x.ability.replace.filter.zone, iv x.ability.replace.filter.who, iv x.ability.replace.filter.self, iv x.ability.replace.filter.types, iv x.ability.replace.filter.notTypes, iv x.ability.replace.filter.colors, iv x.ability.replace.filter.notColors, sv x.ability.replace.filter.sub, iv x.ability.replace.filter.keys, iv x.ability.replace.filter.tap, iv x.ability.replace.filter.power.kind, iv x.ability.replace.filter.power.n, iv x.ability.replace.filter.tough.kind, iv x.ability.replace.filter.tough.n, iv x.ability.replace.filter.value.kind, iv x.ability.replace.filter.value.n, iv x.ability.replace.do_, iv x.ability.replace.n, iv x.ability.replace.zone, iv x.ability.replace.counter, .sl 2 (x.targets.map GTarget.enc), iv x.event.kind, iv x.event.source, iv x.event.object, iv x.event.player, iv x.event.amount, iv x.event.from_, iv x.event.to_, iv x.event.cause, iv x.event.counter, iv x.event.card, bv x.event.combat, bv x.event.tapped, iv x.event.extra0, iv x.event.extra1, iv x.event.extra2]
def GItem.ks : List K := [.lit .int, .lit .int, .lit .int, .lit .int, .lit .int, .lit .bool] ++ (GAbility.ks ++ ([.sl GTarget.ks 16] ++ (GEvent.ks)))
def GItem.ok (x : GItem) : Prop := (x.ability.ok) ∧ (x.targets.length * 16 ≤ limB) ∧ (∀ y ∈ x.targets, GTarget.ok y) ∧ (x.event.ok)
theorem GItem.ks_len : GItem.ks.length = 94 := rfl
set_option maxRecDepth 100000 in
theorem GItem.of_fit (ts : List Tr) (h : FitS GItem.ks ts) : ∃ x : GItem, x.ok ∧ ts = x.enc := by
 unfold GItem.ks at h
 obtain ⟨_, _, rfl, g0, h1⟩ := fitS_append.1 h
 obtain ⟨_, _, rfl, k1, q1⟩ := fitS_cons.1 g0
 obtain ⟨a1, rfl⟩ := fitK_int.1 k1
 obtain ⟨_, _, rfl, k2, q2⟩ := fitS_cons.1 q1
 obtain ⟨a2, rfl⟩ := fitK_int.1 k2
 obtain ⟨_, _, rfl, k3, q3⟩ := fitS_cons.1 q2
 obtain ⟨a3, rfl⟩ := fitK_int.1 k3
 obtain ⟨_, _, rfl, k4, q4⟩ := fitS_cons.1 q3
 obtain ⟨a4, rfl⟩ := fitK_int.1 k4
 obtain ⟨_, _, rfl, k5, q5⟩ := fitS_cons.1 q4
 obtain ⟨a5, rfl⟩ := fitK_int.1 k5
 obtain ⟨_, _, rfl, k6, q6⟩ := fitS_cons.1 q5
 obtain ⟨a6, rfl⟩ := fitK_bool.1 k6
 obtain rfl := fitS_nil.1 q6
 obtain ⟨_, _, rfl, g1, h2⟩ := fitS_append.1 h1
 obtain ⟨y1, oy1, rfl⟩ := GAbility.of_fit _ g1
 obtain ⟨_, _, rfl, g2, h3⟩ := fitS_append.1 h2
 obtain ⟨_, _, rfl, k7, q7⟩ := fitS_cons.1 g2
 obtain ⟨_, rfl, hb7, hc7⟩ := fitK_sl.1 k7
 obtain ⟨l7, rfl, ho7⟩ := fitS_list GTarget.of_fit hc7
 rw [List.length_map] at hb7
 obtain rfl := fitS_nil.1 q7
 obtain ⟨y3, oy3, rfl⟩ := GEvent.of_fit _ h3
 exact ⟨⟨a1, a2, a3, a4, a5, a6, y1, l7, y3⟩, ⟨oy1, hb7, ho7, oy3⟩, rfl⟩
set_option maxRecDepth 100000 in
theorem GItem.fit (x : GItem) (h : x.ok) : FitS GItem.ks x.enc := by
 obtain ⟨h0, h1, h2, h3⟩ := h
 unfold GItem.ks
 refine fitS_append.2 ⟨[iv x.id, iv x.kind, iv x.source, iv x.control, iv x.x, bv x.copy], _, rfl, fitS_cons.2 ⟨_, _, rfl, fitK_int.2 ⟨_, rfl⟩, fitS_cons.2 ⟨_, _, rfl, fitK_int.2 ⟨_, rfl⟩, fitS_cons.2 ⟨_, _, rfl, fitK_int.2 ⟨_, rfl⟩, fitS_cons.2 ⟨_, _, rfl, fitK_int.2 ⟨_, rfl⟩, fitS_cons.2 ⟨_, _, rfl, fitK_int.2 ⟨_, rfl⟩, fitS_cons.2 ⟨_, _, rfl, fitK_bool.2 ⟨_, rfl⟩, fitS_nil.2 rfl⟩⟩⟩⟩⟩⟩, ?_⟩
 refine fitS_append.2 ⟨x.ability.enc, _, rfl, GAbility.fit x.ability h0, ?_⟩
 refine fitS_append.2 ⟨[.sl 2 (x.targets.map GTarget.enc)], _, rfl, fitS_cons.2 ⟨_, _, rfl, fitK_sl.2 ⟨_, rfl, by rw [List.length_map]; exact h1, fitS_map GTarget.fit h2⟩, fitS_nil.2 rfl⟩, ?_⟩
 exact GEvent.fit x.event h3
structure GWaiting where
 source : Int
 control : Int
 ability : GAbility
 event : GEvent
def GWaiting.enc (x : GWaiting) : List Tr := [iv x.source, iv x.control, iv x.ability.kind, iv x.ability.filter.zone, iv x.ability.filter.who, iv x.ability.filter.self, iv x.ability.filter.types, iv x.ability.filter.notTypes, iv x.ability.filter.colors, iv x.ability.filter.notColors, sv x.ability.filter.sub, iv x.ability.filter.keys, iv x.ability.filter.tap, iv x.ability.filter.power.kind, iv x.ability.filter.power.n, iv x.ability.filter.tough.kind, iv x.ability.filter.tough.n, iv x.ability.filter.value.kind, iv x.ability.filter.value.n, .sl 20 (x.ability.mods.map GMod.enc), iv x.ability.price.mana.generic, iv x.ability.price.mana.x, iv x.ability.price.mana.color0, iv x.ability.price.mana.color1, iv x.ability.price.mana.color2, iv x.ability.price.mana.color3, iv x.ability.price.mana.color4, bv x.ability.price.tap, bv x.ability.price.sacrifice, iv x.ability.price.life, bv x.ability.slow, iv x.ability.trigger.when, iv x.ability.trigger.who, iv x.ability.trigger.filter.zone, iv x.ability.trigger.filter.who, iv x.ability.trigger.filter.self, iv x.ability.trigger.filter.types, iv x.ability.trigger.filter.notTypes, iv x.ability.trigger.filter.colors, iv x.ability.trigger.filter.notColors, sv x.ability.trigger.filter.sub, iv x.ability.trigger.filter.keys, iv x.ability.trigger.filter.tap, iv x.ability.trigger.filter.power.kind, iv x.ability.trigger.filter.power.n, iv x.ability.trigger.filter.tough.kind, iv x.ability.trigger.filter.tough.n, iv x.ability.trigger.filter.value.kind, iv x.ability.trigger.filter.value.n, bv x.ability.may, .sl 18 (x.ability.specs.map GSpec.enc), .sl 64 (x.ability.effects.map GEffect.enc), iv x.ability.replace.on, iv x.ability.replace.who, iv x.ability.replace.filter.zone, iv x.ability.replace.filter.who, iv x.ability.replace.filter.self, iv x.ability.replace.filter.types, iv x.ability.replace.filter.notTypes, iv x.ability.replace.filter.colors, iv x.ability.replace.filter.notColors, sv x.ability.replace.filter.sub, iv x.ability.replace.filter.keys, iv x.ability.replace.filter.tap, iv x.ability.replace.filter.power.kind, iv x.ability.replace.filter.power.n, iv x.ability.replace.filter.tough.kind, iv x.ability.replace.filter.tough.n, iv x.ability.replace.filter.value.kind, iv x.ability.replace.filter.value.n, iv x.ability.replace.do_, iv x.ability.replace.n, iv x.ability.replace.zone, iv x.ability.replace.counter, iv x.event.kind, iv x.event.source, iv x.event.object, iv x.event.player, iv x.event.amount, iv x.event.from_, iv x.event.to_, iv x.event.cause, iv x.event.counter, iv x.event.card, bv x.event.combat, bv x.event.tapped, iv x.event.extra0, iv x.event.extra1, iv x.event.extra2]
def GWaiting.ks : List K := [.lit .int, .lit .int] ++ (GAbility.ks ++ (GEvent.ks))
def GWaiting.ok (x : GWaiting) : Prop := (x.ability.ok) ∧ (x.event.ok)
theorem GWaiting.ks_len : GWaiting.ks.length = 89 := rfl
set_option maxRecDepth 100000 in
theorem GWaiting.of_fit (ts : List Tr) (h : FitS GWaiting.ks ts) : ∃ x : GWaiting, x.ok ∧ ts = x.enc := by
 unfold GWaiting.ks at h
 obtain ⟨_, _, rfl, g0, h1⟩ := fitS_append.1 h
 obtain ⟨_, _, rfl, k1, q1⟩ := fitS_cons.1 g0
 obtain ⟨a1, rfl⟩ := fitK_int.1 k1
 obtain ⟨_, _, rfl, k2, q2⟩ := fitS_cons.1 q1
 obtain ⟨a2, rfl⟩ := fitK_int.1 k2
 obtain rfl := fitS_nil.1 q2
 obtain ⟨_, _, rfl, g1, h2⟩ := fitS_append.1 h1
 obtain ⟨y1, oy1, rfl⟩ := GAbility.of_fit _ g1
 obtain ⟨y2, oy2, rfl⟩ := GEvent.of_fit _ h2
 exact ⟨⟨a1, a2, y1, y2⟩, ⟨oy1, oy2⟩, rfl⟩
set_option maxRecDepth 100000 in
theorem GWaiting.fit (x : GWaiting) (h : x.ok) : FitS GWaiting.ks x.enc := by
 obtain ⟨h0, h1⟩ := h
 unfold GWaiting.ks
 refine fitS_append.2 ⟨[iv x.source, iv x.control], _, rfl, fitS_cons.2 ⟨_, _, rfl, fitK_int.2 ⟨_, rfl⟩, fitS_cons.2 ⟨_, _, rfl, fitK_int.2 ⟨_, rfl⟩, fitS_nil.2 rfl⟩⟩, ?_⟩
 refine fitS_append.2 ⟨x.ability.enc, _, rfl, GAbility.fit x.ability h0, ?_⟩
 exact GEvent.fit x.event h1
structure GCont where
 stamp : Int
 control : Int
 source : Int
 until_ : Int
 objects : List Int
 mods : List GMod
def GCont.enc (x : GCont) : List Tr := [iv x.stamp, iv x.control, iv x.source, iv x.until_, .sl 1 (x.objects.map encI), .sl 20 (x.mods.map GMod.enc)]
def GCont.ks : List K := [.lit .int, .lit .int, .lit .int, .lit .int, .sl [.lit .int] 8, .sl GMod.ks 176]
def GCont.ok (x : GCont) : Prop := (x.objects.length * 8 ≤ limB) ∧ (x.mods.length * 176 ≤ limB) ∧ (∀ y ∈ x.mods, GMod.ok y)
theorem GCont.ks_len : GCont.ks.length = 6 := rfl
set_option maxRecDepth 100000 in
theorem GCont.of_fit (ts : List Tr) (h : FitS GCont.ks ts) : ∃ x : GCont, x.ok ∧ ts = x.enc := by
 unfold GCont.ks at h
 obtain ⟨_, _, rfl, k1, q1⟩ := fitS_cons.1 h
 obtain ⟨a1, rfl⟩ := fitK_int.1 k1
 obtain ⟨_, _, rfl, k2, q2⟩ := fitS_cons.1 q1
 obtain ⟨a2, rfl⟩ := fitK_int.1 k2
 obtain ⟨_, _, rfl, k3, q3⟩ := fitS_cons.1 q2
 obtain ⟨a3, rfl⟩ := fitK_int.1 k3
 obtain ⟨_, _, rfl, k4, q4⟩ := fitS_cons.1 q3
 obtain ⟨a4, rfl⟩ := fitK_int.1 k4
 obtain ⟨_, _, rfl, k5, q5⟩ := fitS_cons.1 q4
 obtain ⟨_, rfl, hb5, hc5⟩ := fitK_sl.1 k5
 obtain ⟨l5, rfl, ho5⟩ := fitS_list int_of_fit hc5
 rw [List.length_map] at hb5
 obtain ⟨_, _, rfl, k6, q6⟩ := fitS_cons.1 q5
 obtain ⟨_, rfl, hb6, hc6⟩ := fitK_sl.1 k6
 obtain ⟨l6, rfl, ho6⟩ := fitS_list GMod.of_fit hc6
 rw [List.length_map] at hb6
 obtain rfl := fitS_nil.1 q6
 exact ⟨⟨a1, a2, a3, a4, l5, l6⟩, ⟨hb5, hb6, ho6⟩, rfl⟩
set_option maxRecDepth 100000 in
theorem GCont.fit (x : GCont) (h : x.ok) : FitS GCont.ks x.enc := by
 obtain ⟨h0, h1, h2⟩ := h
 unfold GCont.ks
 exact fitS_cons.2 ⟨_, _, rfl, fitK_int.2 ⟨_, rfl⟩, fitS_cons.2 ⟨_, _, rfl, fitK_int.2 ⟨_, rfl⟩, fitS_cons.2 ⟨_, _, rfl, fitK_int.2 ⟨_, rfl⟩, fitS_cons.2 ⟨_, _, rfl, fitK_int.2 ⟨_, rfl⟩, fitS_cons.2 ⟨_, _, rfl, fitK_sl.2 ⟨_, rfl, by rw [List.length_map]; exact h0, fitS_map int_fit (fun _ _ => trivial)⟩, fitS_cons.2 ⟨_, _, rfl, fitK_sl.2 ⟨_, rfl, by rw [List.length_map]; exact h1, fitS_map GMod.fit h2⟩, fitS_nil.2 rfl⟩⟩⟩⟩⟩⟩
structure GState where
 players : List GPlayer
 objects : List GObject
 battlefield : List Int
 exile : List Int
 stack : List GItem
 waiting : List GWaiting
 conts : List GCont
 turn : Int
 active : Int
 step : Int
 begun : Bool
 priority : Int
 passes : Int
 nextId : Int
 nextStamp : Int
 seed : Int
 extra : List Int
 over : Int
 winner : Int
def GState.enc (x : GState) : List Tr := [.sl 14 (x.players.map GPlayer.enc), .sl 19 (x.objects.map GObject.enc), .sl 1 (x.battlefield.map encI), .sl 1 (x.exile.map encI), .sl 94 (x.stack.map GItem.enc), .sl 89 (x.waiting.map GWaiting.enc), .sl 6 (x.conts.map GCont.enc), iv x.turn, iv x.active, iv x.step, bv x.begun, iv x.priority, iv x.passes, iv x.nextId, iv x.nextStamp, .lit (.int .u64 x.seed), .sl 1 (x.extra.map encI), iv x.over, iv x.winner]
def GState.ks : List K := [.sl GPlayer.ks 152, .sl GObject.ks 128, .sl [.lit .int] 8, .sl [.lit .int] 8, .sl GItem.ks 824, .sl GWaiting.ks 768, .sl GCont.ks 80, .lit .int, .lit .int, .lit .int, .lit .bool, .lit .int, .lit .int, .lit .int, .lit .int, .lit .u64, .sl [.lit .int] 8, .lit .int, .lit .int]
def GState.ok (x : GState) : Prop := (x.players.length * 152 ≤ limB) ∧ (∀ y ∈ x.players, GPlayer.ok y) ∧ (x.objects.length * 128 ≤ limB) ∧ (∀ y ∈ x.objects, GObject.ok y) ∧ (x.battlefield.length * 8 ≤ limB) ∧ (x.exile.length * 8 ≤ limB) ∧ (x.stack.length * 824 ≤ limB) ∧ (∀ y ∈ x.stack, GItem.ok y) ∧ (x.waiting.length * 768 ≤ limB) ∧ (∀ y ∈ x.waiting, GWaiting.ok y) ∧ (x.conts.length * 80 ≤ limB) ∧ (∀ y ∈ x.conts, GCont.ok y) ∧ (x.extra.length * 8 ≤ limB)
theorem GState.ks_len : GState.ks.length = 19 := rfl
set_option maxRecDepth 100000 in
theorem GState.of_fit (ts : List Tr) (h : FitS GState.ks ts) : ∃ x : GState, x.ok ∧ ts = x.enc := by
 unfold GState.ks at h
 obtain ⟨_, _, rfl, k1, q1⟩ := fitS_cons.1 h
 obtain ⟨_, rfl, hb1, hc1⟩ := fitK_sl.1 k1
 obtain ⟨l1, rfl, ho1⟩ := fitS_list GPlayer.of_fit hc1
 rw [List.length_map] at hb1
 obtain ⟨_, _, rfl, k2, q2⟩ := fitS_cons.1 q1
 obtain ⟨_, rfl, hb2, hc2⟩ := fitK_sl.1 k2
 obtain ⟨l2, rfl, ho2⟩ := fitS_list GObject.of_fit hc2
 rw [List.length_map] at hb2
 obtain ⟨_, _, rfl, k3, q3⟩ := fitS_cons.1 q2
 obtain ⟨_, rfl, hb3, hc3⟩ := fitK_sl.1 k3
 obtain ⟨l3, rfl, ho3⟩ := fitS_list int_of_fit hc3
 rw [List.length_map] at hb3
 obtain ⟨_, _, rfl, k4, q4⟩ := fitS_cons.1 q3
 obtain ⟨_, rfl, hb4, hc4⟩ := fitK_sl.1 k4
 obtain ⟨l4, rfl, ho4⟩ := fitS_list int_of_fit hc4
 rw [List.length_map] at hb4
 obtain ⟨_, _, rfl, k5, q5⟩ := fitS_cons.1 q4
 obtain ⟨_, rfl, hb5, hc5⟩ := fitK_sl.1 k5
 obtain ⟨l5, rfl, ho5⟩ := fitS_list GItem.of_fit hc5
 rw [List.length_map] at hb5
 obtain ⟨_, _, rfl, k6, q6⟩ := fitS_cons.1 q5
 obtain ⟨_, rfl, hb6, hc6⟩ := fitK_sl.1 k6
 obtain ⟨l6, rfl, ho6⟩ := fitS_list GWaiting.of_fit hc6
 rw [List.length_map] at hb6
 obtain ⟨_, _, rfl, k7, q7⟩ := fitS_cons.1 q6
 obtain ⟨_, rfl, hb7, hc7⟩ := fitK_sl.1 k7
 obtain ⟨l7, rfl, ho7⟩ := fitS_list GCont.of_fit hc7
 rw [List.length_map] at hb7
 obtain ⟨_, _, rfl, k8, q8⟩ := fitS_cons.1 q7
 obtain ⟨a8, rfl⟩ := fitK_int.1 k8
 obtain ⟨_, _, rfl, k9, q9⟩ := fitS_cons.1 q8
 obtain ⟨a9, rfl⟩ := fitK_int.1 k9
 obtain ⟨_, _, rfl, k10, q10⟩ := fitS_cons.1 q9
 obtain ⟨a10, rfl⟩ := fitK_int.1 k10
 obtain ⟨_, _, rfl, k11, q11⟩ := fitS_cons.1 q10
 obtain ⟨a11, rfl⟩ := fitK_bool.1 k11
 obtain ⟨_, _, rfl, k12, q12⟩ := fitS_cons.1 q11
 obtain ⟨a12, rfl⟩ := fitK_int.1 k12
 obtain ⟨_, _, rfl, k13, q13⟩ := fitS_cons.1 q12
 obtain ⟨a13, rfl⟩ := fitK_int.1 k13
 obtain ⟨_, _, rfl, k14, q14⟩ := fitS_cons.1 q13
 obtain ⟨a14, rfl⟩ := fitK_int.1 k14
 obtain ⟨_, _, rfl, k15, q15⟩ := fitS_cons.1 q14
 obtain ⟨a15, rfl⟩ := fitK_int.1 k15
 obtain ⟨_, _, rfl, k16, q16⟩ := fitS_cons.1 q15
 obtain ⟨a16, rfl⟩ := fitK_u64.1 k16
 obtain ⟨_, _, rfl, k17, q17⟩ := fitS_cons.1 q16
 obtain ⟨_, rfl, hb17, hc17⟩ := fitK_sl.1 k17
 obtain ⟨l17, rfl, ho17⟩ := fitS_list int_of_fit hc17
 rw [List.length_map] at hb17
 obtain ⟨_, _, rfl, k18, q18⟩ := fitS_cons.1 q17
 obtain ⟨a18, rfl⟩ := fitK_int.1 k18
 obtain ⟨_, _, rfl, k19, q19⟩ := fitS_cons.1 q18
 obtain ⟨a19, rfl⟩ := fitK_int.1 k19
 obtain rfl := fitS_nil.1 q19
 exact ⟨⟨l1, l2, l3, l4, l5, l6, l7, a8, a9, a10, a11, a12, a13, a14, a15, a16, l17, a18, a19⟩, ⟨hb1, ho1, hb2, ho2, hb3, hb4, hb5, ho5, hb6, ho6, hb7, ho7, hb17⟩, rfl⟩
set_option maxRecDepth 100000 in
theorem GState.fit (x : GState) (h : x.ok) : FitS GState.ks x.enc := by
 obtain ⟨h0, h1, h2, h3, h4, h5, h6, h7, h8, h9, h10, h11, h12⟩ := h
 unfold GState.ks
 exact fitS_cons.2 ⟨_, _, rfl, fitK_sl.2 ⟨_, rfl, by rw [List.length_map]; exact h0, fitS_map GPlayer.fit h1⟩, fitS_cons.2 ⟨_, _, rfl, fitK_sl.2 ⟨_, rfl, by rw [List.length_map]; exact h2, fitS_map GObject.fit h3⟩, fitS_cons.2 ⟨_, _, rfl, fitK_sl.2 ⟨_, rfl, by rw [List.length_map]; exact h4, fitS_map int_fit (fun _ _ => trivial)⟩, fitS_cons.2 ⟨_, _, rfl, fitK_sl.2 ⟨_, rfl, by rw [List.length_map]; exact h5, fitS_map int_fit (fun _ _ => trivial)⟩, fitS_cons.2 ⟨_, _, rfl, fitK_sl.2 ⟨_, rfl, by rw [List.length_map]; exact h6, fitS_map GItem.fit h7⟩, fitS_cons.2 ⟨_, _, rfl, fitK_sl.2 ⟨_, rfl, by rw [List.length_map]; exact h8, fitS_map GWaiting.fit h9⟩, fitS_cons.2 ⟨_, _, rfl, fitK_sl.2 ⟨_, rfl, by rw [List.length_map]; exact h10, fitS_map GCont.fit h11⟩, fitS_cons.2 ⟨_, _, rfl, fitK_int.2 ⟨_, rfl⟩, fitS_cons.2 ⟨_, _, rfl, fitK_int.2 ⟨_, rfl⟩, fitS_cons.2 ⟨_, _, rfl, fitK_int.2 ⟨_, rfl⟩, fitS_cons.2 ⟨_, _, rfl, fitK_bool.2 ⟨_, rfl⟩, fitS_cons.2 ⟨_, _, rfl, fitK_int.2 ⟨_, rfl⟩, fitS_cons.2 ⟨_, _, rfl, fitK_int.2 ⟨_, rfl⟩, fitS_cons.2 ⟨_, _, rfl, fitK_int.2 ⟨_, rfl⟩, fitS_cons.2 ⟨_, _, rfl, fitK_int.2 ⟨_, rfl⟩, fitS_cons.2 ⟨_, _, rfl, fitK_u64.2 ⟨_, rfl⟩, fitS_cons.2 ⟨_, _, rfl, fitK_sl.2 ⟨_, rfl, by rw [List.length_map]; exact h12, fitS_map int_fit (fun _ _ => trivial)⟩, fitS_cons.2 ⟨_, _, rfl, fitK_int.2 ⟨_, rfl⟩, fitS_cons.2 ⟨_, _, rfl, fitK_int.2 ⟨_, rfl⟩, fitS_nil.2 rfl⟩⟩⟩⟩⟩⟩⟩⟩⟩⟩⟩⟩⟩⟩⟩⟩⟩⟩⟩
end Cg
end
section
namespace Cg
open Go Go.RowKit Go.Sort Go.Lib
variable {P : Program} {T : Nat → Option Ty} {O : Nat → Prop} {N : Nat} {w0 : World}
def memb (n : Nat) : List Nat → Bool
 | [] => false
 | m :: r => bif Nat.beq m n then true else memb n r
/-- Rows but for those of ms as trees. -/
def frC (st : St) (ms : List Nat) : Ce → Ce
 | .t x => .t x
 | .nil => .nil
 | .bot => .bot
 | .row τ ver => match lk st.rw τ with
  | some ⟨_, k, ver', xs⟩ => bif Nat.beq ver' ver then (bif memb τ ms then .row τ ver else .t (.sl k xs)) else .bot
  | none => .bot
def frA (st : St) (ms : List Nat) : AV → AV
 | .c x => .c (frC st ms x)
 | .agg xs => .agg (xs.map (frC st ms))
 | .ptr b o => .ptr b o
 | .iptr xs o => .iptr xs o
 | .eptr _ _ _ _ _ => .bot
 | .nilp => .nilp
 | .tup _ => .bot
 | .fn f caps => .fn f caps
 | .bot => .bot
def frS (st : St) (ms : List Nat) : List (Nat × AV) → List (Nat × AV)
 | [] => []
 | (t, v) :: r => (t, frA st ms v) :: frS st ms r
def frB (st : St) (ms : List Nat) : List (Nat × List Ce) → List (Nat × List Ce)
 | [] => []
 | (b, cs) :: r => (b, cs.map (frC st ms)) :: frB st ms r
def frR (ms : List Nat) : List (Nat × Row) → List (Nat × Row)
 | [] => []
 | (τ, R) :: r => bif memb τ ms then (τ, R) :: frR ms r else frR ms r
def frz (ms : List Nat) (st : St) : St := match st with
 | ⟨sl, bx, rw, nx⟩ => ⟨frS ⟨sl, bx, rw, nx⟩ ms sl, frB ⟨sl, bx, rw, nx⟩ ms bx, frR ms rw, nx⟩
theorem lk_frS (st : St) (ms : List Nat) : ∀ (l : List (Nat × AV)) (t : Nat), lk (frS st ms l) t = (lk l t).map (frA st ms)
 | [], t => rfl
 | (u, v) :: r, t => by
  rw [frS, lk_cons, lk_cons, lk_frS st ms r t]
  split <;> rfl
theorem lk_frB (st : St) (ms : List Nat) : ∀ (l : List (Nat × List Ce)) (t : Nat), lk (frB st ms l) t = (lk l t).map (fun cs => cs.map (frC st ms))
 | [], t => rfl
 | (u, v) :: r, t => by
  rw [frB, lk_cons, lk_cons, lk_frB st ms r t]
  split <;> rfl
theorem lk_frR (ms : List Nat) : ∀ (l : List (Nat × Row)) (t : Nat), lk (frR ms l) t = bif memb t ms then lk l t else none
 | [], t => by cases memb t ms <;> rfl
 | (u, v) :: r, t => by
  rw [frR, lk_cons]
  by_cases h : u = t
  ·subst h
   rw [if_pos rfl]
   cases hm : memb u ms
   ·rw [cond_false, lk_frR ms r u, hm]
    rfl
   ·rw [cond_true, lk_cons, if_pos rfl]
    rfl
  ·rw [if_neg h, ← lk_frR ms r t]
   cases memb u ms
   ·rfl
   ·rw [cond_true, lk_cons, if_neg h]
theorem lk_self (ms : List Nat) (n : Nat) : lk (ms.map fun m => (m, m)) n = bif memb n ms then some n else none := by
 induction ms with
 | nil => rfl
 | cons m ms ih =>
  rw [List.map_cons, lk_cons, ih]
  show _ = bif (bif Nat.beq m n then true else memb n ms) then some n else none
  by_cases h : m = n
  ·subst h
   rw [if_pos rfl, show Nat.beq m m = true by simp]
   rfl
  ·rw [if_neg h, show Nat.beq m n = false by
    cases hb : Nat.beq m n
    ·rfl
    ·exact absurd (Nat.eq_of_beq_eq_true hb) h]
   rfl
theorem sw_self (ms : List Nat) : sw (ms.map fun m => (m, m)) = ms.map fun m => (m, m) := by
 unfold sw
 rw [List.map_map]
 rfl
theorem memb_mem {n : Nat} : ∀ {ms : List Nat}, n ∈ ms → memb n ms = true
 | m :: r, h => by
  unfold memb
  rcases List.mem_cons.1 h with rfl | h
  ·rw [show Nat.beq n n = true by simp]; rfl
  ·cases Nat.beq m n
   ·exact memb_mem h
   ·rfl
theorem mOk_self (ms : List Nat) : mOk (ms.map fun m => (m, m)) = true := by
 unfold mOk
 rw [List.all_eq_true]
 intro p hp
 obtain ⟨m, hm, rfl⟩ := List.mem_map.1 hp
 rw [sw_self]
 simp only [lk_self, memb_mem hm, cond_true]
 simp
theorem frC_ceM (st : St) (ms : List Nat) (c : Ce) : CeM st (ms.map fun m => (m, m)) (frR ms st.rw) c (frC st ms c) := by
 cases c with
 | t x => exact rfl
 | nil => exact trivial
 | bot => exact trivial
 | row τ ver =>
  unfold frC
  simp only
  cases hq : lk st.rw τ with
  | none => exact trivial
  | some R =>
   obtain ⟨ty, k, ver', xs⟩ := R
   simp only
   cases hb : Nat.beq ver' ver with
   | false => exact trivial
   | true =>
    have hv := Nat.eq_of_beq_eq_true hb
    simp only [cond_true]
    cases hm : memb τ ms with
    | true =>
     simp only [cond_true]
     unfold CeM
     simp only [lk_frR, lk_self, hm, cond_true, hq]
     exact ⟨hv, trivial, hv⟩
    | false =>
     simp only [cond_false]
     unfold CeM
     simp only [hq, sw_self, lk_self, hm, cond_false]
     exact ⟨hv, trivial, trivial⟩
theorem frC_cesM (st : St) (ms : List Nat) : ∀ cs : List Ce, CesM st (ms.map fun m => (m, m)) (frR ms st.rw) cs (cs.map (frC st ms))
 | [] => trivial
 | c :: cs => ⟨frC_ceM st ms c, frC_cesM st ms cs⟩
theorem Wk.frz (ms : List Nat) (st : St) : Wk st (frz ms st) := by
 intro O E w n0 N a r
 obtain ⟨sl, bx, rw', nx⟩ := st
 have hasB : ∀ b cs, lk bx b = some cs → hasK (frB ⟨sl, bx, rw', nx⟩ ms bx) b = true := fun b cs h => by
  unfold hasK
  rw [lk_frB, h]
  rfl
 have get : ∀ t, (Cg.frz ms ⟨sl, bx, rw', nx⟩).get t = .bot ∨ AvM ⟨sl, bx, rw', nx⟩ (ms.map fun m => (m, m)) (frR ms rw') (frB ⟨sl, bx, rw', nx⟩ ms bx) (St.get ⟨sl, bx, rw', nx⟩ t) ((Cg.frz ms ⟨sl, bx, rw', nx⟩).get t) := fun t => by
  have hs := r.sc.sb t
  show (match lk (frS ⟨sl, bx, rw', nx⟩ ms sl) t with | some v => v | none => .bot) = .bot ∨ AvM _ _ _ _ _ (match lk (frS ⟨sl, bx, rw', nx⟩ ms sl) t with | some v => v | none => .bot)
  rw [lk_frS]
  have hs : ∀ b ∈ (match lk sl t with | some v => v | none => AV.bot).bids, St.hasB ⟨sl, bx, rw', nx⟩ b := hs
  cases hq : lk sl t with
  | none => exact .inl rfl
  | some v =>
   rw [hq] at hs
   have hg : St.get ⟨sl, bx, rw', nx⟩ t = v := by
    show (match lk sl t with | some v => v | none => .bot) = v
    rw [hq]
   rw [hg]
   show frA _ ms v = .bot ∨ AvM _ _ _ _ v (frA _ ms v)
   cases v with
   | c x => exact .inr (frC_ceM _ ms x)
   | agg xs => exact .inr (frC_cesM _ ms xs)
   | ptr b o =>
    obtain ⟨cs, hcs⟩ := hs b List.mem_cons_self
    exact .inr ⟨rfl, rfl, hasB b cs hcs⟩
   | iptr xs o => exact .inr ⟨rfl, rfl⟩
   | eptr _ _ _ _ _ => exact .inl rfl
   | nilp => exact .inr trivial
   | tup _ => exact .inl rfl
   | fn f caps =>
    refine .inr ⟨rfl, rfl, List.all_eq_true.2 fun p hp => ?_⟩
    obtain ⟨cs, hcs⟩ := hs p.1 (List.mem_map.2 ⟨p, hp, rfl⟩)
    exact hasB p.1 cs hcs
   | bot => exact .inl rfl
 have rowl : ∀ τ' R', lk (frR ms rw') τ' = some R' → (∃ τ R, lk (ms.map fun m => (m, m)) τ' = some τ ∧ lk rw' τ = some R ∧ R.ty = R'.ty ∧ R.k = R'.k ∧ R.xs = R'.xs) ∨ (lk (ms.map fun m => (m, m)) τ' = none ∧ R'.xs = []) := fun τ' R' h => by
  rw [lk_frR] at h
  cases hm : memb τ' ms with
  | true =>
   rw [hm] at h
   exact .inl ⟨τ', R', by rw [lk_self, hm]; rfl, h, rfl, rfl, rfl⟩
  | false =>
   rw [hm] at h
   cases h
 refine ⟨E.ma ⟨sl, bx, rw', nx⟩ (ms.map fun m => (m, m)), ⟨r.dfr, r.sz, fun t => ?_, fun i cs' hi => ?_, fun τ' R' hR => row_ma r (mOk_self ms) (rowl τ' R' hR), ⟨fun t b hb => ?_, fun t p hp => ?_, fun b cs hcs p hp => ?_, fun b cs hcs => ?_, fun τ R hR => ?_⟩, r.hi, fun b hb => ?_⟩⟩
 ·rcases get t with h | h
  ·rw [h]; exact trivial
  ·exact (avM_r1 r h (r.slt t)).rv
 ·have hi : lk (frB ⟨sl, bx, rw', nx⟩ ms bx) i = some cs' := hi
  rw [lk_frB] at hi
  cases hq : lk bx i with
  | none => rw [hq] at hi; cases hi
  | some cs =>
   rw [hq] at hi
   cases hi
   obtain ⟨vs, t, g1, g2, g3, g4⟩ := r.box i cs hq
   refine ⟨vs, t, g1, g2, ?_, cesM_a2 (rw' := frR ms rw') r (frC_cesM _ ms cs) g4⟩
   unfold Env.ma
   simp only [g3]
 ·rcases get t with h | h
  ·rw [h] at hb; cases hb
  ·exact (avM_nm h).1 b hb
 ·rcases get t with h | h
  ·rw [h] at hp; cases hp
  ·obtain ⟨R, h1, h2⟩ := (avM_nm h).2 p hp
   exact ⟨R, h1, Nat.le_of_eq h2.symm⟩
 ·have hcs : lk (frB ⟨sl, bx, rw', nx⟩ ms bx) b = some cs := hcs
  rw [lk_frB] at hcs
  cases hq : lk bx b with
  | none => rw [hq] at hcs; cases hcs
  | some cs0 =>
   rw [hq] at hcs
   cases hcs
   obtain ⟨R, h3, h4⟩ := cesM_nm (frC_cesM ⟨sl, bx, rw', nx⟩ ms cs0) p hp
   exact ⟨R, h3, Nat.le_of_eq h4.symm⟩
 ·have hcs : lk (frB ⟨sl, bx, rw', nx⟩ ms bx) b = some cs := hcs
  rw [lk_frB] at hcs
  cases hq : lk bx b with
  | none => rw [hq] at hcs; cases hcs
  | some cs0 => exact r.sc.fb b cs0 hq
 ·have hR : lk (frR ms rw') τ = some R := hR
  rw [lk_frR] at hR
  cases hm : memb τ ms with
  | true => rw [hm] at hR; exact r.sc.fr τ R hR
  | false => rw [hm] at hR; cases hR
 ·obtain ⟨h1, h2⟩ := r.old b hb
  refine ⟨fun h => h1 ?_, fun τ h => ?_⟩
  ·unfold Env.ma at h
   simp only at h
   exact h
  ·unfold Env.ma at h
   simp only at h
   exact h2 τ h
/-- All rows but those of ms are given up. -/
theorem Tp.frz (ms : List Nat) {c : Code} {st : St} {Q : Ex → St → Prop} (h : Tp P T N w0 O c (Cg.frz ms st) Q) : Tp P T N w0 O c st Q := Tp.wk (Wk.frz ms st) h
/-- A contract whose result holds no memory at all may be used with rows. -/
def litA : AV → Bool
 | .c (.t (.lit _)) => true
 | .nilp => true
 | .tup ars => ars.all fun a => match a with
  | .c (.t (.lit _)) => true
  | _ => false
 | _ => false
def litC : Ce → Bool
 | .t (.lit _) => true
 | _ => false
/-- Values, structs and tuples of them, that hold no memory. -/
def litB : AV → Bool
 | .c x => litC x
 | .agg xs => xs.all litC
 | .nilp => true
 | _ => false
def litT : AV → Bool
 | .tup ars => ars.all litB
 | a => litB a
def flatTs (xs : List (List Tr)) : Prop := ∀ ts ∈ xs, ∀ t ∈ ts, ∃ v, t = .lit v
theorem Ct.lit {f : FuncId} {ars : List AV} {r : AV} {b : Bool} (h : Ct P f ars r [] b) (hl : litA r = true) : Ct P f ars r [] true := by
 refine ⟨h.ent, h.few, h.plain, h.nob, h.rid, fun w vs E0 ha => (h.run w vs E0 ha).mono ?_⟩
 rintro e w' ⟨v, rfl, hb, E, hr, _, _⟩
 refine ⟨v, rfl, hb, ⟨fun _ => .non, fun _ => 0, fun _ _ => undef⟩, ?_, fun j R hj => by simp at hj, fun b _ hc => by cases hc⟩
 have one : ∀ {u : Value} {x : Value} {E' : Env}, RT E.F w' u (.lit x) → RT E'.F w' u (.lit x) := fun h => by
  cases h with
  | lit h => exact .lit h
 cases r with
 | c x =>
  cases x with
  | t y =>
   cases y with
   | lit x => exact one hr
   | sl _ _ => cases hl
  | _ => cases hl
 | nilp => exact hr
 | tup ars =>
  obtain ⟨us, rfl, ha⟩ := hr
  refine ⟨us, rfl, ?_⟩
  have : ∀ {us : List Value} {ars : List AV}, (ars.all fun a => match a with
   | .c (.t (.lit _)) => true
   | _ => false) = true → A2 (R1 E w') us ars → A2 (R1 ⟨fun _ => .non, fun _ => 0, fun _ _ => undef⟩ w') us ars := fun {us ars} hl h => by
   induction h with
   | nil => exact .nil
   | @cons u a us ars h1 _ ih =>
    rw [List.all_cons, Bool.and_eq_true] at hl
    refine .cons ?_ (ih hl.2)
    have hl := hl.1
    split at hl
    ·exact one h1
    ·cases hl
  exact this hl ha
 | _ => cases hl
theorem litC_rc {E E' : Env} {w : World} {u : Value} {x : Ce} (hl : litC x = true) (h : RC E w u x) : RC E' w u x := by
 cases x with
 | t y =>
  cases y with
  | lit x =>
   have h1 : RT E.F w u (.lit x) := h
   cases h1 with
   | lit h2 => exact RT.lit h2
  | sl _ _ => cases hl
 | _ => cases hl
theorem litC_a2 {E E' : Env} {w : World} : ∀ {us : List Value} {xs : List Ce}, xs.all litC = true → A2 (RC E w) us xs → A2 (RC E' w) us xs
 | _, _, _, .nil => .nil
 | _, _, hl, .cons h1 h2 => by
  rw [List.all_cons, Bool.and_eq_true] at hl
  exact .cons (litC_rc hl.1 h1) (litC_a2 hl.2 h2)
theorem litB_r1 {E E' : Env} {w : World} {u : Value} {a : AV} (hl : litB a = true) (h : R1 E w u a) : R1 E' w u a := by
 cases a with
 | c x => exact litC_rc hl h
 | agg xs =>
  obtain ⟨vs, rfl, ha⟩ := h
  exact ⟨vs, rfl, litC_a2 hl ha⟩
 | nilp => exact h
 | _ => cases hl
theorem litB_a2 {E E' : Env} {w : World} : ∀ {us : List Value} {xs : List AV}, xs.all litB = true → A2 (R1 E w) us xs → A2 (R1 E' w) us xs
 | _, _, _, .nil => .nil
 | _, _, hl, .cons h1 h2 => by
  rw [List.all_cons, Bool.and_eq_true] at hl
  exact .cons (litB_r1 hl.1 h1) (litB_a2 hl.2 h2)
theorem Ct.litT {f : FuncId} {ars : List AV} {r : AV} {b : Bool} (h : Ct P f ars r [] b) (hl : Cg.litT r = true) : Ct P f ars r [] true := by
 refine ⟨h.ent, h.few, h.plain, h.nob, h.rid, fun w vs E0 ha => (h.run w vs E0 ha).mono ?_⟩
 rintro e w' ⟨v, rfl, hb, E, hr, _, _⟩
 refine ⟨v, rfl, hb, ⟨fun _ => .non, fun _ => 0, fun _ _ => undef⟩, ?_, fun j R hj => by simp at hj, fun b _ hc => by cases hc⟩
 cases r with
 | tup ars =>
  obtain ⟨us, rfl, ha⟩ := hr
  exact ⟨us, rfl, litB_a2 hl ha⟩
 | c x => exact (litB_r1 (a := .c x) hl hr).rv
 | agg x => exact (litB_r1 (a := .agg x) hl hr).rv
 | nilp => exact hr
 | _ => cases hl
theorem call_intro {f : FuncId} {ars : List AV} {r : AV} {rs : List Row} {fresh : Bool} {A : List AV → Prop} {B : Bool → Prop} {K : AV → List Row → Prop} (ct : Ct P f ars r rs fresh) (h1 : A ars) (h2 : B fresh) (h3 : K r rs) : ∃ ars r rs fresh, A ars ∧ Ct P f ars r rs fresh ∧ B fresh ∧ K r rs := ⟨ars, r, rs, fresh, h1, ct, h2, h3⟩
theorem fitL_refl {st : St} : ∀ (ts : List Tr), FitL st (ts.map .t) (ts.map .t)
 | [] => trivial
 | _ :: ts => ⟨rfl, fitL_refl ts⟩
theorem take_bound {α β : Type} (l : List α) (f : α → β) (k : Nat) (hk : k < l.length) (x : β) (by_ : Nat) (hb : by_ ≤ 3072) (h : l.length * by_ ≤ limB) : (((l.take k).map f).length + [x].length) * by_ ≤ 140737488355328 := by
 rw [List.length_map, List.length_take, Nat.min_eq_left (by omega)]
 have : (k + 1) * by_ ≤ l.length * by_ := Nat.mul_le_mul_right _ hk
 unfold limB at h
 show (k + 1) * by_ ≤ _
 omega
theorem take_bound2 {α β : Type} (l : List α) (f : α → β) (k : Nat) (hk : k < l.length) (x : β) (by_ : Nat) (hb : 0 < by_) (h : l.length * by_ ≤ limB) : ((l.take k).map f).length + [x].length < 140737488355328 := by
 rw [List.length_map, List.length_take, Nat.min_eq_left (by omega)]
 have : l.length * 1 ≤ l.length * by_ := Nat.mul_le_mul_left _ hb
 unfold limB at h
 show k + 1 < _
 omega
theorem all_bound {α : Type} (ys : List α) (by_ : Nat) (h : ys.length * by_ ≤ limB) : (([] : List α).length + ys.length) * by_ ≤ 140737488355328 := by
 unfold limB at h
 simp only [List.length_nil, Nat.zero_add]
 omega
theorem all_bound2 {α : Type} (ys : List α) (by_ : Nat) (hb : 0 < by_) (h : ys.length * by_ ≤ limB) : ([] : List α).length + ys.length < 140737488355328 := by
 have : ys.length * 1 ≤ ys.length * by_ := Nat.mul_le_mul_left _ hb
 unfold limB at h
 simp only [List.length_nil, Nat.zero_add]
 omega
theorem map_bound {α β : Type} (f : α → β) (ys : List α) (by_ : Nat) (h : ys.length * by_ ≤ limB) : (ys.map f).length * by_ ≤ limB := by rw [List.length_map]; exact h
theorem take_succ_map {α β : Type} (l : List α) (f : α → β) (k : Nat) (hk : k < l.length) : (l.take k).map f ++ [f l[k]] = (l.take (k + 1)).map f := by
 rw [List.take_add_one, List.getElem?_eq_getElem hk, List.map_append]
 rfl
theorem map_get {α β : Type} (l : List α) (f : α → β) (k : Nat) (hk : k < l.length) : (l.map f)[k]? = some (f l[k]) := by rw [List.getElem?_map, List.getElem?_eq_getElem hk]; rfl
theorem len_lt {α β : Type} {l : List α} {f : α → β} {k : Nat} (h : decide ((k : Int) < (((l.map f).length : Nat) : Int)) = true) : k < l.length := by
 have := of_decide_eq_true h
 rw [List.length_map] at this
 omega
theorem len_ge {α β : Type} {l : List α} {f : α → β} {k : Nat} (h : decide ((k : Int) < (((l.map f).length : Nat) : Int)) = false) (hk : k ≤ l.length) : k = l.length := by
 have := of_decide_eq_false h
 rw [List.length_map] at this
 omega
theorem succ_eq (k : Nat) {α : Type} {l : List α} (hk : k < l.length) (b : Nat) (hb : 0 < b) (h : l.length * b ≤ limB) : iv (IntKind.i64.wrap ((k : Int) + 1)) = iv ((k + 1 : Nat) : Int) := by
 have : l.length * 1 ≤ l.length * b := Nat.mul_le_mul_left _ hb
 unfold limB at h
 rw [wrap_succ k (by omega)]
theorem take_all {α : Type} (l : List α) (f : α → List Tr) (k : Nat) : Tr.sl k (l.map f) = Tr.sl k ((l.take l.length).map f) := by rw [List.take_length]
end Cg
end
section
namespace Go.Proofs.Ytiebjkbofoppaaa
open Go Cg Go.RowKit
theorem ints_row (xs : List (List Tr)) (h : xs.length * 8 ≤ limB) : Ct Try.prog 35 [.c (.t (.sl 1 xs))] (.c (.row 0 0)) [⟨3, 1, 0, xs⟩] false := by
 refine ct_of Try.func35 rfl (enters_of Try.func35 (by kernel_rfl) rfl) tabOk (by kernel_rfl) rfl rfl rfl rfl fun w0 O => Tp.run [] ?_
 refine And.intro (.inl rfl) (And.intro (all_bound xs 8 h) (And.intro (all_bound2 xs 8 (by decide) h) ?_))
 exact Exists.intro [(0, 128)] (And.intro rfl (And.intro (And.intro ⟨rfl, rfl, rfl⟩ trivial) (And.intro rfl ⟨rfl, rfl⟩)))
theorem ints_ct2 (l : List Int) (h : l.length * 8 < 140737488355328) : Ct Try.prog 35 [.c (.t (.sl 1 (l.map encI)))] (.c (.t (.sl 1 (l.map encI)))) [] false := by
 refine ct_of Try.func35 rfl (enters_of Try.func35 (by kernel_rfl) rfl) tabOk (by kernel_rfl) rfl rfl rfl rfl fun w0 O => Tp.run [] ?_
 refine And.intro (.inl rfl) (And.intro (show (([] : List (List Tr)).length + (l.map encI).length) * 8 ≤ _ by rw [List.length_map, List.length_nil]; omega) (And.intro (show ([] : List (List Tr)).length + (l.map encI).length < _ by rw [List.length_map, List.length_nil]; omega) ?_))
 exact Exists.intro [] (And.intro rfl (And.intro trivial ⟨rfl, rfl, rfl⟩))
theorem ints_ct (xs : List (List Tr)) (h : xs.length * 8 ≤ limB) : Ct Try.prog 35 [.c (.t (.sl 1 xs))] (.c (.t (.sl 1 xs))) [] false := by
 refine ct_of Try.func35 rfl (enters_of Try.func35 (by kernel_rfl) rfl) tabOk (by kernel_rfl) rfl rfl rfl rfl fun w0 O => Tp.run [] ?_
 refine And.intro (.inl rfl) (And.intro (all_bound xs 8 h) (And.intro (all_bound2 xs 8 (by decide) h) ?_))
 exact Exists.intro [] (And.intro rfl (And.intro trivial ⟨rfl, rfl, rfl⟩))
set_option maxRecDepth 100000 in
theorem ability_ct (a : GAbility) (h : a.ok) : Ct Try.prog 36 [.agg (a.enc.map .t)] (.agg (a.enc.map .t)) [] false := by
 obtain ⟨_, hm, hm2, _, _, hs, hs2, he, he2, _⟩ := h
 refine ct_of Try.func36 rfl (enters_of Try.func36 (by kernel_rfl) rfl) tabOk (by kernel_rfl) rfl rfl rfl rfl fun w0 O => Tp.run [10] ?_
 refine And.intro (.inl rfl) (And.intro (all_bound _ 176 (map_bound _ _ _ hm)) (And.intro (all_bound2 _ 176 (by decide) (map_bound _ _ _ hm)) ?_))
 refine And.intro (.inl rfl) (And.intro (all_bound _ 144 (map_bound _ _ _ hs)) (And.intro (all_bound2 _ 144 (by decide) (map_bound _ _ _ hs)) ?_))
 refine Tp.loop (fun k : Nat => ⟨[(1, .ptr 0 0), (2, .ptr 128 0), (3, .ptr 384 0), (4, AV.i k)], [(0, a.enc.map .t), (128, List.replicate 72 .bot), (384, (a.enc.map .t).set 49 (.row 9000 0))], [(9000, ⟨121, 64, 0, (a.effects.take k).map GEffect.enc⟩)], 10000⟩) (fun k => k ≤ a.effects.length) (fun k => a.effects.length - k) 0 ?_ (Nat.zero_le _) ?_
 ·refine wk_of [] rfl rfl ?_ ?_ ?_
  ·repeat' (first | refine And.intro ?_ ?_ | exact rfl | exact trivial | exact Exists.intro _ rfl | fail)
  ·repeat' (first | refine And.intro ?_ ?_ | exact rfl | exact trivial | exact Exists.intro _ rfl | fail)
  ·repeat' (first | refine And.intro ?_ ?_ | exact rfl | exact trivial | exact Exists.intro _ rfl | fail)
 rintro k hk
 refine Tp.run [10] ?_
 refine cond_split (fun h => ?_) (fun h => ?_)
 ·have hlt := len_lt h
  obtain ⟨_, _, _, hem, hem2⟩ := he2 a.effects[k] (List.getElem_mem hlt)
  refine Exists.intro k (Exists.intro (a.effects[k].enc) (And.intro rfl (And.intro (map_get _ _ k hlt) ?_)))
  refine And.intro (.inl rfl) (And.intro (all_bound _ 176 (map_bound _ _ _ hem)) (And.intro (all_bound2 _ 176 (by decide) (map_bound _ _ _ hem)) ?_))
  refine Tp.frz [9000] (Tp.run [] ?_)
  refine And.intro (.inl rfl) (And.intro (take_bound a.effects GEffect.enc k hlt _ 560 (by decide) he) (And.intro (take_bound2 a.effects GEffect.enc k hlt _ 560 (by decide) he) ?_))
  refine Exists.intro (k + 1) (And.intro (show k + 1 ≤ _ by omega) (And.intro (show a.effects.length - (k + 1) < a.effects.length - k by omega) ?_))
  refine wk_of [(9000, 9000)] rfl rfl ?_ ?_ ?_
  ·repeat' (first | refine And.intro ?_ ?_ | exact rfl | exact trivial | exact Exists.intro _ rfl | fail)
   exact succ_eq k hlt 560 (by decide) he
  ·repeat' (first | refine And.intro ?_ ?_ | exact rfl | exact trivial | exact Exists.intro _ rfl | fail)
  ·repeat' (first | refine And.intro ?_ ?_ | exact rfl | exact trivial | exact Exists.intro _ rfl | fail)
   exact take_succ_map a.effects GEffect.enc k hlt
 ·have hk2 := len_ge h hk
  subst hk2
  refine Exists.intro [] (And.intro rfl (And.intro trivial ?_))
  repeat' (first | refine And.intro ?_ ?_ | exact rfl | exact trivial | exact Exists.intro _ rfl | fail)
  exact take_all a.effects GEffect.enc 64
end Go.Proofs.Ytiebjkbofoppaaa
end
section
namespace Go.Proofs.Ytiebjkbofoppaaa
open Go Cg Go.RowKit
theorem take_m {α β : Type} (l : List α) (f : α → β) : (l.take l.length).map f = l.map f := by rw [List.take_length]
set_option maxRecDepth 100000 in
set_option maxHeartbeats 4000000 in
theorem copy_ct (s : GState) (h : s.ok) : Ct Try.prog 14 [.agg (s.enc.map .t)] (.agg ([.row 0 0, .row 1 0, .row 2 0] ++ (s.enc.drop 3).map .t)) [⟨59, 14, 0, s.players.map GPlayer.enc⟩, ⟨47, 19, 0, s.objects.map GObject.enc⟩, ⟨3, 1, 0, s.battlefield.map encI⟩] false := by
 obtain ⟨hp, hp2, ho, ho2, hb, hx, hs, hs2, hw, hw2, hc, hc2, hxt⟩ := h
 refine ct_of Try.func14 rfl (enters_of Try.func14 (by kernel_rfl) rfl) tabOk (by kernel_rfl) rfl rfl rfl rfl fun w0 O => Tp.run [] ?_
 refine Tp.loop (fun k : Nat => ⟨[(1, .ptr 0 0), (2, .ptr 128 0), (3, .ptr 384 0), (4, AV.i k)], [(0, s.enc.map .t), (128, List.replicate 19 .bot), (384, ((s.enc.map .t).set 0 (.row 9000 0)))], [(9000, ⟨59, 14, 0, (s.players.take k).map GPlayer.enc⟩)], 10000⟩) (fun k => k ≤ s.players.length) (fun k => s.players.length - k) 0 ?_ (Nat.zero_le _) ?_
 ·refine wk_of [] rfl rfl ?_ ?_ ?_
  ·repeat' (first | refine And.intro ?_ ?_ | exact rfl | exact trivial | exact Exists.intro _ rfl | fail)
  ·repeat' (first | refine And.intro ?_ ?_ | exact rfl | exact trivial | exact Exists.intro _ rfl | fail)
  ·repeat' (first | refine And.intro ?_ ?_ | exact rfl | exact trivial | exact Exists.intro _ rfl | fail)
 rintro k hk
 refine Tp.run [10] ?_
 refine cond_split (fun h => ?_) (fun h => ?_)
 ·have hlt := len_lt h
  obtain ⟨e1, e2, e3⟩ := hp2 s.players[k] (List.getElem_mem hlt)
  refine Exists.intro k (Exists.intro (s.players[k].enc) (And.intro rfl (And.intro (map_get _ _ k hlt) ?_)))
  refine call_intro (ints_ct _ (map_bound _ _ _ e1)) ⟨rfl, trivial⟩ (.inr rfl) ?_
  refine call_intro (ints_ct _ (map_bound _ _ _ e2)) ⟨rfl, trivial⟩ (.inr rfl) ?_
  refine call_intro (ints_ct _ (map_bound _ _ _ e3)) ⟨rfl, trivial⟩ (.inr rfl) ?_
  refine Tp.frz [9000] (Tp.run [] ?_)
  refine And.intro (.inl rfl) (And.intro (take_bound s.players GPlayer.enc k hlt _ 152 (by decide) hp) (And.intro (take_bound2 s.players GPlayer.enc k hlt _ 152 (by decide) hp) ?_))
  refine Exists.intro (k + 1) (And.intro (show k + 1 ≤ _ by omega) (And.intro (show s.players.length - (k + 1) < s.players.length - k by omega) ?_))
  refine wk_of [(9000, 9000)] rfl rfl ?_ ?_ ?_
  ·repeat' (first | refine And.intro ?_ ?_ | exact rfl | exact trivial | exact Exists.intro _ rfl | fail)
   exact succ_eq k hlt 152 (by decide) hp
  ·repeat' (first | refine And.intro ?_ ?_ | exact rfl | exact trivial | exact Exists.intro _ rfl | fail)
  ·repeat' (first | refine And.intro ?_ ?_ | exact rfl | exact trivial | exact Exists.intro _ rfl | fail)
   exact take_succ_map s.players GPlayer.enc k hlt
 have hk0 := len_ge h hk
 subst hk0
 clear h hk
 refine And.intro (.inl rfl) (And.intro (all_bound _ 128 (map_bound _ _ _ ho)) (And.intro (all_bound2 _ 128 (by decide) (map_bound _ _ _ ho)) ?_))
 refine call_intro (ints_row _ (map_bound _ _ _ hb)) ⟨rfl, trivial⟩ (.inr rfl) ?_
 refine call_intro (ints_ct _ (map_bound _ _ _ hx)) ⟨rfl, trivial⟩ (.inr rfl) ?_
 refine Tp.loop (fun k : Nat => ⟨[(1, .ptr 0 0), (2, .ptr 128 0), (3, .ptr 384 0), (6, AV.i k)], [(0, s.enc.map .t), (128, List.replicate 19 .bot), (384, (((((s.enc.map .t).set 0 (.row 9000 0)).set 1 (.row 9001 0)).set 2 (.row 9002 0)).set 4 (.row 9003 0)))], [(9000, ⟨59, 14, 0, s.players.map GPlayer.enc⟩), (9001, ⟨47, 19, 0, s.objects.map GObject.enc⟩), (9002, ⟨3, 1, 0, s.battlefield.map encI⟩), (9003, ⟨83, 94, 0, (s.stack.take k).map GItem.enc⟩)], 20000⟩) (fun k => k ≤ s.stack.length) (fun k => s.stack.length - k) 0 ?_ (Nat.zero_le _) ?_
 ·refine wk_of [(9000, 9000), (9001, 10640), (9002, 11664)] rfl rfl ?_ ?_ ?_
  ·repeat' (first | refine And.intro ?_ ?_ | exact rfl | exact trivial | exact Exists.intro _ rfl | fail)
   all_goals exact take_m s.players GPlayer.enc
  ·repeat' (first | refine And.intro ?_ ?_ | exact rfl | exact trivial | exact Exists.intro _ rfl | fail)
   all_goals exact take_m s.players GPlayer.enc
  ·repeat' (first | refine And.intro ?_ ?_ | exact rfl | exact trivial | exact Exists.intro _ rfl | fail)
   all_goals exact take_m s.players GPlayer.enc
 rintro k hk
 refine Tp.run [21] ?_
 refine cond_split (fun h => ?_) (fun h => ?_)
 ·have hlt := len_lt h
  obtain ⟨e1, e2, _⟩ := hs2 s.stack[k] (List.getElem_mem hlt)
  refine Exists.intro k (Exists.intro (s.stack[k].enc) (And.intro rfl (And.intro (map_get _ _ k hlt) ?_)))
  refine call_intro (ability_ct s.stack[k].ability e1) ⟨fitL_refl s.stack[k].ability.enc, trivial⟩ (.inr rfl) ?_
  refine And.intro (.inl rfl) (And.intro (all_bound _ 16 (map_bound _ _ _ e2)) (And.intro (all_bound2 _ 16 (by decide) (map_bound _ _ _ e2)) ?_))
  refine Tp.frz [9000, 9001, 9002, 9003] (Tp.run [] ?_)
  refine And.intro (.inl rfl) (And.intro (take_bound s.stack GItem.enc k hlt _ 824 (by decide) hs) (And.intro (take_bound2 s.stack GItem.enc k hlt _ 824 (by decide) hs) ?_))
  refine Exists.intro (k + 1) (And.intro (show k + 1 ≤ _ by omega) (And.intro (show s.stack.length - (k + 1) < s.stack.length - k by omega) ?_))
  refine wk_of [(9000, 9000), (9001, 9001), (9002, 9002), (9003, 9003)] rfl rfl ?_ ?_ ?_
  ·repeat' (first | refine And.intro ?_ ?_ | exact rfl | exact trivial | exact Exists.intro _ rfl | fail)
   exact succ_eq k hlt 824 (by decide) hs
  ·repeat' (first | refine And.intro ?_ ?_ | exact rfl | exact trivial | exact Exists.intro _ rfl | fail)
  ·repeat' (first | refine And.intro ?_ ?_ | exact rfl | exact trivial | exact Exists.intro _ rfl | fail)
   exact take_succ_map s.stack GItem.enc k hlt
 have hk1 := len_ge h hk
 subst hk1
 clear h hk
 refine Tp.loop (fun k : Nat => ⟨[(1, .ptr 0 0), (2, .ptr 128 0), (3, .ptr 384 0), (8, AV.i k)], [(0, s.enc.map .t), (128, List.replicate 19 .bot), (384, (((((s.enc.map .t).set 0 (.row 9000 0)).set 1 (.row 9001 0)).set 2 (.row 9002 0)).set 5 (.row 9003 0)))], [(9000, ⟨59, 14, 0, s.players.map GPlayer.enc⟩), (9001, ⟨47, 19, 0, s.objects.map GObject.enc⟩), (9002, ⟨3, 1, 0, s.battlefield.map encI⟩), (9003, ⟨92, 89, 0, (s.waiting.take k).map GWaiting.enc⟩)], 30000⟩) (fun k => k ≤ s.waiting.length) (fun k => s.waiting.length - k) 0 ?_ (Nat.zero_le _) ?_
 ·refine wk_of [(9000, 9000), (9001, 9001), (9002, 9002)] rfl rfl ?_ ?_ ?_
  ·repeat' (first | refine And.intro ?_ ?_ | exact rfl | exact trivial | exact Exists.intro _ rfl | fail)
   all_goals exact take_all s.stack GItem.enc 94
  ·repeat' (first | refine And.intro ?_ ?_ | exact rfl | exact trivial | exact Exists.intro _ rfl | fail)
   all_goals exact take_all s.stack GItem.enc 94
  ·repeat' (first | refine And.intro ?_ ?_ | exact rfl | exact trivial | exact Exists.intro _ rfl | fail)
   all_goals exact take_all s.stack GItem.enc 94
 rintro k hk
 refine Tp.run [28] ?_
 refine cond_split (fun h => ?_) (fun h => ?_)
 ·have hlt := len_lt h
  obtain ⟨e1, _⟩ := hw2 s.waiting[k] (List.getElem_mem hlt)
  refine Exists.intro k (Exists.intro (s.waiting[k].enc) (And.intro rfl (And.intro (map_get _ _ k hlt) ?_)))
  refine call_intro (ability_ct s.waiting[k].ability e1) ⟨fitL_refl s.waiting[k].ability.enc, trivial⟩ (.inr rfl) ?_
  refine Tp.frz [9000, 9001, 9002, 9003] (Tp.run [] ?_)
  refine And.intro (.inl rfl) (And.intro (take_bound s.waiting GWaiting.enc k hlt _ 768 (by decide) hw) (And.intro (take_bound2 s.waiting GWaiting.enc k hlt _ 768 (by decide) hw) ?_))
  refine Exists.intro (k + 1) (And.intro (show k + 1 ≤ _ by omega) (And.intro (show s.waiting.length - (k + 1) < s.waiting.length - k by omega) ?_))
  refine wk_of [(9000, 9000), (9001, 9001), (9002, 9002), (9003, 9003)] rfl rfl ?_ ?_ ?_
  ·repeat' (first | refine And.intro ?_ ?_ | exact rfl | exact trivial | exact Exists.intro _ rfl | fail)
   exact succ_eq k hlt 768 (by decide) hw
  ·repeat' (first | refine And.intro ?_ ?_ | exact rfl | exact trivial | exact Exists.intro _ rfl | fail)
  ·repeat' (first | refine And.intro ?_ ?_ | exact rfl | exact trivial | exact Exists.intro _ rfl | fail)
   exact take_succ_map s.waiting GWaiting.enc k hlt
 have hk2 := len_ge h hk
 subst hk2
 clear h hk
 refine Tp.loop (fun k : Nat => ⟨[(1, .ptr 0 0), (2, .ptr 128 0), (3, .ptr 384 0), (10, AV.i k)], [(0, s.enc.map .t), (128, List.replicate 19 .bot), (384, (((((s.enc.map .t).set 0 (.row 9000 0)).set 1 (.row 9001 0)).set 2 (.row 9002 0)).set 6 (.row 9003 0)))], [(9000, ⟨59, 14, 0, s.players.map GPlayer.enc⟩), (9001, ⟨47, 19, 0, s.objects.map GObject.enc⟩), (9002, ⟨3, 1, 0, s.battlefield.map encI⟩), (9003, ⟨94, 6, 0, (s.conts.take k).map GCont.enc⟩)], 40000⟩) (fun k => k ≤ s.conts.length) (fun k => s.conts.length - k) 0 ?_ (Nat.zero_le _) ?_
 ·refine wk_of [(9000, 9000), (9001, 9001), (9002, 9002)] rfl rfl ?_ ?_ ?_
  ·repeat' (first | refine And.intro ?_ ?_ | exact rfl | exact trivial | exact Exists.intro _ rfl | fail)
   all_goals exact take_all s.waiting GWaiting.enc 89
  ·repeat' (first | refine And.intro ?_ ?_ | exact rfl | exact trivial | exact Exists.intro _ rfl | fail)
   all_goals exact take_all s.waiting GWaiting.enc 89
  ·repeat' (first | refine And.intro ?_ ?_ | exact rfl | exact trivial | exact Exists.intro _ rfl | fail)
   all_goals exact take_all s.waiting GWaiting.enc 89
 rintro k hk
 refine Tp.run [36] ?_
 refine cond_split (fun h => ?_) (fun h => ?_)
 ·have hlt := len_lt h
  obtain ⟨e1, e2, _⟩ := hc2 s.conts[k] (List.getElem_mem hlt)
  refine Exists.intro k (Exists.intro (s.conts[k].enc) (And.intro rfl (And.intro (map_get _ _ k hlt) ?_)))
  refine call_intro (ints_ct _ (map_bound _ _ _ e1)) ⟨rfl, trivial⟩ (.inr rfl) ?_
  refine And.intro (.inl rfl) (And.intro (all_bound _ 176 (map_bound _ _ _ e2)) (And.intro (all_bound2 _ 176 (by decide) (map_bound _ _ _ e2)) ?_))
  refine Tp.frz [9000, 9001, 9002, 9003] (Tp.run [] ?_)
  refine And.intro (.inl rfl) (And.intro (take_bound s.conts GCont.enc k hlt _ 80 (by decide) hc) (And.intro (take_bound2 s.conts GCont.enc k hlt _ 80 (by decide) hc) ?_))
  refine Exists.intro (k + 1) (And.intro (show k + 1 ≤ _ by omega) (And.intro (show s.conts.length - (k + 1) < s.conts.length - k by omega) ?_))
  refine wk_of [(9000, 9000), (9001, 9001), (9002, 9002), (9003, 9003)] rfl rfl ?_ ?_ ?_
  ·repeat' (first | refine And.intro ?_ ?_ | exact rfl | exact trivial | exact Exists.intro _ rfl | fail)
   exact succ_eq k hlt 80 (by decide) hc
  ·repeat' (first | refine And.intro ?_ ?_ | exact rfl | exact trivial | exact Exists.intro _ rfl | fail)
  ·repeat' (first | refine And.intro ?_ ?_ | exact rfl | exact trivial | exact Exists.intro _ rfl | fail)
   exact take_succ_map s.conts GCont.enc k hlt
 have hk3 := len_ge h hk
 subst hk3
 clear h hk
 refine call_intro (ints_ct _ (map_bound _ _ _ hxt)) ⟨rfl, trivial⟩ (.inr rfl) ?_
 refine Exists.intro [(0, 9000), (1, 9001), (2, 9002)] (And.intro rfl (And.intro ?_ ?_))
 ·repeat' (first | refine And.intro ?_ ?_ | exact rfl | exact trivial | exact Exists.intro _ rfl | fail)
 ·repeat' (first | refine And.intro ?_ ?_ | exact rfl | exact trivial | exact Exists.intro _ rfl | fail)
  all_goals exact take_all s.conts GCont.enc 6
end Go.Proofs.Ytiebjkbofoppaaa
end
section
namespace Cg
open Go
def zeroObj : GObject := ⟨0, 0, 0, 0, 0, false, false, false, false, 0, 0, 0, 0, 0, 0, 0, false, 0, 0⟩
def placeM (l : List GObject) (id : Int) : Int := fidx (fun o : GObject => o.id == id) l
def findM (l : List GObject) (id : Int) : GObject := (l.find? fun o => o.id == id).getD zeroObj
def hasM (l : List GObject) (id : Int) : Bool := (l.find? fun o => o.id == id).isSome
def insM (l : List GObject) (o : GObject) : List GObject := l.take (l.takeWhile fun x => decide (x.id < o.id)).length ++ [o] ++ l.drop (l.takeWhile fun x => decide (x.id < o.id)).length
def putL (l : List GObject) (o : GObject) : List GObject := match l.findIdx? fun x => x.id == o.id with
 | some i => l.set i o
 | none => insM l o
def putM (s : GState) (o : GObject) : GState := { s with objects := putL s.objects o }
def plyM (l : List GPlayer) (p : Int) : Option GPlayer := if p < 0 ∨ (l.length : Int) ≤ p then none else l[p.toNat]?
def listM (s : GState) (z p : Int) : List Int :=
 if z == 0 then s.battlefield else if z == 4 then s.exile else if p < 0 ∨ (s.players.length : Int) ≤ p then [] else match s.players[p.toNat]? with
  | some q => if z == 1 then q.hand else if z == 2 then q.library else if z == 3 then q.graveyard else []
  | none => []
def setP (q : GPlayer) (z : Int) (l : List Int) : GPlayer := if z == 1 then { q with hand := l } else if z == 2 then { q with library := l } else if z == 3 then { q with graveyard := l } else q
def setM (s : GState) (z p : Int) (l : List Int) : GState :=
 if z == 0 then { s with battlefield := l } else if z == 4 then { s with exile := l } else if p < 0 ∨ (s.players.length : Int) ≤ p then s else match s.players[p.toNat]? with
  | some q => { s with players := s.players.set p.toNat (setP q z l) }
  | none => s
def newM (id card player z stamp : Int) : GObject := { zeroObj with id := id, card := card, owner := player, control := player, zone := z, stamp := stamp, copy := -1, attack := -1 }
theorem fidx_cases {α : Type} (p : α → Bool) (l : List α) : (fidx p l = -1 ∧ l.findIdx? p = none ∧ l.find? p = none) ∨ ∃ (i : Nat) (h : i < l.length), fidx p l = i ∧ l.findIdx? p = some i ∧ l.find? p = some l[i] := by
 unfold fidx
 cases hq : l.findIdx? p with
 | none => exact .inl ⟨rfl, rfl, by
   rw [List.find?_eq_none]
   rw [List.findIdx?_eq_none_iff] at hq
   intro x hx
   simp [hq x hx]⟩
 | some i =>
  have h1 := List.findIdx?_eq_some_iff_getElem.1 hq
  obtain ⟨h2, h3, h4⟩ := h1
  refine .inr ⟨i, h2, rfl, rfl, ?_⟩
  rw [List.find?_eq_some_iff_getElem]
  exact ⟨h3, i, h2, rfl, fun j hj => by simpa using h4 j hj⟩
theorem takeWhile_len {α : Type} (p : α → Bool) : ∀ (l : List α) (k : Nat), k ≤ l.length → (∀ j (h : j < l.length), j < k → p l[j] = true) → (k = l.length ∨ ∃ h : k < l.length, p l[k] = false) → (l.takeWhile p).length = k
 | [], k, hk, _, _ => by
  have : k = 0 := by simpa using hk
  rw [this]
  rfl
 | x :: l, 0, _, _, hk => by
  rcases hk with hk | ⟨h, hk⟩
  ·simp at hk
  ·have : p x = false := hk
   rw [List.takeWhile_cons_of_neg (by simp [this])]
   rfl
 | x :: l, k + 1, hk, h, hn => by
  have hx : p x = true := h 0 (by simp) (by omega)
  rw [List.takeWhile_cons_of_pos hx, List.length_cons, takeWhile_len p l k (by simpa using hk) (fun j hj hjk => h (j + 1) (by simp; omega) (by omega)) ?_]
  rcases hn with hn | ⟨h2, hn⟩
  ·left
   simpa using hn
  ·right
   exact ⟨by simpa using h2, hn⟩
theorem app_bnd {rxs ys : List (List Tr)} {n b : Nat} (h : rxs.length + ys.length ≤ n) (hb : n * b ≤ 140737488355328) : (rxs.length + ys.length) * b ≤ 140737488355328 := Nat.le_trans (Nat.mul_le_mul_right _ h) hb
theorem app_bnd2 {rxs ys : List (List Tr)} {n b : Nat} (h : rxs.length + ys.length ≤ n) (h0 : 0 < b) (hb : n * b < 140737488355328) : rxs.length + ys.length < 140737488355328 := by
 have : n * 1 ≤ n * b := Nat.mul_le_mul_left _ h0
 omega
theorem one_more {n b : Nat} (hb : b ≤ 3000) (h : n * b ≤ limB) : (n + 1) * b < 140737488355328 := by
 unfold limB at h
 rw [Nat.add_mul]
 omega
end Cg
end
section
namespace Go.Proofs.Ytiebjkbofoppaaa
open Go Cg Go.RowKit
set_option maxRecDepth 100000 in
theorem place_ct (s : GState) (id : Int) (hs : s.objects.length * 128 ≤ limB) : Ct Try.prog 50 [.agg (s.enc.map .t), .c (.t (iv id))] (AV.i (placeM s.objects id)) [] true := by
 refine Ct.lit (b := false) ?_ rfl
 refine ct_of Try.func50 rfl (enters_of Try.func50 (by kernel_rfl) rfl) tabOk (by kernel_rfl) rfl rfl rfl rfl fun w0 O => Tp.run [] ?_
 refine Tp.loop (fun k : Nat => ⟨[(1, .c (.t (iv id))), (2, .ptr 0 0), (5, AV.i k)], [(0, s.enc.map .t)], [], 10000⟩) (fun k => k ≤ s.objects.length ∧ ∀ j (h : j < s.objects.length), j < k → (s.objects[j].id == id) = false) (fun k => s.objects.length - k) 0 ?_ ⟨Nat.zero_le _, fun j _ h => by omega⟩ ?_
 ·refine wk_of [] rfl rfl ?_ ?_ ?_
  ·repeat' (first | refine And.intro ?_ ?_ | exact rfl | exact trivial | exact Exists.intro _ rfl | fail)
  ·exact ⟨cesM_refl _ rfl, trivial⟩
  ·repeat' (first | refine And.intro ?_ ?_ | exact rfl | exact trivial | exact Exists.intro _ rfl | fail)
 rintro k ⟨hk, hno⟩
 refine Tp.run [] ?_
 refine cond_split (fun h => ?_) (fun h => ?_)
 ·have hlt := len_lt h
  refine Exists.intro k (Exists.intro (s.objects[k].enc) (And.intro rfl (And.intro (map_get _ _ k hlt) ?_)))
  refine cond_split (fun h => ?_) (fun h => ?_)
  ·refine Exists.intro [] (And.intro rfl (And.intro trivial ?_))
   unfold placeM
   rw [fidx_hit _ _ k hlt h hno]
   exact rfl
  ·refine Exists.intro (k + 1) (And.intro ⟨by omega, fun j hj hjk => ?_⟩ (And.intro (show s.objects.length - (k + 1) < s.objects.length - k by omega) ?_))
   ·by_cases e : j = k
    ·subst e; exact h
    ·exact hno j hj (by omega)
   refine wk_of [] rfl rfl ?_ ?_ ?_
   ·repeat' (first | refine And.intro ?_ ?_ | exact rfl | exact trivial | exact Exists.intro _ rfl | fail)
    exact succ_eq k hlt 128 (by decide) hs
   ·exact ⟨cesM_refl _ rfl, trivial⟩
   ·repeat' (first | refine And.intro ?_ ?_ | exact rfl | exact trivial | exact Exists.intro _ rfl | fail)
 ·have hk2 := len_ge h hk
  refine Exists.intro [] (And.intro rfl (And.intro trivial ?_))
  unfold placeM
  rw [fidx_miss _ _ (fun j hj => hno j hj (by omega))]
  exact rfl
set_option maxRecDepth 100000 in
theorem find_ct (s : GState) (id : Int) (hs : s.objects.length * 128 ≤ limB) : Ct Try.prog 21 [.agg (s.enc.map .t), .c (.t (iv id))] (.tup [.agg ((findM s.objects id).enc.map .t), AV.b (hasM s.objects id)]) [] true := by
 refine Ct.litT (b := false) ?_ rfl
 have hp := place_ct s id hs
 unfold placeM at hp
 rcases fidx_cases (fun o : GObject => o.id == id) s.objects with ⟨e1, _, e2⟩ | ⟨i, hi, e1, _, e2⟩
 ·rw [e1] at hp
  unfold findM hasM
  rw [e2]
  refine ct_of Try.func21 rfl (enters_of Try.func21 (by kernel_rfl) rfl) tabOk (by kernel_rfl) rfl rfl rfl rfl fun w0 O => Tp.run [] ?_
  refine call_intro hp ⟨fitL_refl s.enc, rfl, trivial⟩ (.inr rfl) ?_
  refine Exists.intro [] (And.intro rfl (And.intro trivial ?_))
  repeat' (first | refine And.intro ?_ ?_ | exact rfl | exact trivial | exact Exists.intro _ rfl | fail)
 ·revert hp
  generalize fidx (fun o : GObject => o.id == id) s.objects = v at e1
  intro hp
  unfold findM hasM
  rw [e2]
  refine ct_of Try.func21 rfl (enters_of Try.func21 (by kernel_rfl) rfl) tabOk (by kernel_rfl) rfl rfl rfl rfl fun w0 O => Tp.run [] ?_
  refine call_intro hp ⟨fitL_refl s.enc, rfl, trivial⟩ (.inr rfl) ?_
  refine cond_split (fun h => by have := of_decide_eq_true h; omega) (fun _ => ?_)
  subst e1
  refine Exists.intro i (Exists.intro (s.objects[i].enc) (And.intro rfl (And.intro (map_get _ _ i hi) ?_)))
  refine Exists.intro [] (And.intro rfl (And.intro trivial ?_))
  repeat' (first | refine And.intro ?_ ?_ | exact rfl | exact trivial | exact Exists.intro _ rfl | fail)
set_option maxRecDepth 100000 in
theorem without_ct (l : List Int) (n : Int) (hl : l.length * 8 ≤ limB) : Ct Try.prog 71 [.c (.t (.sl 1 (l.map encI))), .c (.t (iv n))] (.c (.t (.sl 1 ((l.filter fun i => i != n).map encI)))) [] false := by
 refine ct_of Try.func71 rfl (enters_of Try.func71 (by kernel_rfl) rfl) tabOk (by kernel_rfl) rfl rfl rfl rfl fun w0 O => Tp.run [] ?_
 refine Tp.loop (fun k : Nat => ⟨[(0, .c (.t (.sl 1 (l.map encI)))), (1, .c (.t (iv n))), (5, .c (.row 9000 0)), (6, AV.i k)], [], [(9000, ⟨3, 1, 0, ((l.take k).filter fun i => i != n).map encI⟩)], 10000⟩) (fun k => k ≤ l.length) (fun k => l.length - k) 0 ?_ (Nat.zero_le _) ?_
 ·refine wk_of [] rfl rfl ?_ ?_ ?_
  ·repeat' (first | refine And.intro ?_ ?_ | exact rfl | exact trivial | exact Exists.intro _ rfl | fail)
  ·repeat' (first | refine And.intro ?_ ?_ | exact rfl | exact trivial | exact Exists.intro _ rfl | fail)
  ·repeat' (first | refine And.intro ?_ ?_ | exact rfl | exact trivial | exact Exists.intro _ rfl | fail)
 rintro k hk
 have hfl : ((l.take k).filter fun i => i != n).length ≤ k := Nat.le_trans (List.length_filter_le _ _) (by rw [List.length_take]; omega)
 refine Tp.run [] ?_
 refine cond_split (fun h => ?_) (fun h => ?_)
 ·have hlt := len_lt h
  have hts : l.take (k + 1) = l.take k ++ [l[k]] := by rw [List.take_add_one, List.getElem?_eq_getElem hlt]; rfl
  refine Exists.intro k (Exists.intro (encI l[k]) (And.intro rfl (And.intro (map_get _ _ k hlt) ?_)))
  refine cond_split (fun h => ?_) (fun h => ?_)
  ·refine Exists.intro k (Exists.intro (encI l[k]) (And.intro rfl (And.intro (map_get _ _ k hlt) ?_)))
   have hb : (((l.take k).filter fun i => i != n).map encI).length + [[iv l[k]]].length ≤ l.length + 1 := by
    rw [List.length_map, List.length_cons, List.length_nil]
    omega
   refine And.intro (.inl rfl) (And.intro (app_bnd hb (Nat.le_of_lt (one_more (by decide) hl))) (And.intro (app_bnd2 hb (by decide) (one_more (by decide) hl)) ?_))
   refine Exists.intro (k + 1) (And.intro (show k + 1 ≤ _ by omega) (And.intro (show l.length - (k + 1) < l.length - k by omega) ?_))
   refine wk_of [(9000, 9000)] rfl rfl ?_ ?_ ?_
   ·repeat' (first | refine And.intro ?_ ?_ | exact rfl | exact trivial | exact Exists.intro _ rfl | fail)
    exact succ_eq k hlt 8 (by decide) hl
   ·repeat' (first | refine And.intro ?_ ?_ | exact rfl | exact trivial | exact Exists.intro _ rfl | fail)
   ·repeat' (first | refine And.intro ?_ ?_ | exact rfl | exact trivial | exact Exists.intro _ rfl | fail)
    rw [hts, List.filter_append, List.map_append]
    simp only [List.filter_cons, h, List.filter_nil, List.map_cons, List.map_nil]
    rfl
  ·refine Exists.intro (k + 1) (And.intro (show k + 1 ≤ _ by omega) (And.intro (show l.length - (k + 1) < l.length - k by omega) ?_))
   refine wk_of [(9000, 9000)] rfl rfl ?_ ?_ ?_
   ·repeat' (first | refine And.intro ?_ ?_ | exact rfl | exact trivial | exact Exists.intro _ rfl | fail)
    exact succ_eq k hlt 8 (by decide) hl
   ·repeat' (first | refine And.intro ?_ ?_ | exact rfl | exact trivial | exact Exists.intro _ rfl | fail)
   ·repeat' (first | refine And.intro ?_ ?_ | exact rfl | exact trivial | exact Exists.intro _ rfl | fail)
    rw [hts, List.filter_append, List.map_append]
    simp only [List.filter_cons, h, List.filter_nil, List.map_cons, List.map_nil]
    simp
 ·have hk2 := len_ge h hk
  subst hk2
  refine Exists.intro [] (And.intro rfl (And.intro trivial ?_))
  repeat' (first | refine And.intro ?_ ?_ | exact rfl | exact trivial | exact Exists.intro _ rfl | fail)
  rw [List.take_length]
end Go.Proofs.Ytiebjkbofoppaaa
end
section
namespace Go.Proofs.Ytiebjkbofoppaaa
open Go Cg Go.RowKit
theorem plr_ok {s : GState} (h : s.ok) {q : GPlayer} (hq : q ∈ s.players) : q.hand.length * 8 ≤ limB ∧ q.library.length * 8 ≤ limB ∧ q.graveyard.length * 8 ≤ limB := by
 obtain ⟨hp, hp2, _⟩ := h
 obtain ⟨e1, e2, e3⟩ := hp2 q hq
 exact ⟨e2, e1, e3⟩
set_option maxRecDepth 100000 in
theorem list_ct (s : GState) (z p : Int) (h : s.ok) : Ct Try.prog 28 [.agg (s.enc.map .t), .c (.t (iv z)), .c (.t (iv p))] (.c (.t (.sl 1 ((listM s z p).map encI)))) [] false := by
 have hbt : s.battlefield.length * 8 ≤ limB := h.2.2.2.2.1
 have hex : s.exile.length * 8 ≤ limB := h.2.2.2.2.2.1
 generalize hL : listM s z p = L
 refine ct_of Try.func28 rfl (enters_of Try.func28 (by kernel_rfl) rfl) tabOk (by kernel_rfl) rfl rfl rfl rfl fun w0 O => Tp.run [3,4,5,6,7,8,10,11,12,13,14,15] ?_
 refine cond_split (fun hz0 => ?_) (fun hz0 => ?_)
 ·have hl : listM s z p = s.battlefield := by unfold listM; rw [if_pos hz0]
  refine Tp.run [] ?_
  refine call_intro (ints_ct _ (map_bound _ _ _ hbt)) ⟨rfl, trivial⟩ (.inr rfl) ?_
  rw [hL] at hl
  rw [hl]
  refine Exists.intro [] (And.intro rfl (And.intro ?_ ?_))
  ·repeat' (first | refine And.intro ?_ ?_ | exact rfl | exact trivial | exact Exists.intro _ rfl | fail)
  ·repeat' (first | refine And.intro ?_ ?_ | exact rfl | exact trivial | exact Exists.intro _ rfl | fail)
 refine Tp.run [] ?_
 refine cond_split (fun hz4 => ?_) (fun hz4 => ?_)
 ·have hl : listM s z p = s.exile := by unfold listM; rw [if_neg (by rw [hz0]; decide), if_pos hz4]
  refine Tp.run [] ?_
  refine call_intro (ints_ct _ (map_bound _ _ _ hex)) ⟨rfl, trivial⟩ (.inr rfl) ?_
  rw [hL] at hl
  rw [hl]
  refine Exists.intro [] (And.intro rfl (And.intro ?_ ?_))
  ·repeat' (first | refine And.intro ?_ ?_ | exact rfl | exact trivial | exact Exists.intro _ rfl | fail)
  ·repeat' (first | refine And.intro ?_ ?_ | exact rfl | exact trivial | exact Exists.intro _ rfl | fail)
 have hl0 : listM s z p = if p < 0 ∨ (s.players.length : Int) ≤ p then [] else match s.players[p.toNat]? with
  | some q => if z == 1 then q.hand else if z == 2 then q.library else if z == 3 then q.graveyard else []
  | none => [] := by unfold listM; rw [if_neg (by rw [hz0]; decide), if_neg (by rw [hz4]; decide)] <;> rfl
 refine Tp.run [] ?_
 refine cond_split (fun hp0 => ?_) (fun hp0 => ?_)
 ·rw [if_pos (.inl (of_decide_eq_true hp0))] at hl0
  refine Tp.run [] ?_
  rw [hL] at hl0
  rw [hl0]
  refine Exists.intro [] (And.intro rfl (And.intro ?_ ?_))
  ·repeat' (first | refine And.intro ?_ ?_ | exact rfl | exact trivial | exact Exists.intro _ rfl | fail)
  ·repeat' (first | refine And.intro ?_ ?_ | exact rfl | exact trivial | exact Exists.intro _ rfl | fail)
 refine cond_split (fun hp1 => ?_) (fun hp1 => ?_)
 ·have hp1 := of_decide_eq_true hp1
  rw [List.length_map] at hp1
  rw [if_pos (.inr hp1)] at hl0
  refine Tp.run [] ?_
  rw [hL] at hl0
  rw [hl0]
  refine Exists.intro [] (And.intro rfl (And.intro ?_ ?_))
  ·repeat' (first | refine And.intro ?_ ?_ | exact rfl | exact trivial | exact Exists.intro _ rfl | fail)
  ·repeat' (first | refine And.intro ?_ ?_ | exact rfl | exact trivial | exact Exists.intro _ rfl | fail)
 have hp0 := of_decide_eq_false hp0
 have hp1 := of_decide_eq_false hp1
 rw [List.length_map] at hp1
 obtain ⟨k, rfl⟩ : ∃ k : Nat, p = k := ⟨p.toNat, by omega⟩
 have hk : k < s.players.length := by omega
 rw [if_neg (by omega), Int.toNat_natCast, List.getElem?_eq_getElem hk] at hl0
 obtain ⟨e1, e2, e3⟩ := plr_ok h (List.getElem_mem hk)
 refine Tp.run [] ?_
 refine cond_split (fun hz1 => ?_) (fun hz1 => ?_)
 ·have hl : listM s z k = s.players[k].hand := by rw [hl0]; exact (if_pos hz1)
  refine Tp.run [] ?_
  refine Exists.intro k (Exists.intro (s.players[k].enc) (And.intro rfl (And.intro (map_get _ _ k hk) ?_)))
  refine call_intro (ints_ct _ (map_bound _ _ _ e1)) ⟨rfl, trivial⟩ (.inr rfl) ?_
  rw [hL] at hl
  rw [hl]
  refine Exists.intro [] (And.intro rfl (And.intro ?_ ?_))
  ·repeat' (first | refine And.intro ?_ ?_ | exact rfl | exact trivial | exact Exists.intro _ rfl | fail)
  ·repeat' (first | refine And.intro ?_ ?_ | exact rfl | exact trivial | exact Exists.intro _ rfl | fail)
 refine Tp.run [] ?_
 refine cond_split (fun hz2 => ?_) (fun hz2 => ?_)
 ·have hl : listM s z k = s.players[k].library := by rw [hl0]; exact (if_neg (by rw [hz1]; decide)).trans ((if_pos hz2))
  refine Tp.run [] ?_
  refine Exists.intro k (Exists.intro (s.players[k].enc) (And.intro rfl (And.intro (map_get _ _ k hk) ?_)))
  refine call_intro (ints_ct _ (map_bound _ _ _ e2)) ⟨rfl, trivial⟩ (.inr rfl) ?_
  rw [hL] at hl
  rw [hl]
  refine Exists.intro [] (And.intro rfl (And.intro ?_ ?_))
  ·repeat' (first | refine And.intro ?_ ?_ | exact rfl | exact trivial | exact Exists.intro _ rfl | fail)
  ·repeat' (first | refine And.intro ?_ ?_ | exact rfl | exact trivial | exact Exists.intro _ rfl | fail)
 refine Tp.run [] ?_
 refine cond_split (fun hz3 => ?_) (fun hz3 => ?_)
 ·have hl : listM s z k = s.players[k].graveyard := by rw [hl0]; exact (if_neg (by rw [hz1]; decide)).trans ((if_neg (by rw [hz2]; decide)).trans ((if_pos hz3)))
  refine Tp.run [] ?_
  refine Exists.intro k (Exists.intro (s.players[k].enc) (And.intro rfl (And.intro (map_get _ _ k hk) ?_)))
  refine call_intro (ints_ct _ (map_bound _ _ _ e3)) ⟨rfl, trivial⟩ (.inr rfl) ?_
  rw [hL] at hl
  rw [hl]
  refine Exists.intro [] (And.intro rfl (And.intro ?_ ?_))
  ·repeat' (first | refine And.intro ?_ ?_ | exact rfl | exact trivial | exact Exists.intro _ rfl | fail)
  ·repeat' (first | refine And.intro ?_ ?_ | exact rfl | exact trivial | exact Exists.intro _ rfl | fail)
 have hl : listM s z k = [] := by rw [hl0]; exact (if_neg (by rw [hz1]; decide)).trans ((if_neg (by rw [hz2]; decide)).trans (if_neg (by rw [hz3]; decide)))
 refine Tp.run [] ?_
 rw [hL] at hl
 rw [hl]
 refine Exists.intro [] (And.intro rfl (And.intro ?_ ?_))
 ·repeat' (first | refine And.intro ?_ ?_ | exact rfl | exact trivial | exact Exists.intro _ rfl | fail)
 ·repeat' (first | refine And.intro ?_ ?_ | exact rfl | exact trivial | exact Exists.intro _ rfl | fail)
set_option maxRecDepth 100000 in
theorem list_row (s : GState) (z p : Int) (h : s.ok) : Ct Try.prog 28 [.agg (s.enc.map .t), .c (.t (iv z)), .c (.t (iv p))] (.c (.row 0 0)) [⟨3, 1, 0, (listM s z p).map encI⟩] false := by
 have hbt : s.battlefield.length * 8 ≤ limB := h.2.2.2.2.1
 have hex : s.exile.length * 8 ≤ limB := h.2.2.2.2.2.1
 generalize hL : listM s z p = L
 refine ct_of Try.func28 rfl (enters_of Try.func28 (by kernel_rfl) rfl) tabOk (by kernel_rfl) rfl rfl rfl rfl fun w0 O => Tp.run [3,4,5,6,7,8,10,11,12,13,14,15] ?_
 refine cond_split (fun hz0 => ?_) (fun hz0 => ?_)
 ·have hl : listM s z p = s.battlefield := by unfold listM; rw [if_pos hz0]
  refine Tp.run [] ?_
  refine call_intro (ints_row _ (map_bound _ _ _ hbt)) ⟨rfl, trivial⟩ (.inr rfl) ?_
  rw [hL] at hl
  rw [hl]
  refine Exists.intro [(0, 896)] (And.intro rfl (And.intro ?_ ?_))
  ·repeat' (first | refine And.intro ?_ ?_ | exact rfl | exact trivial | exact Exists.intro _ rfl | fail)
  ·repeat' (first | refine And.intro ?_ ?_ | exact rfl | exact trivial | exact Exists.intro _ rfl | fail)
 refine Tp.run [] ?_
 refine cond_split (fun hz4 => ?_) (fun hz4 => ?_)
 ·have hl : listM s z p = s.exile := by unfold listM; rw [if_neg (by rw [hz0]; decide), if_pos hz4]
  refine Tp.run [] ?_
  refine call_intro (ints_row _ (map_bound _ _ _ hex)) ⟨rfl, trivial⟩ (.inr rfl) ?_
  rw [hL] at hl
  rw [hl]
  refine Exists.intro [(0, 1152)] (And.intro rfl (And.intro ?_ ?_))
  ·repeat' (first | refine And.intro ?_ ?_ | exact rfl | exact trivial | exact Exists.intro _ rfl | fail)
  ·repeat' (first | refine And.intro ?_ ?_ | exact rfl | exact trivial | exact Exists.intro _ rfl | fail)
 have hl0 : listM s z p = if p < 0 ∨ (s.players.length : Int) ≤ p then [] else match s.players[p.toNat]? with
  | some q => if z == 1 then q.hand else if z == 2 then q.library else if z == 3 then q.graveyard else []
  | none => [] := by unfold listM; rw [if_neg (by rw [hz0]; decide), if_neg (by rw [hz4]; decide)] <;> rfl
 refine Tp.run [] ?_
 refine cond_split (fun hp0 => ?_) (fun hp0 => ?_)
 ·rw [if_pos (.inl (of_decide_eq_true hp0))] at hl0
  refine Tp.run [] ?_
  rw [hL] at hl0
  rw [hl0]
  refine Exists.intro [] (And.intro rfl (And.intro ?_ ?_))
  ·repeat' (first | refine And.intro ?_ ?_ | exact rfl | exact trivial | exact Exists.intro _ rfl | fail)
  ·repeat' (first | refine And.intro ?_ ?_ | exact rfl | exact trivial | exact Exists.intro _ rfl | fail)
 refine cond_split (fun hp1 => ?_) (fun hp1 => ?_)
 ·have hp1 := of_decide_eq_true hp1
  rw [List.length_map] at hp1
  rw [if_pos (.inr hp1)] at hl0
  refine Tp.run [] ?_
  rw [hL] at hl0
  rw [hl0]
  refine Exists.intro [] (And.intro rfl (And.intro ?_ ?_))
  ·repeat' (first | refine And.intro ?_ ?_ | exact rfl | exact trivial | exact Exists.intro _ rfl | fail)
  ·repeat' (first | refine And.intro ?_ ?_ | exact rfl | exact trivial | exact Exists.intro _ rfl | fail)
 have hp0 := of_decide_eq_false hp0
 have hp1 := of_decide_eq_false hp1
 rw [List.length_map] at hp1
 obtain ⟨k, rfl⟩ : ∃ k : Nat, p = k := ⟨p.toNat, by omega⟩
 have hk : k < s.players.length := by omega
 rw [if_neg (by omega), Int.toNat_natCast, List.getElem?_eq_getElem hk] at hl0
 obtain ⟨e1, e2, e3⟩ := plr_ok h (List.getElem_mem hk)
 refine Tp.run [] ?_
 refine cond_split (fun hz1 => ?_) (fun hz1 => ?_)
 ·have hl : listM s z k = s.players[k].hand := by rw [hl0]; exact (if_pos hz1)
  refine Tp.run [] ?_
  refine Exists.intro k (Exists.intro (s.players[k].enc) (And.intro rfl (And.intro (map_get _ _ k hk) ?_)))
  refine call_intro (ints_row _ (map_bound _ _ _ e1)) ⟨rfl, trivial⟩ (.inr rfl) ?_
  rw [hL] at hl
  rw [hl]
  refine Exists.intro [(0, 3200)] (And.intro rfl (And.intro ?_ ?_))
  ·repeat' (first | refine And.intro ?_ ?_ | exact rfl | exact trivial | exact Exists.intro _ rfl | fail)
  ·repeat' (first | refine And.intro ?_ ?_ | exact rfl | exact trivial | exact Exists.intro _ rfl | fail)
 refine Tp.run [] ?_
 refine cond_split (fun hz2 => ?_) (fun hz2 => ?_)
 ·have hl : listM s z k = s.players[k].library := by rw [hl0]; exact (if_neg (by rw [hz1]; decide)).trans ((if_pos hz2))
  refine Tp.run [] ?_
  refine Exists.intro k (Exists.intro (s.players[k].enc) (And.intro rfl (And.intro (map_get _ _ k hk) ?_)))
  refine call_intro (ints_row _ (map_bound _ _ _ e2)) ⟨rfl, trivial⟩ (.inr rfl) ?_
  rw [hL] at hl
  rw [hl]
  refine Exists.intro [(0, 3456)] (And.intro rfl (And.intro ?_ ?_))
  ·repeat' (first | refine And.intro ?_ ?_ | exact rfl | exact trivial | exact Exists.intro _ rfl | fail)
  ·repeat' (first | refine And.intro ?_ ?_ | exact rfl | exact trivial | exact Exists.intro _ rfl | fail)
 refine Tp.run [] ?_
 refine cond_split (fun hz3 => ?_) (fun hz3 => ?_)
 ·have hl : listM s z k = s.players[k].graveyard := by rw [hl0]; exact (if_neg (by rw [hz1]; decide)).trans ((if_neg (by rw [hz2]; decide)).trans ((if_pos hz3)))
  refine Tp.run [] ?_
  refine Exists.intro k (Exists.intro (s.players[k].enc) (And.intro rfl (And.intro (map_get _ _ k hk) ?_)))
  refine call_intro (ints_row _ (map_bound _ _ _ e3)) ⟨rfl, trivial⟩ (.inr rfl) ?_
  rw [hL] at hl
  rw [hl]
  refine Exists.intro [(0, 3712)] (And.intro rfl (And.intro ?_ ?_))
  ·repeat' (first | refine And.intro ?_ ?_ | exact rfl | exact trivial | exact Exists.intro _ rfl | fail)
  ·repeat' (first | refine And.intro ?_ ?_ | exact rfl | exact trivial | exact Exists.intro _ rfl | fail)
 have hl : listM s z k = [] := by rw [hl0]; exact (if_neg (by rw [hz1]; decide)).trans ((if_neg (by rw [hz2]; decide)).trans (if_neg (by rw [hz3]; decide)))
 refine Tp.run [] ?_
 rw [hL] at hl
 rw [hl]
 refine Exists.intro [] (And.intro rfl (And.intro ?_ ?_))
 ·repeat' (first | refine And.intro ?_ ?_ | exact rfl | exact trivial | exact Exists.intro _ rfl | fail)
 ·repeat' (first | refine And.intro ?_ ?_ | exact rfl | exact trivial | exact Exists.intro _ rfl | fail)
end Go.Proofs.Ytiebjkbofoppaaa
end
section
namespace Go.Proofs.Ytiebjkbofoppaaa
open Go Cg Go.RowKit
theorem splice_all (xs ys : List Tr) (h : xs.length = ys.length) : spliceT xs 0 ys = ys := by
 rw [spliceT_eq, List.take_zero, List.nil_append, List.drop_eq_nil_of_le (by omega), List.append_nil]
theorem set_map {α : Type} (l : List α) (f : α → List Tr) (i : Nat) (x : α) : (l.map f).set i (f x) = (l.set i x).map f := by
 induction l generalizing i with
 | nil => rfl
 | cons y l ih => cases i with
  | zero => rfl
  | succ i => exact congrArg (_ :: ·) (ih i)
theorem put_hit (l : List GObject) (o : GObject) (i : Nat) (h : l.findIdx? (fun x => x.id == o.id) = some i) : putL l o = l.set i o := by
 unfold putL
 rw [h]
theorem put_miss (l : List GObject) (o : GObject) (k : Nat) (h : l.findIdx? (fun x => x.id == o.id) = none) (hk : k ≤ l.length) (h1 : ∀ j (h : j < l.length), j < k → decide (l[j].id < o.id) = true) (h2 : k = l.length ∨ ∃ h : k < l.length, decide (l[k].id < o.id) = false) : putL l o = l.take k ++ [o] ++ l.drop k := by
 unfold putL
 rw [h]
 show insM l o = _
 unfold insM
 rw [takeWhile_len _ l k hk h1 h2]
set_option maxRecDepth 100000 in
set_option maxHeartbeats 4000000 in
theorem put_ct (s : GState) (o : GObject) (h : s.ok) : Ct Try.prog 23 [.agg (s.enc.map .t), .agg (o.enc.map .t)] (.agg (((putM s o).enc.map .t).set 2 (.row 0 0))) [⟨3, 1, 0, s.battlefield.map encI⟩] false := by
 have ho : s.objects.length * 128 ≤ limB := h.2.2.1
 have hp := place_ct s o.id ho
 unfold placeM at hp
 unfold putM
 generalize hL : putL s.objects o = L
 rcases fidx_cases (fun x : GObject => x.id == o.id) s.objects with ⟨e1, e2, _⟩ | ⟨i, hi, e1, e2, _⟩
 ·revert hp
  generalize fidx (fun x : GObject => x.id == o.id) s.objects = v at e1
  intro hp
  refine ct_of Try.func23 rfl (enters_of Try.func23 (by kernel_rfl) rfl) tabOk (by kernel_rfl) rfl rfl rfl rfl fun w0 O => Tp.run [4,6,9,10,11,12] ?_
  refine call_intro (copy_ct s h) ⟨fitL_refl s.enc, trivial⟩ (.inr rfl) ?_
  refine call_intro hp ⟨?_, rfl, trivial⟩ (.inl rfl) ?_
  ·repeat' (first | refine And.intro ?_ ?_ | exact rfl | exact trivial | exact Exists.intro _ rfl | fail)
  refine cond_split (fun h => by have := of_decide_eq_true h; omega) (fun _ => ?_)
  refine Tp.run [] ?_
  refine Tp.loop (fun k : Nat => ⟨[(3, .ptr 128 0), (4, .ptr 256 0), (5, .ptr 640 0), (7, AV.i k)], [(128, o.enc.map .t), (256, List.replicate 19 .bot), (640, (s.enc.map .t).set 2 (.row 9000 0))], [(9000, ⟨3, 1, 0, s.battlefield.map encI⟩)], 10000⟩) (fun k => k ≤ s.objects.length ∧ ∀ j (h : j < s.objects.length), j < k → decide (s.objects[j].id < o.id) = true) (fun k => s.objects.length - k) 0 ?_ ⟨Nat.zero_le _, fun j _ h => by omega⟩ ?_
  ·refine wk_of [(9000, 514)] rfl rfl ?_ ?_ ?_
   ·repeat' (first | refine And.intro ?_ ?_ | exact rfl | exact trivial | exact Exists.intro _ rfl | fail)
   ·repeat' (first | refine And.intro ?_ ?_ | exact rfl | exact trivial | exact Exists.intro _ rfl | fail)
   ·repeat' (first | refine And.intro ?_ ?_ | exact rfl | exact trivial | exact Exists.intro _ rfl | fail)
  rintro k ⟨hk, hno⟩
  have after : (k = s.objects.length ∨ ∃ h : k < s.objects.length, decide (s.objects[k].id < o.id) = false) → L = s.objects.take k ++ [o] ++ s.objects.drop k := fun hx => by rw [← hL]; exact put_miss _ o k e2 hk hno hx
  have hb : ∀ n, n ≤ s.objects.length + 1 → n * 128 ≤ 140737488355328 ∧ n < 140737488355328 := fun n hn => by unfold limB at ho; omega
  refine Tp.run [8] ?_
  refine cond_split (fun h => ?_) (fun h => ?_)
  ·have hlt := len_lt h
   refine Exists.intro k (Exists.intro (s.objects[k].enc) (And.intro rfl (And.intro (map_get _ _ k hlt) ?_)))
   refine cond_split (fun h => ?_) (fun h => ?_)
   ·refine Tp.run [] ?_
    refine Exists.intro (k + 1) (And.intro ⟨by omega, fun j hj hjk => ?_⟩ (And.intro (show s.objects.length - (k + 1) < s.objects.length - k by omega) ?_))
    ·by_cases e : j = k
     ·subst e; exact h
     ·exact hno j hj (by omega)
    refine wk_of [(9000, 9000)] rfl rfl ?_ ?_ ?_
    ·repeat' (first | refine And.intro ?_ ?_ | exact rfl | exact trivial | exact Exists.intro _ rfl | fail)
     exact succ_eq k hlt 128 (by decide) ho
    ·repeat' (first | refine And.intro ?_ ?_ | exact rfl | exact trivial | exact Exists.intro _ rfl | fail)
    ·repeat' (first | refine And.intro ?_ ?_ | exact rfl | exact trivial | exact Exists.intro _ rfl | fail)
   ·have hl := after (.inr ⟨hlt, h⟩)
    refine Tp.run [10, 11, 12] ?_
    refine Exists.intro 0 (Exists.intro k (And.intro rfl (And.intro rfl (And.intro (Nat.zero_le _) (And.intro ?_ ?_)))))
    ·rw [List.length_map]; exact hk
    refine And.intro (.inl rfl) (And.intro (hb _ (by simp only [List.length_map, List.length_take, List.length_drop, List.length_append, List.length_nil, List.length_cons]; omega)).1 (And.intro (hb _ (by simp only [List.length_map, List.length_take, List.length_drop, List.length_append, List.length_nil, List.length_cons]; omega)).2 ?_))
    refine Tp.run [] ?_
    refine And.intro (.inl rfl) (And.intro (hb _ (by simp only [List.length_map, List.length_take, List.length_drop, List.length_append, List.length_nil, List.length_cons]; omega)).1 (And.intro (hb _ (by simp only [List.length_map, List.length_take, List.length_drop, List.length_append, List.length_nil, List.length_cons]; omega)).2 ?_))
    refine Tp.run [] ?_
    refine Exists.intro k (Exists.intro s.objects.length (And.intro rfl (And.intro ?_ (And.intro hk (And.intro ?_ ?_)))))
    ·exact (List.length_map _).symm
    ·rw [List.length_map]; exact Nat.le_refl _
    refine And.intro (.inl rfl) (And.intro (hb _ (by simp only [List.length_map, List.length_take, List.length_drop, List.length_append, List.length_nil, List.length_cons]; omega)).1 (And.intro (hb _ (by simp only [List.length_map, List.length_take, List.length_drop, List.length_append, List.length_nil, List.length_cons]; omega)).2 ?_))
    refine Tp.run [] ?_
    refine Exists.intro [(0, 9000)] (And.intro rfl (And.intro ?_ ?_))
    ·repeat' (first | refine And.intro ?_ ?_ | exact rfl | exact trivial | exact Exists.intro _ rfl | fail)
    ·repeat' (first | refine And.intro ?_ ?_ | exact rfl | exact trivial | exact Exists.intro _ rfl | fail)
     rw [hl, List.map_append, List.map_append, List.map_take, List.map_drop, List.drop_zero, List.take_of_length_le (l := (s.objects.map GObject.enc)) (i := s.objects.length) (by rw [List.length_map]; exact Nat.le_refl _)]
     rfl
  ·have hk2 := len_ge h hk
   have hl := after (.inl hk2)
   refine Tp.run [10, 11, 12] ?_
   refine Exists.intro 0 (Exists.intro k (And.intro rfl (And.intro rfl (And.intro (Nat.zero_le _) (And.intro ?_ ?_)))))
   ·rw [List.length_map]; exact hk
   refine And.intro (.inl rfl) (And.intro (hb _ (by simp only [List.length_map, List.length_take, List.length_drop, List.length_append, List.length_nil, List.length_cons]; omega)).1 (And.intro (hb _ (by simp only [List.length_map, List.length_take, List.length_drop, List.length_append, List.length_nil, List.length_cons]; omega)).2 ?_))
   refine Tp.run [] ?_
   refine And.intro (.inl rfl) (And.intro (hb _ (by simp only [List.length_map, List.length_take, List.length_drop, List.length_append, List.length_nil, List.length_cons]; omega)).1 (And.intro (hb _ (by simp only [List.length_map, List.length_take, List.length_drop, List.length_append, List.length_nil, List.length_cons]; omega)).2 ?_))
   refine Tp.run [] ?_
   refine Exists.intro k (Exists.intro s.objects.length (And.intro rfl (And.intro ?_ (And.intro hk (And.intro ?_ ?_)))))
   ·exact (List.length_map _).symm
   ·rw [List.length_map]; exact Nat.le_refl _
   refine And.intro (.inl rfl) (And.intro (hb _ (by simp only [List.length_map, List.length_take, List.length_drop, List.length_append, List.length_nil, List.length_cons]; omega)).1 (And.intro (hb _ (by simp only [List.length_map, List.length_take, List.length_drop, List.length_append, List.length_nil, List.length_cons]; omega)).2 ?_))
   refine Tp.run [] ?_
   refine Exists.intro [(0, 9000)] (And.intro rfl (And.intro ?_ ?_))
   ·repeat' (first | refine And.intro ?_ ?_ | exact rfl | exact trivial | exact Exists.intro _ rfl | fail)
   ·repeat' (first | refine And.intro ?_ ?_ | exact rfl | exact trivial | exact Exists.intro _ rfl | fail)
    rw [hl, List.map_append, List.map_append, List.map_take, List.map_drop, List.drop_zero, List.take_of_length_le (l := (s.objects.map GObject.enc)) (i := s.objects.length) (by rw [List.length_map]; exact Nat.le_refl _)]
    rfl
 ·revert hp
  generalize fidx (fun x : GObject => x.id == o.id) s.objects = v at e1
  intro hp
  rw [put_hit _ _ _ e2] at hL
  refine ct_of Try.func23 rfl (enters_of Try.func23 (by kernel_rfl) rfl) tabOk (by kernel_rfl) rfl rfl rfl rfl fun w0 O => Tp.run [4,6,9,10,11,12] ?_
  refine call_intro (copy_ct s h) ⟨fitL_refl s.enc, trivial⟩ (.inr rfl) ?_
  refine call_intro hp ⟨?_, rfl, trivial⟩ (.inl rfl) ?_
  ·repeat' (first | refine And.intro ?_ ?_ | exact rfl | exact trivial | exact Exists.intro _ rfl | fail)
  refine cond_split (fun _ => ?_) (fun h => by have := of_decide_eq_false h; omega)
  subst e1
  refine Tp.run [] ?_
  refine Exists.intro i (And.intro rfl (And.intro (by rw [List.length_map]; exact hi) ?_))
  refine Exists.intro (s.objects[i].enc) (And.intro (map_get _ _ i hi) (And.intro (Nat.le_refl _) ?_))
  refine Exists.intro [(0, 514)] (And.intro rfl (And.intro ?_ ?_))
  ·repeat' (first | refine And.intro ?_ ?_ | exact rfl | exact trivial | exact Exists.intro _ rfl | fail)
  ·repeat' (first | refine And.intro ?_ ?_ | exact rfl | exact trivial | exact Exists.intro _ rfl | fail)
   rw [← hL]
   exact congrArg (Tr.sl 19) (set_map s.objects GObject.enc i o).symm
end Go.Proofs.Ytiebjkbofoppaaa
end
section
namespace Go.Proofs.Ytiebjkbofoppaaa
open Go Cg Go.RowKit
set_option maxRecDepth 100000 in
set_option maxHeartbeats 4000000 in
theorem set_ct (s : GState) (z p : Int) (l : List Int) (h : s.ok) (hl : l.length * 8 < 140737488355328) : Ct Try.prog 30 [.agg (s.enc.map .t), .c (.t (iv z)), .c (.t (iv p)), .c (.t (.sl 1 (l.map encI)))] (.agg ((setM s z p l).enc.map .t)) [] false := by
 generalize hS : setM s z p l = S
 refine ct_of Try.func30 rfl (enters_of Try.func30 (by kernel_rfl) rfl) tabOk (by kernel_rfl) rfl rfl rfl rfl fun w0 O => Tp.run [4,5,6,7,8,9,10,11,13,14,15,16,17,18] ?_
 refine call_intro (copy_ct s h) ⟨fitL_refl s.enc, trivial⟩ (.inr rfl) ?_
 refine cond_split (fun hz0 => ?_) (fun hz0 => ?_)
 ·have hl2 : setM s z p l = { s with battlefield := l } := by unfold setM; rw [if_pos hz0]
  rw [hS] at hl2
  subst hl2
  refine Tp.run [5, 8] ?_
  refine call_intro (ints_ct2 l hl) ⟨rfl, trivial⟩ (.inr rfl) ?_
  refine Tp.run [] ?_
  refine Exists.intro [] (And.intro rfl (And.intro ?_ ?_))
  ·repeat' (first | refine And.intro ?_ ?_ | exact rfl | exact trivial | exact Exists.intro _ rfl | fail)
  ·repeat' (first | refine And.intro ?_ ?_ | exact rfl | exact trivial | exact Exists.intro _ rfl | fail)
 refine Tp.run [] ?_
 refine cond_split (fun hz4 => ?_) (fun hz4 => ?_)
 ·have hl2 : setM s z p l = { s with exile := l } := by unfold setM; rw [if_neg (by rw [hz0]; decide), if_pos hz4]
  rw [hS] at hl2
  subst hl2
  refine Tp.run [5, 8] ?_
  refine call_intro (ints_ct2 l hl) ⟨rfl, trivial⟩ (.inr rfl) ?_
  refine Tp.run [] ?_
  refine Exists.intro [] (And.intro rfl (And.intro ?_ ?_))
  ·repeat' (first | refine And.intro ?_ ?_ | exact rfl | exact trivial | exact Exists.intro _ rfl | fail)
  ·repeat' (first | refine And.intro ?_ ?_ | exact rfl | exact trivial | exact Exists.intro _ rfl | fail)
 refine Tp.run [10, 11] ?_
 have hl0 : setM s z p l = if p < 0 ∨ (s.players.length : Int) ≤ p then s else match s.players[p.toNat]? with
  | some q => { s with players := s.players.set p.toNat (setP q z l) }
  | none => s := by unfold setM; rw [if_neg (by rw [hz0]; decide), if_neg (by rw [hz4]; decide)] <;> rfl
 refine cond_split (fun hp0 => ?_) (fun hp0 => ?_)
 ·rw [if_pos (.inl (of_decide_eq_true hp0)), hS] at hl0
  subst hl0
  refine Tp.run [] ?_
  refine Exists.intro [] (And.intro rfl (And.intro ?_ ?_))
  ·repeat' (first | refine And.intro ?_ ?_ | exact rfl | exact trivial | exact Exists.intro _ rfl | fail)
  ·repeat' (first | refine And.intro ?_ ?_ | exact rfl | exact trivial | exact Exists.intro _ rfl | fail)
 refine cond_split (fun hp1 => ?_) (fun hp1 => ?_)
 ·have hp1 := of_decide_eq_true hp1
  rw [List.length_map] at hp1
  rw [if_pos (.inr hp1), hS] at hl0
  subst hl0
  refine Tp.run [] ?_
  refine Exists.intro [] (And.intro rfl (And.intro ?_ ?_))
  ·repeat' (first | refine And.intro ?_ ?_ | exact rfl | exact trivial | exact Exists.intro _ rfl | fail)
  ·repeat' (first | refine And.intro ?_ ?_ | exact rfl | exact trivial | exact Exists.intro _ rfl | fail)
 have hp0 := of_decide_eq_false hp0
 have hp1 := of_decide_eq_false hp1
 rw [List.length_map] at hp1
 obtain ⟨k, rfl⟩ : ∃ k : Nat, p = k := ⟨p.toNat, by omega⟩
 have hk : k < s.players.length := by omega
 rw [if_neg (by omega), Int.toNat_natCast, List.getElem?_eq_getElem hk, hS] at hl0
 change S = { s with players := s.players.set k (setP s.players[k] z l) } at hl0
 refine Tp.run [13, 14] ?_
 refine cond_split (fun hz1 => ?_) (fun hz1 => ?_)
 ·have hq : setP s.players[k] z l = { s.players[k] with hand := l } := by unfold setP; rw [if_pos hz1]
  rw [hq] at hl0
  subst hl0
  refine Tp.run [18] ?_
  refine call_intro (ints_ct2 l hl) ⟨rfl, trivial⟩ (.inr rfl) ?_
  refine Exists.intro k (And.intro rfl (And.intro (by rw [List.length_map]; exact hk) ?_))
  refine Exists.intro (s.players[k].enc) (And.intro (map_get _ _ k hk) (And.intro (Nat.le_of_ble_eq_true rfl) ?_))
  refine Tp.run [] ?_
  refine Exists.intro [] (And.intro rfl (And.intro ?_ ?_))
  ·repeat' (first | refine And.intro ?_ ?_ | exact rfl | exact trivial | exact Exists.intro _ rfl | fail)
  ·repeat' (first | refine And.intro ?_ ?_ | exact rfl | exact trivial | exact Exists.intro _ rfl | fail)
   exact congrArg (Tr.sl 14) (set_map s.players GPlayer.enc k { s.players[k] with hand := l }).symm
 refine Tp.run [] ?_
 refine cond_split (fun hz2 => ?_) (fun hz2 => ?_)
 ·have hq : setP s.players[k] z l = { s.players[k] with library := l } := by unfold setP; rw [if_neg (by rw [hz1]; decide), if_pos hz2]
  rw [hq] at hl0
  subst hl0
  refine Tp.run [18] ?_
  refine call_intro (ints_ct2 l hl) ⟨rfl, trivial⟩ (.inr rfl) ?_
  refine Exists.intro k (And.intro rfl (And.intro (by rw [List.length_map]; exact hk) ?_))
  refine Exists.intro (s.players[k].enc) (And.intro (map_get _ _ k hk) (And.intro (Nat.le_of_ble_eq_true rfl) ?_))
  refine Tp.run [] ?_
  refine Exists.intro [] (And.intro rfl (And.intro ?_ ?_))
  ·repeat' (first | refine And.intro ?_ ?_ | exact rfl | exact trivial | exact Exists.intro _ rfl | fail)
  ·repeat' (first | refine And.intro ?_ ?_ | exact rfl | exact trivial | exact Exists.intro _ rfl | fail)
   exact congrArg (Tr.sl 14) (set_map s.players GPlayer.enc k { s.players[k] with library := l }).symm
 refine Tp.run [] ?_
 refine cond_split (fun hz3 => ?_) (fun hz3 => ?_)
 ·have hq : setP s.players[k] z l = { s.players[k] with graveyard := l } := by unfold setP; rw [if_neg (by rw [hz1]; decide), if_neg (by rw [hz2]; decide), if_pos hz3]
  rw [hq] at hl0
  subst hl0
  refine Tp.run [18] ?_
  refine call_intro (ints_ct2 l hl) ⟨rfl, trivial⟩ (.inr rfl) ?_
  refine Exists.intro k (And.intro rfl (And.intro (by rw [List.length_map]; exact hk) ?_))
  refine Exists.intro (s.players[k].enc) (And.intro (map_get _ _ k hk) (And.intro (Nat.le_of_ble_eq_true rfl) ?_))
  refine Tp.run [] ?_
  refine Exists.intro [] (And.intro rfl (And.intro ?_ ?_))
  ·repeat' (first | refine And.intro ?_ ?_ | exact rfl | exact trivial | exact Exists.intro _ rfl | fail)
  ·repeat' (first | refine And.intro ?_ ?_ | exact rfl | exact trivial | exact Exists.intro _ rfl | fail)
   exact congrArg (Tr.sl 14) (set_map s.players GPlayer.enc k { s.players[k] with graveyard := l }).symm
 have hq : setP s.players[k] z l = s.players[k] := by unfold setP; rw [if_neg (by rw [hz1]; decide), if_neg (by rw [hz2]; decide), if_neg (by rw [hz3]; decide)]
 rw [hq, List.set_getElem_self] at hl0
 subst hl0
 refine Tp.run [] ?_
 refine Exists.intro [] (And.intro rfl (And.intro ?_ ?_))
 ·repeat' (first | refine And.intro ?_ ?_ | exact rfl | exact trivial | exact Exists.intro _ rfl | fail)
 ·repeat' (first | refine And.intro ?_ ?_ | exact rfl | exact trivial | exact Exists.intro _ rfl | fail)
end Go.Proofs.Ytiebjkbofoppaaa
end
section
namespace Go.Proofs.Ytiebjkbofoppaaa
open Go Cg Go.RowKit
set_option maxRecDepth 100000 in
theorem new_ct (id card player z stamp : Int) : Ct Try.prog 48 [.c (.t (iv id)), .c (.t (iv card)), .c (.t (iv player)), .c (.t (iv z)), .c (.t (iv stamp))] (.agg ((newM id card player z stamp).enc.map .t)) [] false := by
 refine ct_of Try.func48 rfl (enters_of Try.func48 (by kernel_rfl) rfl) tabOk (by kernel_rfl) rfl rfl rfl rfl fun w0 O => Tp.run [] ?_
 refine Exists.intro [] (And.intro rfl (And.intro ?_ ?_))
 ·repeat' (first | refine And.intro ?_ ?_ | exact rfl | exact trivial | exact Exists.intro _ rfl | fail)
 ·repeat' (first | refine And.intro ?_ ?_ | exact rfl | exact trivial | exact Exists.intro _ rfl | fail)
def movedM (x : GObject) (id z p stamp : Int) : GObject := { newM id x.card x.owner z stamp with token := x.token, control := if z == 0 || z == 5 then p else x.owner, sick := z == 0 }
set_option maxRecDepth 100000 in
theorem moved_ct (x : GObject) (id z p stamp : Int) : Ct Try.prog 42 [.agg (x.enc.map .t), .c (.t (iv id)), .c (.t (iv z)), .c (.t (iv p)), .c (.t (iv stamp))] (.agg ((movedM x id z p stamp).enc.map .t)) [] false := by
 generalize hM : movedM x id z p stamp = M
 refine ct_of Try.func42 rfl (enters_of Try.func42 (by kernel_rfl) rfl) tabOk (by kernel_rfl) rfl rfl rfl rfl fun w0 O => Tp.run [4,5] ?_
 refine call_intro (new_ct id x.card x.owner z stamp) ⟨rfl, rfl, rfl, rfl, rfl, trivial⟩ (.inr rfl) ?_
 refine cond_split (fun h0 => ?_) (fun h0 => ?_)
 ·have hM2 : M = { newM id x.card x.owner z stamp with token := x.token, control := p, sick := z == 0 } := by rw [← hM]; unfold movedM; rw [if_pos (by rw [show (z == 0) = true from h0]; rfl)]
  subst hM2
  refine Tp.run [5] ?_
  refine Tp.run [] ?_
  refine Exists.intro [] (And.intro rfl (And.intro ?_ ?_))
  ·repeat' (first | refine And.intro ?_ ?_ | exact rfl | exact trivial | exact Exists.intro _ rfl | fail)
  ·repeat' (first | refine And.intro ?_ ?_ | exact rfl | exact trivial | exact Exists.intro _ rfl | fail)
 refine cond_split (fun h5 => ?_) (fun h5 => ?_)
 ·have hM2 : M = { newM id x.card x.owner z stamp with token := x.token, control := p, sick := z == 0 } := by rw [← hM]; unfold movedM; rw [if_pos (by rw [show (z == 5) = true from h5, Bool.or_true])]
  subst hM2
  refine Tp.run [5] ?_
  refine Tp.run [] ?_
  refine Exists.intro [] (And.intro rfl (And.intro ?_ ?_))
  ·repeat' (first | refine And.intro ?_ ?_ | exact rfl | exact trivial | exact Exists.intro _ rfl | fail)
  ·repeat' (first | refine And.intro ?_ ?_ | exact rfl | exact trivial | exact Exists.intro _ rfl | fail)
 have hM2 : M = { newM id x.card x.owner z stamp with token := x.token, control := x.owner, sick := z == 0 } := by rw [← hM]; unfold movedM; rw [if_neg (by rw [show (z == 5) = false from h5, show (z == 0) = false from h0]; decide)]
 subst hM2
 refine Tp.run [] ?_
 refine Exists.intro [] (And.intro rfl (And.intro ?_ ?_))
 ·repeat' (first | refine And.intro ?_ ?_ | exact rfl | exact trivial | exact Exists.intro _ rfl | fail)
 ·repeat' (first | refine And.intro ?_ ?_ | exact rfl | exact trivial | exact Exists.intro _ rfl | fail)
end Go.Proofs.Ytiebjkbofoppaaa
end
section
namespace Go.Proofs.Ytiebjkbofoppaaa
open Go Cg Go.RowKit
theorem nil_ok : ([] : List Int).length * 8 ≤ limB := by decide
theorem listM_le {s : GState} (h : s.ok) (z p : Int) : (listM s z p).length * 8 ≤ limB := by
 unfold listM
 split
 ·exact h.2.2.2.2.1
 split
 ·exact h.2.2.2.2.2.1
 split
 ·exact nil_ok
 split
 ·rename_i q hq
  have := plr_ok h (List.mem_of_getElem? hq)
  split
  ·exact this.1
  split
  ·exact this.2.1
  split
  ·exact this.2.2
  ·exact nil_ok
 ·exact nil_ok
theorem setM_objects (s : GState) (z p : Int) (l : List Int) : (setM s z p l).objects = s.objects := by
 unfold setM
 split
 ·rfl
 split
 ·rfl
 split
 ·rfl
 split <;> rfl
theorem setM_stack (s : GState) (z p : Int) (l : List Int) : (setM s z p l).stack = s.stack := by
 unfold setM
 split
 ·rfl
 split
 ·rfl
 split
 ·rfl
 split <;> rfl
theorem setP_ok {q : GPlayer} (h : q.ok) (z : Int) {l : List Int} (hl : l.length * 8 ≤ limB) : (setP q z l).ok := by
 unfold setP
 split
 ·exact ⟨h.1, hl, h.2.2⟩
 split
 ·exact ⟨hl, h.2.1, h.2.2⟩
 split
 ·exact ⟨h.1, h.2.1, hl⟩
 ·exact h
theorem setM_ok {s : GState} (h : s.ok) (z p : Int) {l : List Int} (hl : l.length * 8 ≤ limB) : (setM s z p l).ok := by
 obtain ⟨h1, h2, h3, h4, h5, h6, h7⟩ := h
 unfold setM
 split
 ·exact ⟨h1, h2, h3, h4, hl, h6, h7⟩
 split
 ·exact ⟨h1, h2, h3, h4, h5, hl, h7⟩
 split
 ·exact ⟨h1, h2, h3, h4, h5, h6, h7⟩
 split
 ·rename_i q hq
  refine ⟨by rw [List.length_set]; exact h1, fun y hy => ?_, h3, h4, h5, h6, h7⟩
  rcases List.mem_or_eq_of_mem_set hy with hy | rfl
  ·exact h2 y hy
  ·exact setP_ok (h2 q (List.mem_of_getElem? hq)) z hl
 ·exact ⟨h1, h2, h3, h4, h5, h6, h7⟩
def keepM (id : Int) (x : GItem) : Bool := x.kind != 1 || x.id != id
/-- The object at place i goes: out of its list, of the objects, of the stack. -/
def remM (s : GState) (id : Int) (i : Nat) (o : GObject) : GState := { setM s o.zone o.owner ((listM s o.zone o.owner).filter fun i => i != id) with objects := s.objects.take i ++ s.objects.drop (i + 1), stack := s.stack.filter (keepM id) }
set_option maxRecDepth 100000 in
set_option maxHeartbeats 4000000 in
theorem removed_ct (s : GState) (id : Int) (i : Nat) (h : s.ok) (hi : i < s.objects.length) (hp : placeM s.objects id = i) : Ct Try.prog 41 [.agg (s.enc.map .t), .c (.t (iv id))] (.agg ((remM s id i s.objects[i]).enc.map .t)) [] false := by
 have ho : s.objects.length * 128 ≤ limB := h.2.2.1
 have hst : s.stack.length * 824 ≤ limB := h.2.2.2.2.2.2.1
 have hpl := place_ct s id ho
 rw [hp] at hpl
 unfold remM
 have hlw : ((listM s s.objects[i].zone s.objects[i].owner).filter fun i => i != id).length * 8 ≤ limB := Nat.le_trans (Nat.mul_le_mul_right _ (List.length_filter_le _ _)) (listM_le h _ _)
 have hset := set_ct s s.objects[i].zone s.objects[i].owner ((listM s s.objects[i].zone s.objects[i].owner).filter fun i => i != id) h (Nat.lt_of_le_of_lt hlw (by decide))
 have hSo := setM_objects s s.objects[i].zone s.objects[i].owner ((listM s s.objects[i].zone s.objects[i].owner).filter fun i => i != id)
 have hSs := setM_stack s s.objects[i].zone s.objects[i].owner ((listM s s.objects[i].zone s.objects[i].owner).filter fun i => i != id)
 generalize setM s s.objects[i].zone s.objects[i].owner ((listM s s.objects[i].zone s.objects[i].owner).filter fun i => i != id) = S at hset hSo hSs
 have hb : ∀ n, n ≤ s.objects.length + 1 → n * 128 ≤ 140737488355328 ∧ n < 140737488355328 := fun n hn => by unfold limB at ho; omega
 refine ct_of Try.func41 rfl (enters_of Try.func41 (by kernel_rfl) rfl) tabOk (by kernel_rfl) rfl rfl rfl rfl fun w0 O => Tp.run [3,4,5,6,11,9,12,13] ?_
 refine call_intro hpl ⟨fitL_refl s.enc, rfl, trivial⟩ (.inr rfl) ?_
 refine Exists.intro i (Exists.intro (s.objects[i].enc) (And.intro rfl (And.intro (map_get _ _ i hi) ?_)))
 refine Tp.run [4] ?_
 refine call_intro (list_ct s s.objects[i].zone s.objects[i].owner h) ⟨fitL_refl s.enc, rfl, rfl, trivial⟩ (.inr rfl) ?_
 refine call_intro (without_ct _ id (listM_le h _ _)) ⟨rfl, rfl, trivial⟩ (.inr rfl) ?_
 refine call_intro hset ⟨fitL_refl s.enc, rfl, rfl, rfl, trivial⟩ (.inr rfl) ?_
 refine Tp.run [5] ?_
 refine Exists.intro 0 (Exists.intro i (And.intro rfl (And.intro rfl (And.intro (Nat.zero_le _) (And.intro ?_ ?_)))))
 ·rw [List.length_map, hSo]; exact Nat.le_of_lt hi
 refine And.intro (.inl rfl) (And.intro (hb _ (by simp only [List.length_map, List.length_take, List.length_drop, List.length_append, List.length_nil, List.length_cons, hSo]; omega)).1 (And.intro (hb _ (by simp only [List.length_map, List.length_take, List.length_drop, List.length_append, List.length_nil, List.length_cons, hSo]; omega)).2 ?_))
 refine Tp.run [6] ?_
 refine Exists.intro (i + 1) (Exists.intro S.objects.length (And.intro (wrap_succ i (by unfold limB at ho; omega)) (And.intro ?_ (And.intro ?_ (And.intro ?_ ?_)))))
 ·exact (List.length_map _).symm
 ·rw [hSo]; exact hi
 ·rw [List.length_map]; exact Nat.le_refl _
 refine And.intro (.inl rfl) (And.intro (hb _ (by simp only [List.length_map, List.length_take, List.length_drop, List.length_append, List.length_nil, List.length_cons, hSo]; omega)).1 (And.intro (hb _ (by simp only [List.length_map, List.length_take, List.length_drop, List.length_append, List.length_nil, List.length_cons, hSo]; omega)).2 ?_))
 refine Tp.run [] ?_
 have hst2 : S.stack.length * 824 ≤ limB := by rw [hSs]; exact hst
 refine Tp.loop (fun k : Nat => ⟨[(1, .c (.t (iv id))), (4, .ptr 128 0), (7, .ptr 3456 0), (9, .c (.row 9000 0)), (10, AV.i k)], [(128, List.replicate 19 .bot), (3456, ({ S with objects := s.objects.take i ++ s.objects.drop (i + 1) } : GState).enc.map .t)], [(9000, ⟨83, 94, 0, ((S.stack.take k).filter (keepM id)).map GItem.enc⟩)], 10000⟩) (fun k => k ≤ S.stack.length) (fun k => S.stack.length - k) 0 ?_ (Nat.zero_le _) ?_
 ·refine wk_of [] rfl rfl ?_ ?_ ?_
  ·repeat' (first | refine And.intro ?_ ?_ | exact rfl | exact trivial | exact Exists.intro _ rfl | fail)
  ·repeat' (first | refine And.intro ?_ ?_ | exact rfl | exact trivial | exact Exists.intro _ rfl | fail)
   rw [hSo]
   simp only [List.map_append, List.map_take, List.map_drop, List.drop_zero, List.nil_append]
   rw [List.take_of_length_le (l := s.objects.map GObject.enc) (i := s.objects.length) (by rw [List.length_map]; exact Nat.le_refl _)]
  ·repeat' (first | refine And.intro ?_ ?_ | exact rfl | exact trivial | exact Exists.intro _ rfl | fail)
 rintro k hk
 have hfl : ((S.stack.take k).filter (keepM id)).length ≤ k := Nat.le_trans (List.length_filter_le _ _) (by rw [List.length_take]; omega)
 refine Tp.run [10, 11, 9] ?_
 refine cond_split (fun h => ?_) (fun h => ?_)
 ·have hlt : k < S.stack.length := len_lt h
  have hts : S.stack.take (k + 1) = S.stack.take k ++ [S.stack[k]] := by rw [List.take_add_one, List.getElem?_eq_getElem hlt]; rfl
  refine Tp.run [] ?_
  refine Exists.intro k (Exists.intro (S.stack[k].enc) (And.intro rfl (And.intro (map_get _ _ k hlt) ?_)))
  refine cond_split (fun h1 => ?_) (fun h1 => ?_)
  ·have hkeep : keepM id S.stack[k] = true := by unfold keepM; rw [show (S.stack[k].kind != 1) = true from h1, Bool.true_or]
   refine Tp.run [] ?_
   refine Exists.intro k (Exists.intro (S.stack[k].enc) (And.intro rfl (And.intro (map_get _ _ k hlt) ?_)))
   have hbb : (((S.stack.take k).filter (keepM id)).map GItem.enc).length + [S.stack[k].enc].length ≤ S.stack.length + 1 := by
    rw [List.length_map, List.length_cons, List.length_nil]
    omega
   refine And.intro (.inl rfl) (And.intro (app_bnd hbb (Nat.le_of_lt (one_more (by decide) hst2))) (And.intro (app_bnd2 hbb (by decide) (one_more (by decide) hst2)) ?_))
   refine Tp.run [] ?_
   refine Exists.intro (k + 1) (And.intro (show k + 1 ≤ _ by omega) (And.intro (show S.stack.length - (k + 1) < S.stack.length - k by omega) ?_))
   refine wk_of [(9000, 9000)] rfl rfl ?_ ?_ ?_
   ·repeat' (first | refine And.intro ?_ ?_ | exact rfl | exact trivial | exact Exists.intro _ rfl | fail)
    exact succ_eq k hlt 824 (by decide) hst2
   ·repeat' (first | refine And.intro ?_ ?_ | exact rfl | exact trivial | exact Exists.intro _ rfl | fail)
   ·repeat' (first | refine And.intro ?_ ?_ | exact rfl | exact trivial | exact Exists.intro _ rfl | fail)
    rw [hts, List.filter_append, List.map_append]
    simp only [List.filter_cons, hkeep, List.filter_nil, List.map_cons, List.map_nil]
    rfl
  refine Exists.intro k (Exists.intro (S.stack[k].enc) (And.intro rfl (And.intro (map_get _ _ k hlt) ?_)))
  refine cond_split (fun h2 => ?_) (fun h2 => ?_)
  ·have hkeep : keepM id S.stack[k] = true := by unfold keepM; rw [show (S.stack[k].id != id) = true from h2, Bool.or_true]
   refine Tp.run [] ?_
   refine Exists.intro k (Exists.intro (S.stack[k].enc) (And.intro rfl (And.intro (map_get _ _ k hlt) ?_)))
   have hbb : (((S.stack.take k).filter (keepM id)).map GItem.enc).length + [S.stack[k].enc].length ≤ S.stack.length + 1 := by
    rw [List.length_map, List.length_cons, List.length_nil]
    omega
   refine And.intro (.inl rfl) (And.intro (app_bnd hbb (Nat.le_of_lt (one_more (by decide) hst2))) (And.intro (app_bnd2 hbb (by decide) (one_more (by decide) hst2)) ?_))
   refine Tp.run [] ?_
   refine Exists.intro (k + 1) (And.intro (show k + 1 ≤ _ by omega) (And.intro (show S.stack.length - (k + 1) < S.stack.length - k by omega) ?_))
   refine wk_of [(9000, 9000)] rfl rfl ?_ ?_ ?_
   ·repeat' (first | refine And.intro ?_ ?_ | exact rfl | exact trivial | exact Exists.intro _ rfl | fail)
    exact succ_eq k hlt 824 (by decide) hst2
   ·repeat' (first | refine And.intro ?_ ?_ | exact rfl | exact trivial | exact Exists.intro _ rfl | fail)
   ·repeat' (first | refine And.intro ?_ ?_ | exact rfl | exact trivial | exact Exists.intro _ rfl | fail)
    rw [hts, List.filter_append, List.map_append]
    simp only [List.filter_cons, hkeep, List.filter_nil, List.map_cons, List.map_nil]
    rfl
  ·have hkeep : keepM id S.stack[k] = false := by unfold keepM; rw [show (S.stack[k].kind != 1) = false from h1, show (S.stack[k].id != id) = false from h2]; rfl
   refine Tp.run [] ?_
   refine Exists.intro (k + 1) (And.intro (show k + 1 ≤ _ by omega) (And.intro (show S.stack.length - (k + 1) < S.stack.length - k by omega) ?_))
   refine wk_of [(9000, 9000)] rfl rfl ?_ ?_ ?_
   ·repeat' (first | refine And.intro ?_ ?_ | exact rfl | exact trivial | exact Exists.intro _ rfl | fail)
    exact succ_eq k hlt 824 (by decide) hst2
   ·repeat' (first | refine And.intro ?_ ?_ | exact rfl | exact trivial | exact Exists.intro _ rfl | fail)
   ·repeat' (first | refine And.intro ?_ ?_ | exact rfl | exact trivial | exact Exists.intro _ rfl | fail)
    rw [hts, List.filter_append, List.map_append]
    simp only [List.filter_cons, hkeep, List.filter_nil, List.map_cons, List.map_nil]
    simp
 ·have hk2 : k = S.stack.length := len_ge h hk
  subst hk2
  refine Tp.run [] ?_
  refine Tp.run [] ?_
  refine Exists.intro [] (And.intro rfl (And.intro ?_ ?_))
  ·repeat' (first | refine And.intro ?_ ?_ | exact rfl | exact trivial | exact Exists.intro _ rfl | fail)
  ·repeat' (first | refine And.intro ?_ ?_ | exact rfl | exact trivial | exact Exists.intro _ rfl | fail)
   rw [List.take_length, hSs]
end Go.Proofs.Ytiebjkbofoppaaa
end
section
namespace Go.Proofs.Ytiebjkbofoppaaa
open Go Cg Go.RowKit
theorem remM_ok {s : GState} (h : s.ok) (id : Int) (i : Nat) (o : GObject) (hi : i < s.objects.length) : (remM s id i o).ok ∧ (remM s id i o).objects.length + 1 = s.objects.length := by
 have hl : (((listM s o.zone o.owner).filter fun i => i != id).length * 8 ≤ limB) := Nat.le_trans (Nat.mul_le_mul_right _ (List.length_filter_le _ _)) (listM_le h _ _)
 obtain ⟨h1, h2, _, _, h5, h6, _, _, h9⟩ := setM_ok h o.zone o.owner hl
 obtain ⟨_, _, g3, g4, _, _, g7, g8, _⟩ := h
 have hlen : (s.objects.take i ++ s.objects.drop (i + 1)).length + 1 = s.objects.length := by
  simp only [List.length_append, List.length_take, List.length_drop]
  omega
 refine ⟨⟨h1, h2, ?_, ?_, h5, h6, ?_, ?_, h9⟩, hlen⟩
 ·show (s.objects.take i ++ s.objects.drop (i + 1)).length * 128 ≤ limB
  omega
 ·intro y hy
  rcases List.mem_append.1 hy with hy | hy
  ·exact g4 y (List.mem_of_mem_take hy)
  ·exact g4 y (List.mem_of_mem_drop hy)
 ·exact Nat.le_trans (Nat.mul_le_mul_right _ (List.length_filter_le _ _)) g7
 ·intro y hy
  exact g8 y (List.mem_filter.1 hy).1
theorem putL_len (l : List GObject) (o : GObject) : (putL l o).length ≤ l.length + 1 := by
 unfold putL
 split
 ·rw [List.length_set]
  omega
 ·unfold insM
  simp only [List.length_append, List.length_take, List.length_drop, List.length_cons, List.length_nil]
  omega
theorem putL_mem {l : List GObject} {o y : GObject} (h : y ∈ putL l o) : y ∈ l ∨ y = o := by
 unfold putL at h
 split at h
 ·exact List.mem_or_eq_of_mem_set h
 ·unfold insM at h
  rcases List.mem_append.1 h with h | h
  ·rcases List.mem_append.1 h with h | h
   ·exact .inl (List.mem_of_mem_take h)
   ·exact .inr (by simpa using h)
  ·exact .inl (List.mem_of_mem_drop h)
theorem obj_ok (o : GObject) : o.ok := by
 unfold GObject.ok
 exact trivial
theorem putM_ok {s : GState} (h : s.ok) (o : GObject) (hn : (s.objects.length + 1) * 128 ≤ limB) : (putM s o).ok := by
 obtain ⟨h1, h2, _, h4, h5⟩ := h
 refine ⟨h1, h2, ?_, fun y hy => obj_ok y, h5⟩
 exact Nat.le_trans (Nat.mul_le_mul_right _ (putL_len _ _)) hn
def mvFin (V : GState) : GState := { V with nextId := IntKind.i64.wrap (V.nextId + 1), nextStamp := IntKind.i64.wrap (V.nextStamp + 1) }
def mvEnd (Q : GState) (x : GObject) (z : Int) (bottom : Bool) : GState :=
 mvFin (setM Q z x.owner (if (z == 2 && !bottom) = true then x.id :: listM Q z x.owner else listM Q z x.owner ++ [x.id]))
def mvNew (R : GState) (o : GObject) (z p : Int) : GObject := movedM o R.nextId z p R.nextStamp
def mvFound (s : GState) (id z p : Int) (bottom : Bool) (i : Nat) (o : GObject) : GState × Int :=
 if z < 0 ∨ 5 < z then (s, 0) else
 if o.token = true ∧ (z != 0) = true ∧ (z != 5) = true then (remM s id i o, 0) else
 (mvEnd (putM (remM s id i o) (mvNew (remM s id i o) o z p)) (mvNew (remM s id i o) o z p) z bottom, (mvNew (remM s id i o) o z p).id)
def moveM (s : GState) (id z p : Int) (bottom : Bool) : GState × Int := match s.objects.findIdx? fun o => o.id == id with
 | none => (s, 0)
 | some i => match s.objects[i]? with
  | some o => mvFound s id z p bottom i o
  | none => (s, 0)
theorem setM_next (s : GState) (z p : Int) (l : List Int) : (setM s z p l).nextId = s.nextId ∧ (setM s z p l).nextStamp = s.nextStamp := by
 unfold setM
 split
 ·exact ⟨rfl, rfl⟩
 split
 ·exact ⟨rfl, rfl⟩
 split
 ·exact ⟨rfl, rfl⟩
 split <;> exact ⟨rfl, rfl⟩
set_option maxRecDepth 100000 in
theorem move_none (s : GState) (id z p : Int) (bottom : Bool) (h : s.ok) (e : s.objects.find? (fun o => o.id == id) = none) : Ct Try.prog 16 [.agg (s.enc.map .t), .c (.t (iv id)), .c (.t (iv z)), .c (.t (iv p)), AV.b bottom] (.tup [.agg (s.enc.map .t), AV.i 0]) [] false := by
 have hf := find_ct s id h.2.2.1
 unfold findM hasM at hf
 rw [e] at hf
 refine ct_of Try.func16 rfl (enters_of Try.func16 (by kernel_rfl) rfl) tabOk (by kernel_rfl) rfl rfl rfl rfl fun w0 O => Tp.run [3] ?_
 refine call_intro hf ⟨fitL_refl s.enc, rfl, trivial⟩ (.inr rfl) ?_
 refine Tp.run [] ?_
 refine call_intro (copy_ct s h) ⟨fitL_refl s.enc, trivial⟩ (.inr rfl) ?_
 refine Exists.intro [] (And.intro rfl (And.intro ?_ ?_))
 ·repeat' (first | refine And.intro ?_ ?_ | exact rfl | exact trivial | exact Exists.intro _ rfl | fail)
 ·repeat' (first | refine And.intro ?_ ?_ | exact rfl | exact trivial | exact Exists.intro _ rfl | fail)
set_option maxRecDepth 100000 in
set_option maxHeartbeats 4000000 in
theorem move_found (s : GState) (id z p : Int) (bottom : Bool) (i : Nat) (h : s.ok) (hi : i < s.objects.length) (hp : placeM s.objects id = i) (e : s.objects.find? (fun o => o.id == id) = some s.objects[i]) : Ct Try.prog 16 [.agg (s.enc.map .t), .c (.t (iv id)), .c (.t (iv z)), .c (.t (iv p)), AV.b bottom] (.tup [.agg ((mvFound s id z p bottom i s.objects[i]).1.enc.map .t), .c (.t (iv (mvFound s id z p bottom i s.objects[i]).2))]) [] false := by
 have hf := find_ct s id h.2.2.1
 unfold findM hasM at hf
 rw [e] at hf
 have hr := removed_ct s id i h hi hp
 obtain ⟨hR, hRn⟩ := remM_ok h id i s.objects[i] hi
 generalize hM : mvFound s id z p bottom i s.objects[i] = M
 unfold mvFound at hM
 generalize remM s id i s.objects[i] = R at hr hR hRn hM
 generalize s.objects[i] = o at hf hr hM
 have hv := moved_ct o R.nextId z p R.nextStamp
 change Ct _ _ _ (.agg ((mvNew R o z p).enc.map .t)) _ _ at hv
 generalize mvNew R o z p = x at hv hM
 have hq : Ct Try.prog 23 [.agg (R.enc.map .t), .agg (x.enc.map .t)] (.agg (((putM R x).enc.map .t).set 2 (.row 0 0))) [⟨3, 1, 0, (putM R x).battlefield.map encI⟩] false := put_ct R x hR
 have hQ := putM_ok hR x (by rw [hRn]; exact h.2.2.1)
 generalize putM R x = Q at hq hQ hM
 have hll := listM_le hQ z x.owner
 have hl := list_row Q z x.owner hQ
 have hs1 := set_ct Q z x.owner (x.id :: listM Q z x.owner) hQ (by rw [List.length_cons]; exact one_more (by decide) hll)
 have hs2 := set_ct Q z x.owner (listM Q z x.owner ++ [x.id]) hQ (by rw [List.length_append]; exact one_more (by decide) hll)
 unfold mvEnd at hM
 refine ct_of Try.func16 rfl (enters_of Try.func16 (by kernel_rfl) rfl) tabOk (by kernel_rfl) rfl rfl rfl rfl fun w0 O => Tp.run [3,4,6,7,9,10,11,12,13,14] ?_
 refine call_intro hf ⟨fitL_refl s.enc, rfl, trivial⟩ (.inr rfl) ?_
 refine cond_split (fun hz0 => ?_) (fun hz0 => ?_)
 ·rw [if_pos (.inl (of_decide_eq_true hz0))] at hM
  subst hM
  refine Tp.run [] ?_
  refine call_intro (copy_ct s h) ⟨fitL_refl s.enc, trivial⟩ (.inr rfl) ?_
  refine Exists.intro [] (And.intro rfl (And.intro ?_ ?_))
  ·repeat' (first | refine And.intro ?_ ?_ | exact rfl | exact trivial | exact Exists.intro _ rfl | fail)
  ·repeat' (first | refine And.intro ?_ ?_ | exact rfl | exact trivial | exact Exists.intro _ rfl | fail)
 refine cond_split (fun hz5 => ?_) (fun hz5 => ?_)
 ·rw [if_pos (.inr (of_decide_eq_true hz5))] at hM
  subst hM
  refine Tp.run [] ?_
  refine call_intro (copy_ct s h) ⟨fitL_refl s.enc, trivial⟩ (.inr rfl) ?_
  refine Exists.intro [] (And.intro rfl (And.intro ?_ ?_))
  ·repeat' (first | refine And.intro ?_ ?_ | exact rfl | exact trivial | exact Exists.intro _ rfl | fail)
  ·repeat' (first | refine And.intro ?_ ?_ | exact rfl | exact trivial | exact Exists.intro _ rfl | fail)
 rw [if_neg (fun hx => hx.elim (of_decide_eq_false hz0) (of_decide_eq_false hz5))] at hM
 refine Tp.run [] ?_
 refine call_intro hr ⟨fitL_refl s.enc, rfl, trivial⟩ (.inr rfl) ?_
 refine cond_split (fun ht => ?_) (fun ht => ?_)
 ·refine cond_split (fun h1 => ?_) (fun h1 => ?_)
  ·refine cond_split (fun h2 => ?_) (fun h2 => ?_)
   ·rw [if_pos ⟨ht, h1, h2⟩] at hM
    subst hM
    refine Tp.run [] ?_
    refine Exists.intro [] (And.intro rfl (And.intro ?_ ?_))
    ·repeat' (first | refine And.intro ?_ ?_ | exact rfl | exact trivial | exact Exists.intro _ rfl | fail)
    ·repeat' (first | refine And.intro ?_ ?_ | exact rfl | exact trivial | exact Exists.intro _ rfl | fail)
   ·rw [if_neg (fun hx => by rw [show (z != 5) = false from h2] at hx; exact absurd hx.2.2 (by decide))] at hM
    refine Tp.run [] ?_
    refine call_intro hv ⟨fitL_refl o.enc, rfl, rfl, rfl, rfl, trivial⟩ (.inr rfl) ?_
    refine call_intro hq ⟨fitL_refl R.enc, fitL_refl x.enc, trivial⟩ (.inr rfl) ?_
    refine Tp.frz [] (Tp.run [] ?_)
    refine call_intro hl ⟨?_, rfl, rfl, trivial⟩ (.inr rfl) ?_
    ·repeat' (first | refine And.intro ?_ ?_ | exact rfl | exact trivial | exact Exists.intro _ rfl | fail)
    refine Tp.run [] ?_
    refine cond_split (fun w2 => ?_) (fun w2 => ?_)
    ·refine cond_split (fun wb => ?_) (fun wb => ?_)
     ·rw [if_pos (show (z == 2 && !bottom) = true by rw [show (z == 2) = true from w2, show (!bottom) = true from wb]; rfl)] at hM
      refine Tp.run [] ?_
      refine And.intro (.inl rfl) (And.intro ?_ (And.intro ?_ ?_))
      ·show (1 + ((listM Q z x.owner).map encI).length) * 8 ≤ _
       rw [List.length_map, Nat.add_comm]
       exact Nat.le_of_lt (one_more (by decide) hll)
      ·show 1 + ((listM Q z x.owner).map encI).length < _
       rw [List.length_map, Nat.add_comm]
       have := one_more (n := (listM Q z x.owner).length) (b := 8) (by decide) hll
       omega
      generalize setM Q z x.owner _ = V at hs1 hM
      subst hM
      refine Tp.frz [] (Tp.run [] ?_)
      refine call_intro hs1 ⟨?_, rfl, rfl, ?_, trivial⟩ (.inr rfl) ?_
      ·repeat' (first | refine And.intro ?_ ?_ | exact rfl | exact trivial | exact Exists.intro _ rfl | fail)
      ·exact rfl
      refine Tp.run [] ?_
      refine Exists.intro [] (And.intro rfl (And.intro ?_ ?_))
      ·repeat' (first | refine And.intro ?_ ?_ | exact rfl | exact trivial | exact Exists.intro _ rfl | fail)
      ·repeat' (first | refine And.intro ?_ ?_ | exact rfl | exact trivial | exact Exists.intro _ rfl | fail)
     ·rw [if_neg (show ¬ (z == 2 && !bottom) = true by rw [show (z == 2) = true from w2, show (!bottom) = false from wb]; decide)] at hM
      refine Tp.run [] ?_
      refine And.intro (.inl rfl) (And.intro ?_ (And.intro ?_ ?_))
      ·show (((listM Q z x.owner).map encI).length + 1) * 8 ≤ _
       rw [List.length_map]
       exact Nat.le_of_lt (one_more (by decide) hll)
      ·show ((listM Q z x.owner).map encI).length + 1 < _
       rw [List.length_map]
       have := one_more (n := (listM Q z x.owner).length) (b := 8) (by decide) hll
       omega
      generalize setM Q z x.owner _ = V at hs2 hM
      subst hM
      refine Tp.frz [] (Tp.run [] ?_)
      refine call_intro hs2 ⟨?_, rfl, rfl, ?_, trivial⟩ (.inr rfl) ?_
      ·repeat' (first | refine And.intro ?_ ?_ | exact rfl | exact trivial | exact Exists.intro _ rfl | fail)
      ·exact congrArg (Tr.sl 1) (List.map_append (f := encI) (l₁ := listM Q z x.owner) (l₂ := [x.id])).symm
      refine Tp.run [] ?_
      refine Exists.intro [] (And.intro rfl (And.intro ?_ ?_))
      ·repeat' (first | refine And.intro ?_ ?_ | exact rfl | exact trivial | exact Exists.intro _ rfl | fail)
      ·repeat' (first | refine And.intro ?_ ?_ | exact rfl | exact trivial | exact Exists.intro _ rfl | fail)
    ·rw [if_neg (show ¬ (z == 2 && !bottom) = true by rw [show (z == 2) = false from w2, Bool.false_and]; decide)] at hM
     refine Tp.run [] ?_
     refine And.intro (.inl rfl) (And.intro ?_ (And.intro ?_ ?_))
     ·show (((listM Q z x.owner).map encI).length + 1) * 8 ≤ _
      rw [List.length_map]
      exact Nat.le_of_lt (one_more (by decide) hll)
     ·show ((listM Q z x.owner).map encI).length + 1 < _
      rw [List.length_map]
      have := one_more (n := (listM Q z x.owner).length) (b := 8) (by decide) hll
      omega
     generalize setM Q z x.owner _ = V at hs2 hM
     subst hM
     refine Tp.frz [] (Tp.run [] ?_)
     refine call_intro hs2 ⟨?_, rfl, rfl, ?_, trivial⟩ (.inr rfl) ?_
     ·repeat' (first | refine And.intro ?_ ?_ | exact rfl | exact trivial | exact Exists.intro _ rfl | fail)
     ·exact congrArg (Tr.sl 1) (List.map_append (f := encI) (l₁ := listM Q z x.owner) (l₂ := [x.id])).symm
     refine Tp.run [] ?_
     refine Exists.intro [] (And.intro rfl (And.intro ?_ ?_))
     ·repeat' (first | refine And.intro ?_ ?_ | exact rfl | exact trivial | exact Exists.intro _ rfl | fail)
     ·repeat' (first | refine And.intro ?_ ?_ | exact rfl | exact trivial | exact Exists.intro _ rfl | fail)
  ·rw [if_neg (fun hx => by rw [show (z != 0) = false from h1] at hx; exact absurd hx.2.1 (by decide))] at hM
   refine Tp.run [] ?_
   refine call_intro hv ⟨fitL_refl o.enc, rfl, rfl, rfl, rfl, trivial⟩ (.inr rfl) ?_
   refine call_intro hq ⟨fitL_refl R.enc, fitL_refl x.enc, trivial⟩ (.inr rfl) ?_
   refine Tp.frz [] (Tp.run [] ?_)
   refine call_intro hl ⟨?_, rfl, rfl, trivial⟩ (.inr rfl) ?_
   ·repeat' (first | refine And.intro ?_ ?_ | exact rfl | exact trivial | exact Exists.intro _ rfl | fail)
   refine Tp.run [] ?_
   refine cond_split (fun w2 => ?_) (fun w2 => ?_)
   ·refine cond_split (fun wb => ?_) (fun wb => ?_)
    ·rw [if_pos (show (z == 2 && !bottom) = true by rw [show (z == 2) = true from w2, show (!bottom) = true from wb]; rfl)] at hM
     refine Tp.run [] ?_
     refine And.intro (.inl rfl) (And.intro ?_ (And.intro ?_ ?_))
     ·show (1 + ((listM Q z x.owner).map encI).length) * 8 ≤ _
      rw [List.length_map, Nat.add_comm]
      exact Nat.le_of_lt (one_more (by decide) hll)
     ·show 1 + ((listM Q z x.owner).map encI).length < _
      rw [List.length_map, Nat.add_comm]
      have := one_more (n := (listM Q z x.owner).length) (b := 8) (by decide) hll
      omega
     generalize setM Q z x.owner _ = V at hs1 hM
     subst hM
     refine Tp.frz [] (Tp.run [] ?_)
     refine call_intro hs1 ⟨?_, rfl, rfl, ?_, trivial⟩ (.inr rfl) ?_
     ·repeat' (first | refine And.intro ?_ ?_ | exact rfl | exact trivial | exact Exists.intro _ rfl | fail)
     ·exact rfl
     refine Tp.run [] ?_
     refine Exists.intro [] (And.intro rfl (And.intro ?_ ?_))
     ·repeat' (first | refine And.intro ?_ ?_ | exact rfl | exact trivial | exact Exists.intro _ rfl | fail)
     ·repeat' (first | refine And.intro ?_ ?_ | exact rfl | exact trivial | exact Exists.intro _ rfl | fail)
    ·rw [if_neg (show ¬ (z == 2 && !bottom) = true by rw [show (z == 2) = true from w2, show (!bottom) = false from wb]; decide)] at hM
     refine Tp.run [] ?_
     refine And.intro (.inl rfl) (And.intro ?_ (And.intro ?_ ?_))
     ·show (((listM Q z x.owner).map encI).length + 1) * 8 ≤ _
      rw [List.length_map]
      exact Nat.le_of_lt (one_more (by decide) hll)
     ·show ((listM Q z x.owner).map encI).length + 1 < _
      rw [List.length_map]
      have := one_more (n := (listM Q z x.owner).length) (b := 8) (by decide) hll
      omega
     generalize setM Q z x.owner _ = V at hs2 hM
     subst hM
     refine Tp.frz [] (Tp.run [] ?_)
     refine call_intro hs2 ⟨?_, rfl, rfl, ?_, trivial⟩ (.inr rfl) ?_
     ·repeat' (first | refine And.intro ?_ ?_ | exact rfl | exact trivial | exact Exists.intro _ rfl | fail)
     ·exact congrArg (Tr.sl 1) (List.map_append (f := encI) (l₁ := listM Q z x.owner) (l₂ := [x.id])).symm
     refine Tp.run [] ?_
     refine Exists.intro [] (And.intro rfl (And.intro ?_ ?_))
     ·repeat' (first | refine And.intro ?_ ?_ | exact rfl | exact trivial | exact Exists.intro _ rfl | fail)
     ·repeat' (first | refine And.intro ?_ ?_ | exact rfl | exact trivial | exact Exists.intro _ rfl | fail)
   ·rw [if_neg (show ¬ (z == 2 && !bottom) = true by rw [show (z == 2) = false from w2, Bool.false_and]; decide)] at hM
    refine Tp.run [] ?_
    refine And.intro (.inl rfl) (And.intro ?_ (And.intro ?_ ?_))
    ·show (((listM Q z x.owner).map encI).length + 1) * 8 ≤ _
     rw [List.length_map]
     exact Nat.le_of_lt (one_more (by decide) hll)
    ·show ((listM Q z x.owner).map encI).length + 1 < _
     rw [List.length_map]
     have := one_more (n := (listM Q z x.owner).length) (b := 8) (by decide) hll
     omega
    generalize setM Q z x.owner _ = V at hs2 hM
    subst hM
    refine Tp.frz [] (Tp.run [] ?_)
    refine call_intro hs2 ⟨?_, rfl, rfl, ?_, trivial⟩ (.inr rfl) ?_
    ·repeat' (first | refine And.intro ?_ ?_ | exact rfl | exact trivial | exact Exists.intro _ rfl | fail)
    ·exact congrArg (Tr.sl 1) (List.map_append (f := encI) (l₁ := listM Q z x.owner) (l₂ := [x.id])).symm
    refine Tp.run [] ?_
    refine Exists.intro [] (And.intro rfl (And.intro ?_ ?_))
    ·repeat' (first | refine And.intro ?_ ?_ | exact rfl | exact trivial | exact Exists.intro _ rfl | fail)
    ·repeat' (first | refine And.intro ?_ ?_ | exact rfl | exact trivial | exact Exists.intro _ rfl | fail)
 ·rw [if_neg (fun hx => by rw [show o.token = false from ht] at hx; exact absurd hx.1 (by decide))] at hM
  refine Tp.run [] ?_
  refine call_intro hv ⟨fitL_refl o.enc, rfl, rfl, rfl, rfl, trivial⟩ (.inr rfl) ?_
  refine call_intro hq ⟨fitL_refl R.enc, fitL_refl x.enc, trivial⟩ (.inr rfl) ?_
  refine Tp.frz [] (Tp.run [] ?_)
  refine call_intro hl ⟨?_, rfl, rfl, trivial⟩ (.inr rfl) ?_
  ·repeat' (first | refine And.intro ?_ ?_ | exact rfl | exact trivial | exact Exists.intro _ rfl | fail)
  refine Tp.run [] ?_
  refine cond_split (fun w2 => ?_) (fun w2 => ?_)
  ·refine cond_split (fun wb => ?_) (fun wb => ?_)
   ·rw [if_pos (show (z == 2 && !bottom) = true by rw [show (z == 2) = true from w2, show (!bottom) = true from wb]; rfl)] at hM
    refine Tp.run [] ?_
    refine And.intro (.inl rfl) (And.intro ?_ (And.intro ?_ ?_))
    ·show (1 + ((listM Q z x.owner).map encI).length) * 8 ≤ _
     rw [List.length_map, Nat.add_comm]
     exact Nat.le_of_lt (one_more (by decide) hll)
    ·show 1 + ((listM Q z x.owner).map encI).length < _
     rw [List.length_map, Nat.add_comm]
     have := one_more (n := (listM Q z x.owner).length) (b := 8) (by decide) hll
     omega
    generalize setM Q z x.owner _ = V at hs1 hM
    subst hM
    refine Tp.frz [] (Tp.run [] ?_)
    refine call_intro hs1 ⟨?_, rfl, rfl, ?_, trivial⟩ (.inr rfl) ?_
    ·repeat' (first | refine And.intro ?_ ?_ | exact rfl | exact trivial | exact Exists.intro _ rfl | fail)
    ·exact rfl
    refine Tp.run [] ?_
    refine Exists.intro [] (And.intro rfl (And.intro ?_ ?_))
    ·repeat' (first | refine And.intro ?_ ?_ | exact rfl | exact trivial | exact Exists.intro _ rfl | fail)
    ·repeat' (first | refine And.intro ?_ ?_ | exact rfl | exact trivial | exact Exists.intro _ rfl | fail)
   ·rw [if_neg (show ¬ (z == 2 && !bottom) = true by rw [show (z == 2) = true from w2, show (!bottom) = false from wb]; decide)] at hM
    refine Tp.run [] ?_
    refine And.intro (.inl rfl) (And.intro ?_ (And.intro ?_ ?_))
    ·show (((listM Q z x.owner).map encI).length + 1) * 8 ≤ _
     rw [List.length_map]
     exact Nat.le_of_lt (one_more (by decide) hll)
    ·show ((listM Q z x.owner).map encI).length + 1 < _
     rw [List.length_map]
     have := one_more (n := (listM Q z x.owner).length) (b := 8) (by decide) hll
     omega
    generalize setM Q z x.owner _ = V at hs2 hM
    subst hM
    refine Tp.frz [] (Tp.run [] ?_)
    refine call_intro hs2 ⟨?_, rfl, rfl, ?_, trivial⟩ (.inr rfl) ?_
    ·repeat' (first | refine And.intro ?_ ?_ | exact rfl | exact trivial | exact Exists.intro _ rfl | fail)
    ·exact congrArg (Tr.sl 1) (List.map_append (f := encI) (l₁ := listM Q z x.owner) (l₂ := [x.id])).symm
    refine Tp.run [] ?_
    refine Exists.intro [] (And.intro rfl (And.intro ?_ ?_))
    ·repeat' (first | refine And.intro ?_ ?_ | exact rfl | exact trivial | exact Exists.intro _ rfl | fail)
    ·repeat' (first | refine And.intro ?_ ?_ | exact rfl | exact trivial | exact Exists.intro _ rfl | fail)
  ·rw [if_neg (show ¬ (z == 2 && !bottom) = true by rw [show (z == 2) = false from w2, Bool.false_and]; decide)] at hM
   refine Tp.run [] ?_
   refine And.intro (.inl rfl) (And.intro ?_ (And.intro ?_ ?_))
   ·show (((listM Q z x.owner).map encI).length + 1) * 8 ≤ _
    rw [List.length_map]
    exact Nat.le_of_lt (one_more (by decide) hll)
   ·show ((listM Q z x.owner).map encI).length + 1 < _
    rw [List.length_map]
    have := one_more (n := (listM Q z x.owner).length) (b := 8) (by decide) hll
    omega
   generalize setM Q z x.owner _ = V at hs2 hM
   subst hM
   refine Tp.frz [] (Tp.run [] ?_)
   refine call_intro hs2 ⟨?_, rfl, rfl, ?_, trivial⟩ (.inr rfl) ?_
   ·repeat' (first | refine And.intro ?_ ?_ | exact rfl | exact trivial | exact Exists.intro _ rfl | fail)
   ·exact congrArg (Tr.sl 1) (List.map_append (f := encI) (l₁ := listM Q z x.owner) (l₂ := [x.id])).symm
   refine Tp.run [] ?_
   refine Exists.intro [] (And.intro rfl (And.intro ?_ ?_))
   ·repeat' (first | refine And.intro ?_ ?_ | exact rfl | exact trivial | exact Exists.intro _ rfl | fail)
   ·repeat' (first | refine And.intro ?_ ?_ | exact rfl | exact trivial | exact Exists.intro _ rfl | fail)
end Go.Proofs.Ytiebjkbofoppaaa
end
section
namespace Go.Proofs.Ytiebjkbofoppaaa
open Go Cg Go.RowKit
theorem move_ct (s : GState) (id z p : Int) (bottom : Bool) (h : s.ok) : Ct Try.prog 16 [.agg (s.enc.map .t), .c (.t (iv id)), .c (.t (iv z)), .c (.t (iv p)), AV.b bottom] (.tup [.agg ((moveM s id z p bottom).1.enc.map .t), .c (.t (iv (moveM s id z p bottom).2))]) [] false := by
 rcases fidx_cases (fun o : GObject => o.id == id) s.objects with ⟨_, e1, e2⟩ | ⟨i, hi, e0, e1, e2⟩
 ·have := move_none s id z p bottom h e2
  unfold moveM
  rw [e1]
  exact this
 ·have := move_found s id z p bottom i h hi e0 e2
  unfold moveM
  rw [e1]
  simp only [List.getElem?_eq_getElem hi]
  exact this
def makeM (s : GState) (card player : Int) : GState × Int :=
 let x : GObject := { newM s.nextId card player 0 s.nextStamp with token := true, sick := true }
 ({ putM s x with battlefield := s.battlefield ++ [s.nextId], nextId := IntKind.i64.wrap (s.nextId + 1), nextStamp := IntKind.i64.wrap (s.nextStamp + 1) }, s.nextId)
set_option maxRecDepth 100000 in
theorem make_ct (s : GState) (card player : Int) (h : s.ok) : Ct Try.prog 19 [.agg (s.enc.map .t), .c (.t (iv card)), .c (.t (iv player))] (.tup [.agg ((makeM s card player).1.enc.map .t), .c (.t (iv (makeM s card player).2))]) [] false := by
 have hbt : s.battlefield.length * 8 ≤ limB := h.2.2.2.2.1
 have hn := new_ct s.nextId card player 0 s.nextStamp
 have hq := put_ct s { newM s.nextId card player 0 s.nextStamp with token := true, sick := true } h
 refine ct_of Try.func19 rfl (enters_of Try.func19 (by kernel_rfl) rfl) tabOk (by kernel_rfl) rfl rfl rfl rfl fun w0 O => Tp.run [] ?_
 refine call_intro hn ⟨rfl, rfl, rfl, rfl, rfl, trivial⟩ (.inr rfl) ?_
 refine call_intro hq ⟨fitL_refl s.enc, ?_, trivial⟩ (.inr rfl) ?_
 ·repeat' (first | refine And.intro ?_ ?_ | exact rfl | exact trivial | exact Exists.intro _ rfl | fail)
 refine And.intro (.inl rfl) (And.intro ?_ (And.intro ?_ ?_))
 ·show ((s.battlefield.map encI).length + 1) * 8 ≤ _
  rw [List.length_map]
  exact Nat.le_of_lt (one_more (by decide) hbt)
 ·show (s.battlefield.map encI).length + 1 < _
  rw [List.length_map]
  have := one_more (n := s.battlefield.length) (b := 8) (by decide) hbt
  omega
 refine Exists.intro [] (And.intro rfl (And.intro ?_ ?_))
 ·repeat' (first | refine And.intro ?_ ?_ | exact rfl | exact trivial | exact Exists.intro _ rfl | fail)
 ·repeat' (first | refine And.intro ?_ ?_ | exact rfl | exact trivial | exact Exists.intro _ rfl | fail)
  exact congrArg (Tr.sl 1) (List.map_append (f := encI) (l₁ := s.battlefield) (l₂ := [s.nextId]))
end Go.Proofs.Ytiebjkbofoppaaa
end
section
namespace Go.Proofs.Ytiebjkbofoppaaa
open Go Cg Go.RowKit Go.Sort
theorem dint_map {ts : List Tr} {i : Nat} {n : Int} (h : ts[i]? = some (iv n)) : dint (ts.map Tr.d) i = n := by
 unfold dint
 rw [List.getElem?_map, h]
 show (match some (Tr.d (iv n)) with | some (.lit (.int _ n)) => n | _ => 0) = n
 rw [show iv n = Tr.lit (.int .i64 n) from rfl, Tr.d_lit]
theorem dbool_map {ts : List Tr} {i : Nat} {n : Bool} (h : ts[i]? = some (bv n)) : dbool (ts.map Tr.d) i = n := by
 unfold dbool
 rw [List.getElem?_map, h]
 show (match some (Tr.d (bv n)) with | some (.lit (.bool n)) => n | _ => false) = n
 rw [show bv n = Tr.lit (.bool n) from rfl, Tr.d_lit]
theorem dxs_map {ts : List Tr} {i k : Nat} {xs : List (List Tr)} (h : ts[i]? = some (.sl k xs)) : dxs (ts.map Tr.d) i = xs.map fun ts => ts.map Tr.d := by
 unfold dxs
 rw [List.getElem?_map, h]
 show (match some (Tr.d (.sl k xs)) with | some (.sl xs) => xs | _ => []) = _
 rw [Tr.d_sl]
def dO (o : GObject) : List D := o.enc.map Tr.d
def dS (s : GState) : List D := s.enc.map Tr.d
def dN (i : Int) : List D := (encI i).map Tr.d
theorem dN_eq (i : Int) : dN i = [dI i] := by
 unfold dN encI dI
 rw [List.map_cons, List.map_nil, show iv i = Tr.lit (.int .i64 i) from rfl, Tr.d_lit]
theorem dS_0 (s : GState) : dxs (dS s) 0 = s.players.map fun p => p.enc.map Tr.d := (dxs_map (k := 14) (xs := s.players.map GPlayer.enc) rfl).trans (List.map_map ..)
theorem dS_1 (s : GState) : dxs (dS s) 1 = s.objects.map dO := (dxs_map (k := 19) (xs := s.objects.map GObject.enc) rfl).trans (List.map_map ..)
theorem dS_2 (s : GState) : dxs (dS s) 2 = s.battlefield.map dN := (dxs_map (k := 1) (xs := s.battlefield.map encI) rfl).trans (List.map_map ..)
theorem dS_3 (s : GState) : dxs (dS s) 3 = s.exile.map dN := (dxs_map (k := 1) (xs := s.exile.map encI) rfl).trans (List.map_map ..)
theorem dS_4 (s : GState) : dxs (dS s) 4 = s.stack.map fun p => p.enc.map Tr.d := (dxs_map (k := 94) (xs := s.stack.map GItem.enc) rfl).trans (List.map_map ..)
theorem dS_13 (s : GState) : dint (dS s) 13 = s.nextId := dint_map rfl
theorem dS_14 (s : GState) : dint (dS s) 14 = s.nextStamp := dint_map rfl
theorem dO_0 (o : GObject) : dint (dO o) 0 = o.id := dint_map rfl
theorem dO_1 (o : GObject) : dint (dO o) 1 = o.card := dint_map rfl
theorem dO_2 (o : GObject) : dint (dO o) 2 = o.owner := dint_map rfl
theorem dO_4 (o : GObject) : dint (dO o) 4 = o.zone := dint_map rfl
theorem dO_5 (o : GObject) : dbool (dO o) 5 = o.token := dbool_map rfl
theorem dN_0 (i : Int) : dint (dN i) 0 = i := dint_map rfl
theorem fidx_map {α β : Type} (p : β → Bool) (q : α → Bool) (f : α → β) (l : List α) (h : ∀ x, p (f x) = q x) : fidx p (l.map f) = fidx q l := by
 unfold fidx
 rw [List.findIdx?_map, show p ∘ f = q from funext h]
theorem find_map {α β : Type} (p : β → Bool) (q : α → Bool) (f : α → β) (l : List α) (h : ∀ x, p (f x) = q x) : (l.map f).find? p = (l.find? q).map f := by
 rw [List.find?_map, show p ∘ f = q from funext h]
theorem zD_eq : zD = dO zeroObj := by
 unfold zD dO zeroObj GObject.enc
 simp only [List.map_cons, List.map_nil, iv, bv, Tr.d_lit]
 rfl
theorem has_eq (s : GState) (id : Int) : hasO id (dxs (dS s) 1) = hasM s.objects id := by
 unfold hasO hasM
 rw [dS_1, find_map _ (fun o : GObject => o.id == id) _ _ (fun o => by rw [dO_0])]
 cases s.objects.find? fun o => o.id == id <;> rfl
theorem find_eq (s : GState) (id : Int) : findO id (dxs (dS s) 1) = dO (findM s.objects id) := by
 unfold findO findM
 rw [dS_1, find_map _ (fun o : GObject => o.id == id) _ _ (fun o => by rw [dO_0]), zD_eq]
 cases s.objects.find? fun o => o.id == id <;> rfl
theorem put_map (l : List GObject) (o : GObject) : putO (dO o) (l.map dO) = (putL l o).map dO := by
 unfold putO
 rw [fidx_map _ (fun x : GObject => x.id == o.id) _ _ (fun x => by rw [dO_0, dO_0])]
 unfold putL
 rcases fidx_cases (fun x : GObject => x.id == o.id) l with ⟨e1, e2, e3⟩ | ⟨i, hi, e1, e2, _⟩
 ·rw [e1, e2, if_pos (by decide)]
  have hne : ∀ x ∈ l, (x.id == o.id) = false := fun x hx => by
   have := List.find?_eq_none.1 e3 x hx
   simpa using this
  have hat : insAt (dO o) (l.map dO) = (l.takeWhile fun x => decide (x.id < o.id)).length := by
   unfold insAt
   rw [fidx_map _ (fun x : GObject => decide (o.id < x.id)) _ _ (fun x => by rw [dO_0, dO_0])]
   symm
   rcases fidx_cases (fun x : GObject => decide (o.id < x.id)) l with ⟨g1, _, g3⟩ | ⟨i, hi, g1, g2, _⟩
   ·rw [g1, if_pos (by decide), List.length_map]
    refine takeWhile_len _ l l.length (Nat.le_refl _) (fun j hj _ => ?_) (.inl rfl)
    have h1 := List.find?_eq_none.1 g3 l[j] (List.getElem_mem hj)
    have h2 := hne l[j] (List.getElem_mem hj)
    simp only [decide_eq_true_eq, beq_eq_false_iff_ne, ne_eq] at h1 h2 ⊢
    omega
   ·rw [g1, if_neg (by omega), Int.toNat_natCast]
    obtain ⟨_, h3, h4⟩ := List.findIdx?_eq_some_iff_getElem.1 g2
    refine takeWhile_len _ l i (Nat.le_of_lt hi) (fun j hj hji => ?_) (.inr ⟨hi, ?_⟩)
    ·have h1 := h4 j hji
     have h2 := hne l[j] (List.getElem_mem hj)
     simp only [decide_eq_true_eq, beq_eq_false_iff_ne, ne_eq, Bool.not_eq_true, decide_eq_false_iff_not] at h1 h2 ⊢
     omega
    ·simp only [decide_eq_true_eq, decide_eq_false_iff_not] at h3 ⊢
     omega
  rw [hat]
  show _ = (insM l o).map dO
  unfold insM
  simp only [List.map_append, List.map_take, List.map_drop, List.map_cons, List.map_nil, List.append_assoc, List.cons_append, List.nil_append]
 ·rw [e1, e2, if_neg (by omega), Int.toNat_natCast]
  show _ = (l.set i o).map dO
  rw [List.map_set]
theorem setD (s : GState) (i : Nat) (t : Tr) (d : D) (h : t.d = d) : (dS s).set i d = (s.enc.set i t).map Tr.d := by
 unfold dS
 rw [List.map_set, h]
theorem objs_d (l : List GObject) : (Tr.sl 19 (l.map GObject.enc)).d = .sl (l.map dO) := by rw [Tr.d_sl, List.map_map]; rfl
theorem ints_d (l : List Int) : (Tr.sl 1 (l.map encI)).d = .sl (l.map dN) := by rw [Tr.d_sl, List.map_map]; rfl
theorem plys_d (l : List GPlayer) : (Tr.sl 14 (l.map GPlayer.enc)).d = .sl (l.map fun p => p.enc.map Tr.d) := by rw [Tr.d_sl, List.map_map]; rfl
theorem items_d (l : List GItem) : (Tr.sl 94 (l.map GItem.enc)).d = .sl (l.map fun p => p.enc.map Tr.d) := by rw [Tr.d_sl, List.map_map]; rfl
theorem put_eq (s : GState) (o : GObject) : putT (dS s) (dO o) = dS (putM s o) := by
 unfold putT
 rw [dS_1, put_map, setD s 1 _ _ (objs_d _)]
 rfl
theorem ply_i (p : GPlayer) (i : Nat) (l : List Int) : (p.enc.map Tr.d).set i (.sl (l.map dN)) = (p.enc.set i (.sl 1 (l.map encI))).map Tr.d := by rw [List.map_set, ints_d]
theorem list_eq (s : GState) (z p : Int) : listT (dS s) z p = (listM s z p).map dN := by
 unfold listT listM
 rw [dS_0, dS_2, dS_3]
 by_cases h0 : (z == 0) = true
 ·rw [if_pos h0, if_pos h0]
 rw [if_neg h0, if_neg h0]
 by_cases h4 : (z == 4) = true
 ·rw [if_pos h4, if_pos h4]
 rw [if_neg h4, if_neg h4, List.length_map]
 by_cases hp : p < 0 ∨ (s.players.length : Int) ≤ p
 ·rw [if_pos hp, if_pos hp]; rfl
 rw [if_neg hp, if_neg hp]
 obtain ⟨k, rfl⟩ : ∃ k : Nat, p = k := ⟨p.toNat, by omega⟩
 have hk : k < s.players.length := by omega
 rw [Int.toNat_natCast, List.getElem?_eq_getElem hk, List.getD_eq_getElem?_getD, List.getElem?_map, List.getElem?_eq_getElem hk]
 unfold kof
 by_cases h1 : (z == 1) = true
 ·rw [if_pos h1]; show _ = List.map dN (if (z == 1) = true then _ else _); rw [if_pos h1]
  exact (dxs_map (k := 1) (xs := s.players[k].hand.map encI) rfl).trans (List.map_map ..)
 rw [if_neg h1]
 by_cases h2 : (z == 2) = true
 ·rw [if_pos h2]; show _ = List.map dN (if (z == 1) = true then _ else if (z == 2) = true then _ else _); rw [if_neg h1, if_pos h2]
  exact (dxs_map (k := 1) (xs := s.players[k].library.map encI) rfl).trans (List.map_map ..)
 rw [if_neg h2]
 by_cases h3 : (z == 3) = true
 ·rw [if_pos h3]; show _ = List.map dN (if (z == 1) = true then _ else if (z == 2) = true then _ else if (z == 3) = true then _ else _); rw [if_neg h1, if_neg h2, if_pos h3]
  exact (dxs_map (k := 1) (xs := s.players[k].graveyard.map encI) rfl).trans (List.map_map ..)
 rw [if_neg h3]; show _ = List.map dN (if (z == 1) = true then _ else if (z == 2) = true then _ else if (z == 3) = true then _ else _); rw [if_neg h1, if_neg h2, if_neg h3]
 rfl
theorem set_eq (s : GState) (z p : Int) (l : List Int) : setT (dS s) z p (l.map dN) = dS (setM s z p l) := by
 unfold setT setM
 rw [dS_0]
 by_cases h0 : (z == 0) = true
 ·rw [if_pos h0, if_pos h0, setD s 2 _ _ (ints_d _)]; rfl
 rw [if_neg h0, if_neg h0]
 by_cases h4 : (z == 4) = true
 ·rw [if_pos h4, if_pos h4, setD s 3 _ _ (ints_d _)]; rfl
 rw [if_neg h4, if_neg h4, List.length_map]
 by_cases hp : p < 0 ∨ (s.players.length : Int) ≤ p
 ·rw [if_pos hp, if_pos hp]
 rw [if_neg hp, if_neg hp]
 obtain ⟨k, rfl⟩ : ∃ k : Nat, p = k := ⟨p.toNat, by omega⟩
 have hk : k < s.players.length := by omega
 rw [Int.toNat_natCast, List.getElem?_eq_getElem hk, List.getD_eq_getElem?_getD, List.getElem?_map, List.getElem?_eq_getElem hk]
 have key : ∀ (q : GPlayer) (d : List D), d = q.enc.map Tr.d → (dS s).set 0 (.sl ((s.players.map fun p => p.enc.map Tr.d).set k d)) = dS { s with players := s.players.set k q } := fun q d hd => by
  rw [hd, ← List.map_set (f := fun p : GPlayer => p.enc.map Tr.d), setD s 0 _ _ (plys_d _)]
  rfl
 unfold kof
 by_cases h1 : (z == 1) = true
 ·rw [if_pos h1]
  refine key _ _ ((ply_i _ _ _).trans ?_)
  unfold setP
  rw [if_pos h1]
  rfl
 rw [if_neg h1]
 by_cases h2 : (z == 2) = true
 ·rw [if_pos h2]
  refine key _ _ ((ply_i _ _ _).trans ?_)
  unfold setP
  rw [if_neg h1, if_pos h2]
  rfl
 rw [if_neg h2]
 by_cases h3 : (z == 3) = true
 ·rw [if_pos h3]
  refine key _ _ ((ply_i _ _ _).trans ?_)
  unfold setP
  rw [if_neg h1, if_neg h2, if_pos h3]
  rfl
 rw [if_neg h3]
 show dS s = dS { s with players := s.players.set k (setP s.players[k] z l) }
 unfold setP
 rw [if_neg h1, if_neg h2, if_neg h3, List.set_getElem_self]
end Go.Proofs.Ytiebjkbofoppaaa
end
section
namespace Go.Proofs.Ytiebjkbofoppaaa
open Go Cg Go.RowKit Go.Sort
theorem dO_pack (o x : GObject) (vs : List Value) (h : x.enc = vs.map Tr.lit) : vs.map D.lit = dO x := by
 unfold dO
 rw [h, List.map_map]
 refine List.map_congr_left fun v _ => ?_
 exact (Tr.d_lit v).symm
theorem setM_objs (s : GState) (l : List GObject) (z p : Int) (r : List Int) : setM { s with objects := l } z p r = { setM s z p r with objects := l } := by
 unfold setM
 split
 ·rfl
 split
 ·rfl
 split
 ·rfl
 show (match s.players[p.toNat]? with | some q => _ | none => _) = { (match s.players[p.toNat]? with | some q => _ | none => _ : GState) with objects := l }
 split <;> rfl
theorem setM_nx (s : GState) (a b z p : Int) (r : List Int) : setM { s with nextId := a, nextStamp := b } z p r = { setM s z p r with nextId := a, nextStamp := b } := by
 unfold setM
 split
 ·rfl
 split
 ·rfl
 split
 ·rfl
 show (match s.players[p.toNat]? with | some q => _ | none => _) = { (match s.players[p.toNat]? with | some q => _ | none => _ : GState) with nextId := a, nextStamp := b }
 split <;> rfl
theorem remA_eq (s : GState) (i : Nat) (hi : i < s.objects.length) (e : fidx (fun o : GObject => o.id == s.objects[i].id) s.objects = i) : remA (dS s) (dO s.objects[i]) = dS { s with objects := s.objects.take i ++ s.objects.drop (i + 1) } := by
 unfold remA
 rw [dS_1, dO_0, fidx_map _ (fun o : GObject => o.id == s.objects[i].id) _ _ (fun x => by rw [dO_0]), e, Int.toNat_natCast, ← List.map_take, ← List.map_drop, ← List.map_append, setD s 1 _ _ (objs_d _)]
 rfl
theorem remB_eq (s : GState) (o : GObject) : remB (dS s) (dO o) = dS (setM s o.zone o.owner ((listM s o.zone o.owner).filter fun i => i != o.id)) := by
 unfold remB
 rw [dO_0, dO_2, dO_4, list_eq, List.filter_map, ← set_eq]
 have : ((fun x : List D => !(dint x 0 == o.id)) ∘ dN) = fun i => i != o.id := funext fun i => by
  show (!(dint (dN i) 0 == o.id)) = _
  rw [dN_0]
  rfl
 rw [this]
theorem remC_eq (s : GState) (o : GObject) : remC (dS s) (dO o) = dS { s with stack := s.stack.filter (keepM o.id) } := by
 unfold remC
 rw [dO_0, dS_4, List.filter_map]
 have : ((fun x : List D => !(dint x 0 == o.id && dint x 1 == 1)) ∘ fun p : GItem => p.enc.map Tr.d) = keepM o.id := funext fun i => by
  show (!(dint (i.enc.map Tr.d) 0 == o.id && dint (i.enc.map Tr.d) 1 == 1)) = _
  rw [dint_map (n := i.id) rfl, dint_map (n := i.kind) rfl]
  unfold keepM
  rw [Bool.not_and, Bool.or_comm]
  rfl
 rw [this, setD s 4 _ _ (items_d _)]
 rfl
theorem rem_eq (s : GState) (i : Nat) (hi : i < s.objects.length) (e : fidx (fun o : GObject => o.id == s.objects[i].id) s.objects = i) : removeT (dS s) (dO s.objects[i]) = dS (remM s s.objects[i].id i s.objects[i]) := by
 unfold removeT
 rw [remA_eq s i hi e, remB_eq, remC_eq]
 unfold remM
 have e1 : listM { s with objects := s.objects.take i ++ s.objects.drop (i + 1) } s.objects[i].zone s.objects[i].owner = listM s s.objects[i].zone s.objects[i].owner := rfl
 rw [e1, setM_objs]
 show dS { setM s s.objects[i].zone s.objects[i].owner _ with objects := _, stack := (setM s s.objects[i].zone s.objects[i].owner _).stack.filter _ } = _
 rw [setM_stack]
theorem nx_eq (s : GState) (a b : Int) : ((dS s).set 13 (dI a)).set 14 (dI b) = dS { s with nextId := a, nextStamp := b } := by
 rw [show dI a = (iv a).d from (Tr.d_lit _).symm, show dI b = (iv b).d from (Tr.d_lit _).symm]
 unfold dS
 rw [← List.map_set, ← List.map_set]
 rfl
theorem enc_new (id card owner z stamp : Int) : (newM id card owner z stamp).enc = (newO id card owner z stamp).map Tr.lit := rfl
theorem moved_lit (o : GObject) (id z p stamp : Int) : (movedC (dO o) id z p stamp).map D.lit = dO (movedM o id z p stamp) := by
 refine dO_pack o _ _ ?_
 unfold movedC
 rw [dO_1, dO_2, dO_5]
 rfl
theorem tok_lit (id card p stamp : Int) : (tokC id card p stamp).map D.lit = dO { newM id card p 0 stamp with token := true, sick := true } := dO_pack zeroObj _ _ rfl
theorem make_eq (s : GState) (card player : Int) (h13 : IntKind.i64.wrap (s.nextId + 1) = s.nextId + 1) (h14 : IntKind.i64.wrap (s.nextStamp + 1) = s.nextStamp + 1) : makeT (dS s) card player = dS (makeM s card player).1 := by
 unfold makeT makeB makeA
 rw [dS_13, dS_14, tok_lit, put_eq, list_eq, ← dN_eq]
 generalize hQ : putM s { newM s.nextId card player 0 s.nextStamp with token := true, sick := true } = Q
 have e2 : listM Q 0 0 = Q.battlefield := rfl
 rw [show (listM Q 0 0).map dN ++ [dN s.nextId] = (listM Q 0 0 ++ [s.nextId]).map dN by rw [List.map_append]; rfl, set_eq, nx_eq, e2]
 have e3 : setM Q 0 0 (Q.battlefield ++ [s.nextId]) = { Q with battlefield := Q.battlefield ++ [s.nextId] } := rfl
 have hb : Q.battlefield = s.battlefield := by rw [← hQ]; rfl
 unfold makeM
 simp only
 rw [hQ, e3, h13, h14, hb]
theorem moveM_none (s : GState) (id z p : Int) (bottom : Bool) (e : s.objects.findIdx? (fun o => o.id == id) = none) : moveM s id z p bottom = (s, 0) := by unfold moveM; rw [e]
theorem moveM_some (s : GState) (id z p : Int) (bottom : Bool) (i : Nat) (hi : i < s.objects.length) (e : s.objects.findIdx? (fun o => o.id == id) = some i) : moveM s id z p bottom = mvFound s id z p bottom i s.objects[i] := by
 unfold moveM
 rw [e]
 simp only [List.getElem?_eq_getElem hi]
theorem move_eq (s : GState) (id z p : Int) (bottom : Bool) (h13 : IntKind.i64.wrap (s.nextId + 1) = s.nextId + 1) (h14 : IntKind.i64.wrap (s.nextStamp + 1) = s.nextStamp + 1) : moveT (dS s) id z p bottom = (dS (moveM s id z p bottom).1, (moveM s id z p bottom).2) := by
 unfold moveT
 rcases fidx_cases (fun o : GObject => o.id == id) s.objects with ⟨e1, e2, e3⟩ | ⟨i, hi, e1, e2, e3⟩
 ·rw [moveM_none s id z p bottom e2, if_neg]
  rw [has_eq]
  unfold hasM
  rw [e3]
  simp
 ·have hid : s.objects[i].id = id := by
   have := List.find?_some e3
   simpa using this
  have hhas : hasO id (dxs (dS s) 1) = true := by rw [has_eq]; unfold hasM; rw [e3]; rfl
  have hfind : findO id (dxs (dS s) 1) = dO s.objects[i] := by rw [find_eq]; unfold findM; rw [e3]; rfl
  have e1' : fidx (fun o : GObject => o.id == s.objects[i].id) s.objects = i := by rw [hid]; exact e1
  rw [moveM_some s id z p bottom i hi e2]
  unfold mvFound
  by_cases hz : z < 0 ∨ 5 < z
  ·rw [if_pos hz, if_neg (by rintro ⟨_, _, _⟩; omega)]
  rw [if_neg hz, if_pos ⟨hhas, by omega, by omega⟩, hfind, dO_5]
  have hR : mvR (dS s) id = dS (remM s id i s.objects[i]) := by
   unfold mvR
   rw [hfind, rem_eq s i hi e1', hid]
  by_cases ht : s.objects[i].token = true ∧ (z != 0) = true ∧ (z != 5) = true
  ·rw [if_pos ht, if_pos ⟨ht.1, by simpa using ht.2.1, by simpa using ht.2.2⟩, hR]
  rw [if_neg ht, if_neg (fun hx => ht ⟨hx.1, by simpa using hx.2.1, by simpa using hx.2.2⟩)]
  have hn : (remM s id i s.objects[i]).nextId = s.nextId ∧ (remM s id i s.objects[i]).nextStamp = s.nextStamp := setM_next s _ _ _
  have hP : mvP (dS s) id z p = dS (putM (remM s id i s.objects[i]) (mvNew (remM s id i s.objects[i]) s.objects[i] z p)) := by
   unfold mvP mvC
   rw [hR, hfind, dS_13, dS_14, moved_lit, put_eq]
   unfold mvNew
   rw [hn.1, hn.2]
  have hO : mvO (dS s) id = s.objects[i].owner := by unfold mvO; rw [hfind, dO_2]
  have hxo : (mvNew (remM s id i s.objects[i]) s.objects[i] z p).owner = s.objects[i].owner := rfl
  have hxi : (mvNew (remM s id i s.objects[i]) s.objects[i] z p).id = s.nextId := hn.1
  have hQ1 : (putM (remM s id i s.objects[i]) (mvNew (remM s id i s.objects[i]) s.objects[i] z p)).nextId = s.nextId := hn.1
  have hQ2 : (putM (remM s id i s.objects[i]) (mvNew (remM s id i s.objects[i]) s.objects[i] z p)).nextStamp = s.nextStamp := hn.2
  unfold mvL mvN mvEnd mvFin
  rw [hP, hO, hxo, hxi, dS_13, dS_14]
  generalize putM (remM s id i s.objects[i]) (mvNew (remM s id i s.objects[i]) s.objects[i] z p) = Q at hQ1 hQ2
  rw [nx_eq, list_eq]
  have e5 : listM { Q with nextId := s.nextId + 1, nextStamp := s.nextStamp + 1 } z s.objects[i].owner = listM Q z s.objects[i].owner := rfl
  have e6 : (if (z == 2 && !bottom) = true then [dI s.nextId] :: (listM Q z s.objects[i].owner).map dN else (listM Q z s.objects[i].owner).map dN ++ [[dI s.nextId]]) = (if (z == 2 && !bottom) = true then s.nextId :: listM Q z s.objects[i].owner else listM Q z s.objects[i].owner ++ [s.nextId]).map dN := by
   rw [← dN_eq]
   split
   ·rfl
   ·rw [List.map_append]; rfl
  rw [e5, e6, set_eq, setM_nx, (setM_next Q _ _ _).1, (setM_next Q _ _ _).2, hQ1, hQ2, h13, h14]
end Go.Proofs.Ytiebjkbofoppaaa
end
section
namespace Go.Proofs.Ytiebjkbofoppaaa
open Go Cg Go.RowKit Go.Sort
open Classical in
/-- Places where only the blocks of F are cold. -/
noncomputable def envOf (F : Nat → Prop) : Env := ⟨fun b => if F b then .cold else .non, fun _ => 0, fun _ _ => undef⟩
theorem envOf_cold {F : Nat → Prop} {b : Nat} : (envOf F).rl b = .cold ↔ F b := by
 unfold envOf
 simp only
 split
 ·simp_all
 ·simp_all
theorem envOf_F (F : Nat → Prop) : (envOf F).F = F := funext fun _ => propext envOf_cold
theorem rtl_env {F : Nat → Prop} {w : World} {vs : List Value} {ts : List Tr} (h : RTL F w vs ts) : A2 (RC (envOf F) w) vs (ts.map .t) := rtl_a2 (by rw [envOf_F]; exact h)
theorem ks_state : GState.ks = kState := by kernel_rfl
theorem ks_object : GObject.ks = kObject := by kernel_rfl
theorem a2_rtl {E : Env} {w : World} : ∀ {vs : List Value} {ts : List Tr}, A2 (RC E w) vs (ts.map .t) → RTL E.F w vs ts
 | _, [], .nil => .nil
 | _, _ :: _, .cons h1 h2 => .cons h1 (a2_rtl h2)
theorem st_arg {s : GState} (hs : s.ok) {E0 : Env} {w : World} {cs : List Value} (h : A2 (RC E0 w) cs (s.enc.map .t)) : RdL E0.F limB w kState cs (dS s) := by
 rw [← ks_state]
 exact rtL_rd (a2_rtl h) (GState.fit s hs)
theorem flat_obj : flatK kObject := fun k hk => by
 have : k ∈ GObject.ks := by rw [ks_object]; exact hk
 unfold GObject.ks at this
 simp only [List.mem_cons, List.not_mem_nil, or_false] at this
 rcases this with rfl | rfl | rfl | rfl | rfl | rfl | rfl | rfl | rfl | rfl | rfl | rfl | rfl | rfl | rfl | rfl | rfl | rfl | rfl <;> exact ⟨_, rfl⟩
theorem ob_arg {o : GObject} {E0 : Env} {w : World} {cs : List Value} (h : A2 (RC E0 w) cs (o.enc.map .t)) : RdL (fun _ => False) 0 w kObject cs (dO o) := by
 have := rtL_rd (a2_rtl h) (GObject.fit o (obj_ok o))
 rw [ks_object] at this
 exact this.any flat_obj
theorem int_arg {E0 : Env} {w : World} {v : Value} {n : Int} (h : R1 E0 w v (.c (.t (iv n)))) : v = .int .i64 n := by
 have h : RT E0.F w v (.lit (.int .i64 n)) := h
 cases h
 rfl
theorem bool_arg {E0 : Env} {w : World} {v : Value} {b : Bool} (h : R1 E0 w v (AV.b b)) : v = .bool b := by
 have h : RT E0.F w v (.lit (.bool b)) := h
 cases h
 rfl
theorem limL : limB ≤ 140737488355328 := by decide
theorem limL1 : limB + 128 ≤ 140737488355328 := by decide
theorem limL2 : limB + 136 ≤ 140737488355328 := by decide
theorem dI_lit (n : Int) : dI n = .lit (.int .i64 n) := rfl
/-- A state that a function of the program returns. -/
theorem st_res {F' : Nat → Prop} {L : Nat} {s : GState} (hs : s.ok) {w : World} {cs : List Value} (h : RdL F' L w kState cs (dS s)) : A2 (RC (envOf F') w) cs (s.enc.map .t) := by
 rw [← ks_state] at h
 exact rtl_env (rdL_to h (GState.fit s hs) rfl)
theorem st_ret {F' : Nat → Prop} {E0 : Env} {L n : Nat} {s : GState} (hs : s.ok) {w : World} {cs : List Value} (h : RdL F' L w kState cs (dS s)) (hF : ∀ b, b < n → F' b → E0.F b) : ∃ E, RV E w (.agg cs.toArray) (.agg (s.enc.map .t)) ∧ (∀ j R, ([] : List Row)[j]? = some R → RR E w n j R) ∧ ∀ b, b < n → E.rl b = .cold → false = false ∧ E0.rl b = .cold :=
 ⟨envOf F', ⟨cs, rfl, st_res hs h⟩, fun j R hj => (by simp at hj), fun b hb hc => ⟨rfl, hF b hb (envOf_cold.1 hc)⟩⟩
theorem st_ret2 {F' : Nat → Prop} {E0 : Env} {L n : Nat} {s : GState} (hs : s.ok) {w : World} {cs : List Value} (h : RdL F' L w kState cs (dS s)) (hF : ∀ b, b < n → F' b → E0.F b) (m : Int) : ∃ E, RV E w (.tuple #[.agg cs.toArray, .int .i64 m]) (.tup [.agg (s.enc.map .t), .c (.t (iv m))]) ∧ (∀ j R, ([] : List Row)[j]? = some R → RR E w n j R) ∧ ∀ b, b < n → E.rl b = .cold → false = false ∧ E0.rl b = .cold :=
 ⟨envOf F', ⟨[.agg cs.toArray, .int .i64 m], rfl, .cons ⟨cs, rfl, st_res hs h⟩ (.cons (RT.lit rfl) .nil)⟩, fun j R hj => (by simp at hj), fun b hb hc => ⟨rfl, hF b hb (envOf_cold.1 hc)⟩⟩
theorem copyP_ct (s : GState) (hs : s.ok) : Ct Try.prog 24 [.agg (s.enc.map .t)] (.agg (s.enc.map .t)) [] false := by
 refine ⟨enters_of Try.func24 (by kernel_rfl) rfl, Nat.zero_le _, rfl, (resB_ok (rs := []) rfl).1, (resB_ok (rs := []) rfl).2, fun w vs E0 ha => ?_⟩
 cases ha with
 | cons h1 h2 =>
  cases h2
  obtain ⟨cs, rfl, h0⟩ := h1
  refine (copy_prog E0.F limB cs (dS s) w (st_arg hs h0) limL).mono ?_
  rintro e w' ⟨cs', rfl, ⟨ρ, hO, hr⟩, hb⟩
  exact ⟨_, rfl, hb, st_ret hs hO.rd fun b hlt hn => Classical.byContradiction fun hc => hn (hr b hlt hc)⟩
theorem findP_ct (s : GState) (id : Int) (hs : s.ok) : Ct Try.prog 20 [.agg (s.enc.map .t), .c (.t (iv id))] (.tup [.agg ((findM s.objects id).enc.map .t), AV.b (hasM s.objects id)]) [] true := by
 refine Ct.litT (b := false) ?_ rfl
 refine ⟨enters_of Try.func20 (by kernel_rfl) rfl, Nat.zero_le _, rfl, (resB_ok (rs := []) rfl).1, (resB_ok (rs := []) rfl).2, fun w vs E0 ha => ?_⟩
 cases ha with
 | cons h1 h2 =>
 cases h2 with
 | cons h2 h3 =>
  cases h3
  obtain ⟨cs, rfl, h0⟩ := h1
  obtain rfl := int_arg h2
  refine (find_prog E0.F limB cs (dS s) id w (st_arg hs h0) limL).mono ?_
  rintro e w' ⟨oc, rfl, hO, hb⟩
  rw [find_eq, ← ks_object] at hO
  rw [has_eq]
  refine ⟨_, rfl, hb, envOf fun _ => False, ⟨[.agg oc.toArray, .bool (hasM s.objects id)], rfl, .cons ⟨oc, rfl, rtl_env (rdL_to hO (GObject.fit _ (obj_ok _)) rfl)⟩ (.cons (RT.lit rfl) .nil)⟩, fun j R hj => (by simp at hj), fun b hb hc => (envOf_cold.1 hc).elim⟩
theorem putP_ct (s : GState) (o : GObject) (hs : s.ok) (hn : (s.objects.length + 1) * 128 ≤ limB) : Ct Try.prog 22 [.agg (s.enc.map .t), .agg (o.enc.map .t)] (.agg ((putM s o).enc.map .t)) [] false := by
 refine ⟨enters_of Try.func22 (by kernel_rfl) rfl, Nat.zero_le _, rfl, (resB_ok (rs := []) rfl).1, (resB_ok (rs := []) rfl).2, fun w vs E0 ha => ?_⟩
 cases ha with
 | cons h1 h2 =>
 cases h2 with
 | cons h2 h3 =>
  cases h3
  obtain ⟨cs, rfl, h0⟩ := h1
  obtain ⟨oc, rfl, ho⟩ := h2
  refine (Put_prog E0.F limB cs (dS s) oc (dO o) w (st_arg hs h0) (ob_arg ho) limL1).mono ?_
  rintro e w' ⟨cs', F', rfl, hO, hb, hF⟩
  rw [put_eq] at hO
  exact ⟨_, rfl, hb, st_ret (putM_ok hs o hn) hO hF⟩
theorem setP_ct (s : GState) (z p : Int) (l : List Int) (hs : s.ok) (hl : l.length * 8 ≤ limB) : Ct Try.prog 29 [.agg (s.enc.map .t), .c (.t (iv z)), .c (.t (iv p)), .c (.t (.sl 1 (l.map encI)))] (.agg ((setM s z p l).enc.map .t)) [] false := by
 refine ⟨enters_of Try.func29 (by kernel_rfl) rfl, Nat.zero_le _, rfl, (resB_ok (rs := []) rfl).1, (resB_ok (rs := []) rfl).2, fun w vs E0 ha => ?_⟩
 cases ha with
 | cons h1 h2 =>
 cases h2 with
 | cons h2 h3 =>
 cases h3 with
 | cons h3 h4 =>
 cases h4 with
 | cons h4 h5 =>
  cases h5
  obtain ⟨cs, rfl, h0⟩ := h1
  obtain rfl := int_arg h2
  obtain rfl := int_arg h3
  have h4 : RT E0.F w _ (.sl 1 (l.map encI)) := h4
  have hv := rt_rd h4 (k := kInts) (fitK_sl.2 ⟨l.map encI, rfl, by rw [List.length_map]; exact hl, fitS_map int_fit fun _ _ => trivial⟩)
  rw [ints_d] at hv
  refine (set_prog E0.F limB cs (dS s) z p _ (l.map dN) w (st_arg hs h0) hv limL).mono ?_
  rintro e w' ⟨cs', F', rfl, hO, hb, hF⟩
  rw [set_eq] at hO
  exact ⟨_, rfl, hb, st_ret (setM_ok hs z p hl) hO hF⟩
theorem listP_ct (s : GState) (z p : Int) (hs : s.ok) : Ct Try.prog 26 [.agg (s.enc.map .t), .c (.t (iv z)), .c (.t (iv p))] (.c (.t (.sl 1 ((listM s z p).map encI)))) [] true := by
 refine ⟨enters_of Try.func26 (by kernel_rfl) rfl, Nat.zero_le _, rfl, (resB_ok (rs := []) rfl).1, (resB_ok (rs := []) rfl).2, fun w vs E0 ha => ?_⟩
 cases ha with
 | cons h1 h2 =>
 cases h2 with
 | cons h2 h3 =>
 cases h3 with
 | cons h3 h4 =>
  cases h4
  obtain ⟨cs, rfl, h0⟩ := h1
  obtain rfl := int_arg h2
  obtain rfl := int_arg h3
  refine (list_all E0.F limB cs (dS s) z p w (st_arg hs h0) limL).mono ?_
  rintro e w' ⟨v', rfl, hO, hb⟩
  rw [list_eq] at hO
  have hle : ((listM s z p).map dN).length * 8 ≤ limB := by rw [List.length_map]; exact listM_le hs z p
  have hr := hO.rd (fun b => w.heap.size ≤ b) limB hle (fun g hg _ => (hO.lt g hg).1)
  have ht := rd_to hr (t := .sl 1 ((listM s z p).map encI)) (fitK_sl.2 ⟨_, rfl, by rw [List.length_map]; exact listM_le hs z p, fitS_map int_fit fun _ _ => trivial⟩) (ints_d _)
  refine ⟨_, rfl, hb, envOf fun b => w.heap.size ≤ b, ?_, fun j R hj => (by simp at hj), fun b hb hc => absurd (envOf_cold.1 hc) (by omega)⟩
  show RT (envOf fun b => w.heap.size ≤ b).F w' v' _
  rw [envOf_F]
  exact ht
theorem moveP_ct (s : GState) (id z p : Int) (bottom : Bool) (hs : s.ok) (h13 : IntKind.i64.wrap (s.nextId + 1) = s.nextId + 1) (h14 : IntKind.i64.wrap (s.nextStamp + 1) = s.nextStamp + 1) (hr : (moveM s id z p bottom).1.ok) : Ct Try.prog 15 [.agg (s.enc.map .t), .c (.t (iv id)), .c (.t (iv z)), .c (.t (iv p)), AV.b bottom] (.tup [.agg ((moveM s id z p bottom).1.enc.map .t), .c (.t (iv (moveM s id z p bottom).2))]) [] false := by
 refine ⟨enters_of Try.func15 (by kernel_rfl) rfl, Nat.zero_le _, rfl, (resB_ok (rs := []) rfl).1, (resB_ok (rs := []) rfl).2, fun w vs E0 ha => ?_⟩
 cases ha with
 | cons h1 h2 =>
 cases h2 with
 | cons h2 h3 =>
 cases h3 with
 | cons h3 h4 =>
 cases h4 with
 | cons h4 h5 =>
 cases h5 with
 | cons h5 h6 =>
  cases h6
  obtain ⟨cs, rfl, h0⟩ := h1
  obtain rfl := int_arg h2
  obtain rfl := int_arg h3
  obtain rfl := int_arg h4
  obtain rfl := bool_arg h5
  refine (move_prog E0.F limB cs (dS s) id z p bottom w (st_arg hs h0) limL2 (by rw [dS_13]; exact h13) (by rw [dS_14]; exact h14)).mono ?_
  rintro e w' ⟨cs', F', rfl, hO, hb, hF⟩
  rw [move_eq s id z p bottom h13 h14] at hO ⊢
  exact ⟨_, rfl, hb, st_ret2 hr hO hF _⟩
theorem makeP_ct (s : GState) (card player : Int) (hs : s.ok) (h13 : IntKind.i64.wrap (s.nextId + 1) = s.nextId + 1) (h14 : IntKind.i64.wrap (s.nextStamp + 1) = s.nextStamp + 1) (hr : (makeM s card player).1.ok) : Ct Try.prog 18 [.agg (s.enc.map .t), .c (.t (iv card)), .c (.t (iv player))] (.tup [.agg ((makeM s card player).1.enc.map .t), .c (.t (iv (makeM s card player).2))]) [] false := by
 refine ⟨enters_of Try.func18 (by kernel_rfl) rfl, Nat.zero_le _, rfl, (resB_ok (rs := []) rfl).1, (resB_ok (rs := []) rfl).2, fun w vs E0 ha => ?_⟩
 cases ha with
 | cons h1 h2 =>
 cases h2 with
 | cons h2 h3 =>
 cases h3 with
 | cons h3 h4 =>
  cases h4
  obtain ⟨cs, rfl, h0⟩ := h1
  obtain rfl := int_arg h2
  obtain rfl := int_arg h3
  refine (make_prog E0.F limB cs (dS s) card player w (st_arg hs h0) limL2 (by rw [dS_13]; exact h13) (by rw [dS_14]; exact h14)).mono ?_
  rintro e w' ⟨cs', F', rfl, hO, hb, hF⟩
  rw [make_eq s card player h13 h14] at hO
  rw [dS_13]
  exact ⟨_, rfl, hb, st_ret2 hr hO hF _⟩
def whereM (s : GState) (id : Int) : Int × Int × Bool := whereT (dS s) id
theorem whereP_ct (s : GState) (id : Int) (hs : s.ok) : Ct Try.prog 12 [.agg (s.enc.map .t), .c (.t (iv id))] (.tup [.c (.t (iv (whereM s id).1)), .c (.t (iv (whereM s id).2.1)), AV.b (whereM s id).2.2]) [] true := by
 refine Ct.litT (b := false) ?_ rfl
 refine ⟨enters_of Try.func12 (by kernel_rfl) rfl, Nat.zero_le _, rfl, (resB_ok (rs := []) rfl).1, (resB_ok (rs := []) rfl).2, fun w vs E0 ha => ?_⟩
 cases ha with
 | cons h1 h2 =>
 cases h2 with
 | cons h2 h3 =>
  cases h3
  obtain ⟨cs, rfl, h0⟩ := h1
  obtain rfl := int_arg h2
  refine (where_prog E0.F limB cs (dS s) id w (st_arg hs h0) limL).mono ?_
  rintro e w' ⟨rfl, hb⟩
  exact ⟨_, rfl, hb, envOf fun _ => False, ⟨[_, _, _], rfl, .cons (RT.lit rfl) (.cons (RT.lit rfl) (.cons (RT.lit rfl) .nil))⟩, fun j R hj => (by simp at hj), fun b hb hc => (envOf_cold.1 hc).elim⟩
end Go.Proofs.Ytiebjkbofoppaaa
end
section
namespace Go.Proofs.Ytiebjkbofoppaaa
open Go Cg Go.RowKit Go.Sort
def Tight (s : GState) : Prop := s.battlefield.length * 8 ≤ reachBytes ∧ s.exile.length * 8 ≤ reachBytes ∧ ∀ q ∈ s.players, q.hand.length * 8 ≤ reachBytes ∧ q.library.length * 8 ≤ reachBytes ∧ q.graveyard.length * 8 ≤ reachBytes
theorem Tight.list {s : GState} (h : Tight s) (z p : Int) : (listM s z p).length * 8 ≤ reachBytes := by
 have hn : ([] : List Int).length * 8 ≤ reachBytes := by decide
 unfold listM
 split
 ·exact h.1
 split
 ·exact h.2.1
 split
 ·exact hn
 split
 ·rename_i q hq
  have := h.2.2 q (List.mem_of_getElem? hq)
  split
  ·exact this.1
  split
  ·exact this.2.1
  split
  ·exact this.2.2
  ·exact hn
 ·exact hn
theorem Tight.set {s : GState} (h : Tight s) (z p : Int) {l : List Int} (hl : l.length * 8 ≤ reachBytes) : Tight (setM s z p l) := by
 obtain ⟨h1, h2, h3⟩ := h
 unfold setM
 split
 ·exact ⟨hl, h2, h3⟩
 split
 ·exact ⟨h1, hl, h3⟩
 split
 ·exact ⟨h1, h2, h3⟩
 split
 ·rename_i q hq
  refine ⟨h1, h2, fun y hy => ?_⟩
  rcases List.mem_or_eq_of_mem_set hy with hy | rfl
  ·exact h3 y hy
  ·have := h3 q (List.mem_of_getElem? hq)
   unfold setP
   split
   ·exact ⟨hl, this.2⟩
   split
   ·exact ⟨this.1, hl, this.2.2⟩
   split
   ·exact ⟨this.1, this.2.1, hl⟩
   ·exact this
 ·exact ⟨h1, h2, h3⟩
theorem filt_le {l : List Int} (q : Int → Bool) (h : l.length * 8 ≤ reachBytes) : (l.filter q).length * 8 ≤ reachBytes := Nat.le_trans (Nat.mul_le_mul_right _ (List.length_filter_le _ _)) h
theorem Tight.rem {s : GState} (h : Tight s) (id : Int) (i : Nat) (o : GObject) : Tight (remM s id i o) := (h.set o.zone o.owner (filt_le (fun i => i != id) (h.list o.zone o.owner)) :)
theorem one_le {l : List Int} (h : l.length * 8 ≤ reachBytes) : (l.length + 1) * 8 ≤ limB := by
 unfold limB
 unfold reachBytes at h
 omega
theorem moveM_ok (s : GState) (id z p : Int) (bottom : Bool) (h : s.ok) (ht : Tight s) : (moveM s id z p bottom).1.ok := by
 rcases fidx_cases (fun o : GObject => o.id == id) s.objects with ⟨_, e, _⟩ | ⟨i, hi, _, e, _⟩
 ·rw [moveM_none s id z p bottom e]; exact h
 rw [moveM_some s id z p bottom i hi e]
 obtain ⟨hR, hRn⟩ := remM_ok h id i s.objects[i] hi
 unfold mvFound
 split
 ·exact h
 split
 ·exact hR
 have htR : Tight (remM s id i s.objects[i]) := ht.rem id i _
 have hQ := putM_ok hR (mvNew (remM s id i s.objects[i]) s.objects[i] z p) (by rw [hRn]; exact h.2.2.1)
 have hl : (listM (putM (remM s id i s.objects[i]) (mvNew (remM s id i s.objects[i]) s.objects[i] z p)) z (mvNew (remM s id i s.objects[i]) s.objects[i] z p).owner).length * 8 ≤ reachBytes := htR.list z _
 generalize putM (remM s id i s.objects[i]) (mvNew (remM s id i s.objects[i]) s.objects[i] z p) = Q at hQ hl
 generalize mvNew (remM s id i s.objects[i]) s.objects[i] z p = x at hl
 show (setM Q z x.owner (if (z == 2 && !bottom) = true then x.id :: listM Q z x.owner else listM Q z x.owner ++ [x.id])).ok
 refine setM_ok hQ z x.owner ?_
 split
 ·rw [List.length_cons]; exact one_le hl
 ·rw [List.length_append, List.length_singleton]; exact one_le hl
theorem makeM_ok (s : GState) (card player : Int) (h : s.ok) (ht : Tight s) (hn : s.objects.length ≤ 200) : (makeM s card player).1.ok := by
 have hQ := putM_ok h { newM s.nextId card player 0 s.nextStamp with token := true, sick := true } (by unfold limB; omega)
 obtain ⟨h1, h2, h3, h4, _, h6⟩ := hQ
 refine ⟨h1, h2, h3, h4, ?_, h6⟩
 show (s.battlefield ++ [s.nextId]).length * 8 ≤ limB
 rw [List.length_append, List.length_singleton]
 exact one_le ht.1
theorem rd_tight {F : Nat → Prop} {w : World} {cs : List Value} {s : GState} (h : RdL F reachBytes w kState cs (dS s)) : Tight s := by
 have one : ∀ {ks : List K} {vs : List Value} {ds : List D} {l : List Int} (i : Nat), RdL F reachBytes w ks vs ds → ks[i]? = some kInts → dxs ds i = l.map dN → l.length * 8 ≤ reachBytes := fun {ks vs ds l} i h hk hd => by
  obtain ⟨v, _, _, hc⟩ := h.sl i _ _ hk
  obtain ⟨_, _, _, _, hb, _⟩ := hc.form
  rw [hd, List.length_map] at hb
  exact hb
 refine ⟨one 2 h rfl (dS_2 s), one 3 h rfl (dS_3 s), fun q hq => ?_⟩
 obtain ⟨v, _, _, hc⟩ := h.sl 0 _ _ rfl
 obtain ⟨es, _, hE, _⟩ := hc.row (k := 14) (by decide)
 obtain ⟨j, hj, rfl⟩ := List.getElem_of_mem hq
 have hx : j < (dxs (dS s) 0).length := by rw [dS_0, List.length_map]; exact hj
 have hg := hE.get j (by rw [hE.len]; exact hx) hx
 have e : (dxs (dS s) 0)[j] = s.players[j].enc.map Tr.d := by simp only [dS_0, List.getElem_map]
 rw [e] at hg
 exact ⟨one 12 hg rfl ((dxs_map (k := 1) (xs := s.players[j].hand.map encI) rfl).trans (List.map_map ..)), one 11 hg rfl ((dxs_map (k := 1) (xs := s.players[j].library.map encI) rfl).trans (List.map_map ..)), one 13 hg rfl ((dxs_map (k := 1) (xs := s.players[j].graveyard.map encI) rfl).trans (List.map_map ..))⟩
/-- A state argument. -/
theorem st_open {F : Nat → Prop} {w : World} {cs : List Value} {es : List D} (h : RdL F reachBytes w kState cs es) : ∃ s : GState, s.ok ∧ Tight s ∧ RTL F w cs s.enc := by
 have h2 : RdL F limB w GState.ks cs es := by
  rw [ks_state]
  exact h.frame (by decide) (Nat.le_refl _) (fun _ _ _ => rfl) (fun _ h _ => h)
 obtain ⟨ts, h3, h4, h5⟩ := rdL_rt h2
 obtain ⟨s, h6, rfl⟩ := GState.of_fit ts h3
 subst h4
 exact ⟨s, h6, rd_tight h, h5⟩
theorem law_of_ct {P : Program} {f : FuncId} {ax : List AV} {b : Bool} (h : Ct P f ax (AV.b true) [] b) {w : World} {vs : List Value} {E0 : Env} (ha : A2 (R1 E0 w) vs ax) : Calls P f vs.toArray w fun e w' => e = .returned (.bool true) ∧ Below w.heap.size w w' := by
 refine (h.run w vs E0 ha).mono ?_
 rintro e w' ⟨v, rfl, hb, E, hr, _⟩
 obtain rfl := bool_arg (E0 := E) (w := w') hr
 exact ⟨rfl, hb⟩
def FairM (s : GState) : Prop := s.objects.length ≤ 200 ∧ s.players.length ≤ 8 ∧ -1099511627776 < s.nextId ∧ s.nextId < 1099511627776 ∧ -1099511627776 < s.nextStamp ∧ s.nextStamp < 1099511627776
instance (s : GState) : Decidable (FairM s) := by unfold FairM; exact inferInstance
theorem fair_eq (s : GState) : fairP (dS s) ↔ FairM s := by
 unfold fairP FairM
 rw [dS_0, dS_1, dS_13, dS_14, List.length_map, List.length_map]
theorem FairM.wrap {s : GState} (h : FairM s) : IntKind.i64.wrap (s.nextId + 1) = s.nextId + 1 ∧ IntKind.i64.wrap (s.nextStamp + 1) = s.nextStamp + 1 := by
 obtain ⟨_, _, h1, h2, h3, h4⟩ := h
 rw [IntKind.wrap_i64, IntKind.wrap_i64]
 omega
theorem fair_ct (s : GState) (hs : s.ok) : Ct Try.prog 10 [.agg (s.enc.map .t)] (AV.b (decide (FairM s))) [] true := by
 refine Ct.lit (b := false) ?_ rfl
 refine ⟨enters_of Try.func10 (by kernel_rfl) rfl, Nat.zero_le _, rfl, (resB_ok (rs := []) rfl).1, (resB_ok (rs := []) rfl).2, fun w vs E0 ha => ?_⟩
 cases ha with
 | cons h1 h2 =>
  cases h2
  obtain ⟨cs, rfl, h0⟩ := h1
  refine (fair_prog E0.F limB cs (dS s) w (st_arg hs h0) limL).mono ?_
  rintro e w' ⟨rfl, hb⟩
  refine ⟨_, rfl, hb, envOf fun _ => False, ?_, fun j R hj => (by simp at hj), fun b hb hc => (envOf_cold.1 hc).elim⟩
  rw [decide_eq_decide.2 (fair_eq s)]
  exact RT.lit rfl
theorem alive_ct : Ct Try.prog 11 [] (AV.b true) [] true := by
 refine Ct.lit (b := false) ?_ rfl
 refine ⟨enters_of Try.func11 (by kernel_rfl) rfl, Nat.zero_le _, rfl, (resB_ok (rs := []) rfl).1, (resB_ok (rs := []) rfl).2, fun w vs E0 ha => ?_⟩
 cases ha
 refine (alive_prog w).mono ?_
 rintro e w' ⟨rfl, hb⟩
 exact ⟨_, rfl, hb, envOf fun _ => False, RT.lit rfl, fun j R hj => (by simp at hj), fun b hb hc => (envOf_cold.1 hc).elim⟩
def encWay (id z p : Int) (bottom : Bool) : List Tr := [iv id, iv z, iv p, bv bottom]
theorem ob_open {F : Nat → Prop} {L : Nat} {w : World} {cs : List Value} {es : List D} (h : RdL F L w kObject cs es) : ∃ o : GObject, RTL F w cs o.enc := by
 have h2 : RdL F limB w GObject.ks cs es := by
  rw [ks_object]
  exact h.any flat_obj
 obtain ⟨ts, h3, _, h5⟩ := rdL_rt h2
 obtain ⟨o, _, rfl⟩ := GObject.of_fit ts h3
 exact ⟨o, h5⟩
theorem flat_way : flatK kWay := fun k hk => by
 have : k ∈ [K.lit .int, K.lit .int, K.lit .int, K.lit .bool] := hk
 simp only [List.mem_cons, List.not_mem_nil, or_false] at this
 rcases this with rfl | rfl | rfl | rfl <;> exact ⟨_, rfl⟩
theorem way_open {F : Nat → Prop} {L : Nat} {w : World} {cs : List Value} {es : List D} (h : RdL F L w kWay cs es) : ∃ id z p bottom, RTL F w cs (encWay id z p bottom) := by
 have h2 : RdL F limB w [K.lit .int, K.lit .int, K.lit .int, K.lit .bool] cs es := h.any flat_way
 obtain ⟨ts, h3, _, h5⟩ := rdL_rt h2
 obtain ⟨_, _, rfl, k1, q1⟩ := fitS_cons.1 h3
 obtain ⟨a1, rfl⟩ := fitK_int.1 k1
 obtain ⟨_, _, rfl, k2, q2⟩ := fitS_cons.1 q1
 obtain ⟨a2, rfl⟩ := fitK_int.1 k2
 obtain ⟨_, _, rfl, k3, q3⟩ := fitS_cons.1 q2
 obtain ⟨a3, rfl⟩ := fitK_int.1 k3
 obtain ⟨_, _, rfl, k4, q4⟩ := fitS_cons.1 q3
 obtain ⟨a4, rfl⟩ := fitK_bool.1 k4
 obtain rfl := fitS_nil.1 q4
 exact ⟨a1, a2, a3, a4, h5⟩
theorem ag_env {F : Nat → Prop} {w : World} {cs : List Value} {ts : List Tr} (h : RTL F w cs ts) : R1 (envOf F) w (.agg cs.toArray) (.agg (ts.map .t)) := ⟨cs, rfl, rtl_env h⟩
theorem int_env (F : Nat → Prop) (w : World) (n : Int) : R1 (envOf F) w (.int .i64 n) (.c (.t (iv n))) := RT.lit rfl
theorem zcases {z : Int} (h0 : 0 ≤ z) (h4 : z ≤ 4) : z = 0 ∨ z = 1 ∨ z = 2 ∨ z = 3 ∨ z = 4 := by omega
theorem list_setM (s : GState) (p : Nat) (hp : p < s.players.length) (z : Int) (h0 : 0 ≤ z) (h4 : z ≤ 4) (l : List Int) : listM (setM s z p l) z p = l ∧ ∀ k : Int, 0 ≤ k → k ≤ 4 → k ≠ z → listM (setM s z p l) k p = listM s k p := by
 have hn : ¬ ((p : Int) < 0) := by omega
 have hn1 : ¬ (s.players.length ≤ p) := by omega
 have hg : ∀ q : GPlayer, (s.players.set p q)[p]? = some q := fun q => by rw [List.getElem?_set_self hp]
 have hg0 : s.players[p]? = some s.players[p] := List.getElem?_eq_getElem hp
 refine ⟨?_, fun k hk0 hk4 hne => ?_⟩
 ·rcases zcases h0 h4 with rfl | rfl | rfl | rfl | rfl <;> simp [setM, listM, hn, hn1, hg0, hg, setP]
 ·rcases zcases h0 h4 with rfl | rfl | rfl | rfl | rfl <;> rcases zcases hk0 hk4 with rfl | rfl | rfl | rfl | rfl <;> first | exact absurd rfl hne | simp [setM, listM, hn, hn1, hg0, hg, setP]
end Go.Proofs.Ytiebjkbofoppaaa
end
section
namespace Go.Proofs.Ytiebjkbofoppaaa
open Go Cg Go.RowKit Go.Sort
def ObjOk (s : GState) (i : Nat) (o : GObject) : Prop := o.id < s.nextId ∧ (0 < i → ∃ q : GObject, s.objects[i - 1]? = some q ∧ q.id < o.id) ∧ 1 ≤ o.id ∧ 0 ≤ o.owner ∧ o.owner < s.players.length ∧ 0 ≤ o.zone ∧ o.zone < 5 ∧ (whereM s o.id).2.2 = true
structure ValidM (s : GState) : Prop where
 lists : ∀ z p : Nat, z ≤ 4 → p < s.players.length → ∀ i ∈ listM s z p, i < s.nextId
 objs : ∀ (i : Nat) (h : i < s.objects.length), ObjOk s i s.objects[i]
theorem ValidM.rise {s : GState} (h : ValidM s) : ∀ (b a : Nat) (hb : b < s.objects.length) (hab : a < b), (s.objects[a]'(Nat.lt_trans hab hb)).id < s.objects[b].id
 | 0, a, hb, hab => by omega
 | b + 1, a, hb, hab => by
  obtain ⟨_, h2, _⟩ := h.objs (b + 1) hb
  obtain ⟨q, h3, h4⟩ := h2 (by omega)
  have hb' : b < s.objects.length := by omega
  rw [show b + 1 - 1 = b by omega, List.getElem?_eq_getElem hb'] at h3
  cases h3
  by_cases e : a = b
  ·subst e; exact h4
  ·exact Int.lt_trans (ValidM.rise h b a hb' (by omega)) h4
theorem ValidM.one {s : GState} (h : ValidM s) {a b : Nat} (ha : a < s.objects.length) (hb : b < s.objects.length) (e : s.objects[a].id = s.objects[b].id) : a = b := by
 rcases Nat.lt_trichotomy a b with h1 | h1 | h1
 ·have := h.rise b a hb h1; omega
 ·exact h1
 ·have := h.rise a b ha h1; omega
theorem find_some {l : List GObject} {j : Nat} (hj : j < l.length) (hone : ∀ (k : Nat) (hk : k < l.length), l[k].id = l[j].id → k = j) : l.find? (fun x => x.id == l[j].id) = some l[j] := by
 rw [List.find?_eq_some_iff_getElem]
 refine ⟨by simp, j, hj, rfl, fun k hk => ?_⟩
 have : ¬ l[k].id = l[j].id := fun e => absurd (hone k (by omega) e) (by omega)
 simpa using this
/-- The objects but the one at place i. -/
def outL (l : List GObject) (i : Nat) : List GObject := l.take i ++ l.drop (i + 1)
theorem outL_len (l : List GObject) (i : Nat) (hi : i < l.length) : (outL l i).length + 1 = l.length := by
 unfold outL
 simp only [List.length_append, List.length_take, List.length_drop]
 omega
theorem outL_mem {l : List GObject} {i : Nat} {x : GObject} (h : x ∈ outL l i) : ∃ k, ∃ hk : k < l.length, k ≠ i ∧ l[k] = x := by
 rcases List.mem_append.1 h with h | h
 ·obtain ⟨k, hk, e⟩ := List.getElem_of_mem h
  rw [List.length_take] at hk
  rw [List.getElem_take] at e
  exact ⟨k, by omega, by omega, e⟩
 ·obtain ⟨k, hk, e⟩ := List.getElem_of_mem h
  rw [List.length_drop] at hk
  rw [List.getElem_drop] at e
  exact ⟨i + 1 + k, by omega, by omega, e⟩
theorem outL_find {s : GState} (h : ValidM s) {i j : Nat} (hi : i < s.objects.length) (hj : j < s.objects.length) (hne : j ≠ i) : (outL s.objects i).find? (fun x => x.id == s.objects[j].id) = some s.objects[j] := by
 have hm : s.objects[j] ∈ outL s.objects i := by
  unfold outL
  rcases Nat.lt_or_ge j i with h1 | h1
  ·exact List.mem_append_left _ (List.mem_iff_getElem.2 ⟨j, by rw [List.length_take]; omega, by rw [List.getElem_take]⟩)
  ·refine List.mem_append_right _ (List.mem_iff_getElem.2 ⟨j - (i + 1), by rw [List.length_drop]; omega, ?_⟩)
   rw [List.getElem_drop]
   congr 1
   omega
 cases hf : (outL s.objects i).find? fun x => x.id == s.objects[j].id with
 | none =>
  have := List.find?_eq_none.1 hf _ hm
  simp at this
 | some y =>
  have h1 := List.find?_some hf
  obtain ⟨k, hk, _, rfl⟩ := outL_mem (List.mem_of_find?_eq_some hf)
  have h1 : s.objects[k].id = s.objects[j].id := by simpa using h1
  obtain rfl := h.one hk hj h1
  rfl
theorem outL_gone {s : GState} (h : ValidM s) {i : Nat} (hi : i < s.objects.length) : (outL s.objects i).find? (fun x => x.id == s.objects[i].id) = none := by
 rw [List.find?_eq_none]
 intro x hx
 obtain ⟨k, hk, hne, rfl⟩ := outL_mem hx
 simp only [beq_iff_eq]
 exact fun e => hne (h.one hk hi e)
theorem putL_last {l : List GObject} {x : GObject} (h : ∀ y ∈ l, y.id < x.id) : putL l x = l ++ [x] := by
 unfold putL
 have e : l.findIdx? (fun y => y.id == x.id) = none := List.findIdx?_eq_none_iff.2 fun y hy => by
  have := h y hy
  simp only [beq_eq_false_iff_ne, ne_eq]
  omega
 rw [e]
 show insM l x = _
 unfold insM
 have e2 : (l.takeWhile fun y => decide (y.id < x.id)).length = l.length := takeWhile_len _ l l.length (Nat.le_refl _) (fun j hj _ => decide_eq_true (h _ (List.getElem_mem hj))) (.inl rfl)
 rw [e2, List.take_length, List.drop_length, List.append_nil]
theorem out_lt {s : GState} (h : ValidM s) (i : Nat) : ∀ y ∈ outL s.objects i, y.id < s.nextId := fun y hy => by
 obtain ⟨k, hk, _, rfl⟩ := outL_mem hy
 exact (h.objs k hk).1
/-- The list of a zone of a state from which an object was taken has old ids only. -/
theorem rem_old {s : GState} (h : ValidM s) (id : Int) (i : Nat) (o : GObject) (z : Int) (h0 : 0 ≤ z) (h4 : z ≤ 4) (ho0 : 0 ≤ o.owner) (ho1 : o.owner < s.players.length) (hz0 : 0 ≤ o.zone) (hz4 : o.zone < 5) : ∀ x ∈ listM (remM s id i o) z o.owner, x < s.nextId := by
 obtain ⟨p, hp⟩ : ∃ p : Nat, o.owner = p := ⟨o.owner.toNat, by omega⟩
 have hp1 : p < s.players.length := by omega
 have old : ∀ (k : Int), 0 ≤ k → k ≤ 4 → ∀ x ∈ listM s k p, x < s.nextId := fun k k0 k4 => by
  obtain ⟨n, rfl⟩ : ∃ n : Nat, k = n := ⟨k.toNat, by omega⟩
  exact h.lists n p (by omega) hp1
 have e : listM (remM s id i o) z o.owner = listM (setM s o.zone o.owner ((listM s o.zone o.owner).filter fun i => i != id)) z o.owner := rfl
 rw [e, hp]
 have hs := list_setM s p hp1 o.zone hz0 (by omega) ((listM s o.zone p).filter fun i => i != id)
 by_cases hz : z = o.zone
 ·rw [hz, hs.1]
  exact fun x hx => old o.zone hz0 (by omega) x (List.mem_filter.1 hx).1
 ·rw [hs.2 z h0 h4 hz]
  exact old z h0 h4
theorem fidx_last {l : List Int} {n : Int} (h : ∀ x ∈ l, x < n) : fidx (fun x => x == n) (l ++ [n]) = l.length := by
 refine fidx_hit _ _ l.length (by simp) (by simp) fun j hj hjl => ?_
 rw [List.getElem_append_left hjl]
 have := h _ (List.getElem_mem hjl)
 simp only [beq_eq_false_iff_ne, ne_eq]
 omega
theorem fidx_first (l : List Int) (n : Int) : fidx (fun x => x == n) (n :: l) = 0 := fidx_hit _ _ 0 (by simp) (by simp) fun j _ hj => by omega
theorem where_eq (T : GState) (n : Int) (m : GObject) (h1 : hasM T.objects n = true) (h2 : findM T.objects n = m) (h5 : m.zone ≠ 5) : whereM T n = if fidx (fun x => x == n) (listM T m.zone m.owner) < 0 then (0, 0, false) else (m.zone, fidx (fun x => x == n) (listM T m.zone m.owner), true) := by
 have e : whereI (dS T) (dO m) n = fidx (fun x => x == n) (listM T m.zone m.owner) := by
  unfold whereI
  rw [dO_2, dO_4, if_neg (by simpa using h5), list_eq]
  exact fidx_map _ _ _ _ fun x => by rw [dN_0]
 unfold whereM whereT
 rw [has_eq, h1, if_pos rfl, find_eq, h2, e, dO_4]
/-- What the law wants of a moved state. -/
structure MovedOk (s : GState) (o : GObject) (z : Int) (bottom : Bool) (T : GState) (n : Int) : Prop where
 gone : hasM T.objects o.id = false
 rest : ∀ (j : Nat) (hj : j < s.objects.length), s.objects[j].id ≠ o.id → findM T.objects s.objects[j].id = s.objects[j] ∧ hasM T.objects s.objects[j].id = true
 token : o.token = true → z ≠ 0 → n = 0 ∧ T.objects.length + 1 = s.objects.length ∧ T.nextId = s.nextId
 other : ¬ (o.token = true ∧ z ≠ 0) → n = s.nextId ∧ T.nextId = IntKind.i64.wrap (s.nextId + 1) ∧ T.objects.length = s.objects.length ∧ ∃ m, findM T.objects n = m ∧ hasM T.objects n = true ∧ m.card = o.card ∧ m.owner = o.owner ∧ m.token = o.token ∧ m.zone = z ∧
  ∃ (at_ : Int) (L : List Int), whereM T n = (z, at_, true) ∧ listM T z o.owner = L ∧ 0 < L.length ∧ at_ = if (z == 2 && !bottom) = true then 0 else (L.length : Int) - 1
theorem hasM_none {l : List GObject} {n : Int} (h : l.find? (fun x => x.id == n) = none) : hasM l n = false := by unfold hasM; rw [h]; rfl
theorem findM_some {l : List GObject} {n : Int} {x : GObject} (h : l.find? (fun x => x.id == n) = some x) : findM l n = x ∧ hasM l n = true := by
 unfold findM hasM
 rw [h]
 exact ⟨rfl, rfl⟩
theorem moved_ok (s : GState) (hF : FairM s) (hv : ValidM s) (i : Nat) (hi : i < s.objects.length) (z p : Int) (bottom : Bool) (h0 : 0 ≤ z) (h4 : z ≤ 4) (e : s.objects.findIdx? (fun o => o.id == s.objects[i].id) = some i) : MovedOk s s.objects[i] z bottom (moveM s s.objects[i].id z p bottom).1 (moveM s s.objects[i].id z p bottom).2 := by
 rw [moveM_some s _ z p bottom i hi e]
 unfold mvFound
 rw [if_neg (by omega)]
 obtain ⟨k1, _, k3, k4, k5, k6, k7, _⟩ := hv.objs i hi
 by_cases ht : s.objects[i].token = true ∧ z ≠ 0
 ·rw [if_pos ⟨ht.1, by simpa using ht.2, by simp only [bne_iff_ne, ne_eq]; omega⟩]
  have eo : (remM s s.objects[i].id i s.objects[i]).objects = outL s.objects i := rfl
  have en : (remM s s.objects[i].id i s.objects[i]).nextId = s.nextId := (setM_next s _ _ _).1
  exact ⟨hasM_none (by rw [eo]; exact outL_gone hv hi), fun j hj hne => findM_some (by rw [eo]; exact outL_find hv hi hj fun h => hne (by subst h; rfl)), fun _ _ => ⟨rfl, by rw [eo]; exact outL_len _ _ hi, en⟩, fun h => absurd ht h⟩
 rw [if_neg (fun h => ht ⟨h.1, by simpa using h.2.1⟩)]
 have hn : (remM s s.objects[i].id i s.objects[i]).nextId = s.nextId := (setM_next s _ _ _).1
 have hxi : (mvNew (remM s s.objects[i].id i s.objects[i]) s.objects[i] z p).id = s.nextId := hn
 have hxo : (mvNew (remM s s.objects[i].id i s.objects[i]) s.objects[i] z p).owner = s.objects[i].owner := rfl
 have hxc : (mvNew (remM s s.objects[i].id i s.objects[i]) s.objects[i] z p).card = s.objects[i].card := rfl
 have hxt : (mvNew (remM s s.objects[i].id i s.objects[i]) s.objects[i] z p).token = s.objects[i].token := rfl
 have hxz : (mvNew (remM s s.objects[i].id i s.objects[i]) s.objects[i] z p).zone = z := rfl
 have eo : (remM s s.objects[i].id i s.objects[i]).objects = outL s.objects i := rfl
 have hold := rem_old hv s.objects[i].id i s.objects[i] z h0 h4 k4 k5 k6 k7
 have hlen : (remM s s.objects[i].id i s.objects[i]).players.length = s.players.length := by
  show (setM s _ _ _).players.length = _
  unfold setM
  split
  ·rfl
  split
  ·rfl
  split
  ·rfl
  split
  ·exact List.length_set
  ·rfl
 generalize mvNew (remM s s.objects[i].id i s.objects[i]) s.objects[i] z p = x at hxi hxo hxc hxt hxz
 generalize remM s s.objects[i].id i s.objects[i] = R at hn eo hold hlen
 have hp : putL R.objects x = outL s.objects i ++ [x] := by
  rw [eo]
  exact putL_last fun y hy => by rw [hxi]; exact out_lt hv i y hy
 have hQo : (putM R x).objects = outL s.objects i ++ [x] := hp
 have hQn : (putM R x).nextId = s.nextId := hn
 have hQl : ∀ k q, listM (putM R x) k q = listM R k q := fun _ _ => rfl
 have hQp : (putM R x).players.length = s.players.length := hlen
 generalize putM R x = Q at hQo hQn hQl hQp
 have hold : ∀ y ∈ listM Q z x.owner, y < s.nextId := by rw [hQl, hxo]; exact hold
 obtain ⟨q, hq⟩ : ∃ q : Nat, x.owner = q := ⟨x.owner.toNat, by omega⟩
 have hq1 : q < Q.players.length := by omega
 generalize hL : (if (z == 2 && !bottom) = true then x.id :: listM Q z x.owner else listM Q z x.owner ++ [x.id]) = L
 have hs := list_setM Q q hq1 z h0 h4 L
 have eT : mvEnd Q x z bottom = mvFin (setM Q z x.owner L) := by unfold mvEnd; rw [hL]
 rw [eT]
 have eTo : (mvFin (setM Q z x.owner L)).objects = outL s.objects i ++ [x] := by
  show (setM Q z x.owner L).objects = _
  rw [setM_objects, hQo]
 have eTn : (mvFin (setM Q z x.owner L)).nextId = IntKind.i64.wrap (s.nextId + 1) := by
  show IntKind.i64.wrap ((setM Q z x.owner L).nextId + 1) = _
  rw [(setM_next Q _ _ _).1, hQn]
 have eTl : listM (mvFin (setM Q z x.owner L)) z x.owner = L := by
  show listM (setM Q z x.owner L) z x.owner = L
  rw [hq]
  exact hs.1
 generalize mvFin (setM Q z x.owner L) = T at eTo eTn eTl
 have hfx : T.objects.find? (fun y => y.id == x.id) = some x := by
  rw [eTo, List.find?_append, List.find?_eq_none.2 (fun y hy => by
   have := out_lt hv i y hy
   simp only [beq_iff_eq]
   omega)]
  simp
 refine ⟨hasM_none ?_, fun j hj hne => findM_some ?_, fun h1 h2 => absurd ⟨h1, h2⟩ ht, fun _ => ⟨hxi, eTn, ?_, x, (findM_some hfx).1, (findM_some hfx).2, hxc, hxo, hxt, hxz, ?_⟩⟩
 ·rw [eTo, List.find?_append, outL_gone hv hi]
  have : ¬ x.id = s.objects[i].id := by omega
  simp [this]
 ·rw [eTo, List.find?_append, outL_find hv hi hj fun h => hne (by subst h; rfl)]
  rfl
 ·rw [eTo, List.length_append, List.length_singleton]
  exact outL_len _ _ hi
 ·have hw := where_eq T x.id x (findM_some hfx).2 (findM_some hfx).1 (by omega)
  rw [hxz, eTl] at hw
  have hfi : fidx (fun y => y == x.id) L = if (z == 2 && !bottom) = true then 0 else (L.length : Int) - 1 := by
   rw [← hL]
   split
   ·exact fidx_first _ _
   ·rw [fidx_last (by rw [hxi]; exact hold), List.length_append, List.length_singleton]
    omega
  have hLp : 0 < L.length := by
   rw [← hL]
   split <;> simp
  rw [hfi, if_neg (by split <;> omega)] at hw
  exact ⟨_, L, hw, by rw [← hxo]; exact eTl, hLp, rfl⟩
end Go.Proofs.Ytiebjkbofoppaaa
end
