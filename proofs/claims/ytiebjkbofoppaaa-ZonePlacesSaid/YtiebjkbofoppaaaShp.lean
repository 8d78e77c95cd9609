/- Nested structs and slices, read out of memory as trees, by the shape of the type; no program in sight. -/
import Derived.Test.YtiebjkbofoppaaaRowK
namespace Cg
open Go Go.RowKit Go.Sort Go.Lib
/-- What a cell of no slice holds. -/
inductive Lk where
  | int
  | u64
  | bool
  | str
deriving DecidableEq
/-- What a cell holds. -/
inductive K where
  | lit (k : Lk)
  | sl (e : List K) (bytes : Nat)
/-- What is read. -/
inductive D where
  | lit (v : Value)
  | sl (xs : List (List D))
instance : Inhabited D := ⟨.sl []⟩
def isLit : Lk → Value → Prop
  | .int, v => ∃ n, v = .int .i64 n
  | .u64, v => ∃ n, v = .int .u64 n
  | .bool, v => ∃ b, v = .bool b
  | .str, v => ∃ s, v = .string s
mutual
/-- One cell's value reads as a tree; F: in which blocks slices may lie; L: how many bytes a slice may have. -/
inductive RdC (F : Nat → Prop) (L : Nat) (w : World) : K → Value → D → Prop
  | lit {k : Lk} {v : Value} : isLit k v → RdC F L w (.lit k) v (.lit v)
  | slNil {e : List K} {by_ : Nat} {ao : Option Addr} {cap : Nat} : (ao = none → cap = 0) → RdC F L w (.sl e by_) (.slice ao 0 cap) (.sl [])
  | slSome {e : List K} {by_ b o cap n : Nat} {xs : List (List D)} : n = xs.length → n ≤ cap → n * by_ ≤ L → F b → b < w.heap.size → RdE F L w e b o xs → RdC F L w (.sl e by_) (.slice (some ⟨b, o, none⟩) n cap) (.sl xs)
/-- The values of many cells. -/
inductive RdL (F : Nat → Prop) (L : Nat) (w : World) : List K → List Value → List D → Prop
  | nil : RdL F L w [] [] []
  | cons {k : K} {v : Value} {d : D} {ks : List K} {vs : List Value} {ds : List D} : RdC F L w k v d → RdL F L w ks vs ds → RdL F L w (k :: ks) (v :: vs) (d :: ds)
/-- The elements that lie in block b from offset o on. -/
inductive RdE (F : Nat → Prop) (L : Nat) (w : World) : List K → Nat → Nat → List (List D) → Prop
  | nil {e : List K} {b o : Nat} : RdE F L w e b o []
  | cons {e : List K} {b o : Nat} {vs : List Value} {ds : List D} {xs : List (List D)} : (∀ (i : Nat) u, vs[i]? = some u → w.cell? ⟨b, o + i, none⟩ = some u) → RdL F L w e vs ds → RdE F L w e b (o + e.length) xs → RdE F L w e b o (ds :: xs)
end
/-- Reading anew where the blocks read are as they were. -/
theorem RdC.frame {F G : Nat → Prop} {L M : Nat} {w w' : World} (hLM : L ≤ M) (hs : w.heap.size ≤ w'.heap.size) (hb : ∀ b, F b → b < w.heap.size → w'.heap[b]? = w.heap[b]?) (hFG : ∀ b, F b → b < w.heap.size → G b) {k : K} {v : Value} {d : D} (h : RdC F L w k v d) : RdC G M w' k v d := by
  refine RdC.rec (motive_1 := fun k v d _ => RdC G M w' k v d) (motive_2 := fun ks vs ds _ => RdL G M w' ks vs ds) (motive_3 := fun e b o xs _ => F b → b < w.heap.size → RdE G M w' e b o xs) ?_ ?_ ?_ ?_ ?_ ?_ ?_ h
  · exact fun hl => .lit hl
  · exact fun hc => .slNil hc
  · exact fun h1 h2 h5 h3 h4 _ ih => .slSome h1 h2 (Nat.le_trans h5 hLM) (hFG _ h3 h4) (Nat.lt_of_lt_of_le h4 hs) (ih h3 h4)
  · exact .nil
  · exact fun _ _ ih1 ih2 => .cons ih1 ih2
  · exact fun _ _ => .nil
  · exact fun hc _ _ ih1 ih2 hF hlt => .cons (fun i u hu => (World.cell?_of_block (a := ⟨_, _, none⟩) (hb _ hF hlt)).trans (hc i u hu)) ih1 (ih2 hF hlt)
theorem RdL.frame {F G : Nat → Prop} {L M : Nat} {w w' : World} (hLM : L ≤ M) (hs : w.heap.size ≤ w'.heap.size) (hb : ∀ b, F b → b < w.heap.size → w'.heap[b]? = w.heap[b]?) (hFG : ∀ b, F b → b < w.heap.size → G b) : ∀ {ks : List K} {vs : List Value} {ds : List D}, RdL F L w ks vs ds → RdL G M w' ks vs ds
  | _, _, _, .nil => .nil
  | _, _, _, .cons h1 h2 => .cons (h1.frame hLM hs hb hFG) (RdL.frame hLM hs hb hFG h2)
theorem RdE.frame {F G : Nat → Prop} {L M : Nat} {w w' : World} (hLM : L ≤ M) (hs : w.heap.size ≤ w'.heap.size) (hb : ∀ b, F b → b < w.heap.size → w'.heap[b]? = w.heap[b]?) (hFG : ∀ b, F b → b < w.heap.size → G b) {e : List K} {b : Nat} (hF : F b) (hlt : b < w.heap.size) : ∀ {xs : List (List D)} {o : Nat}, RdE F L w e b o xs → RdE G M w' e b o xs
  | _, _, .nil => .nil
  | _, _, .cons hc h1 h2 => .cons (fun i u hu => (World.cell?_of_block (a := ⟨_, _, none⟩) (hb _ hF hlt)).trans (hc i u hu)) (h1.frame hLM hs hb hFG) (RdE.frame hLM hs hb hFG hF hlt h2)
theorem RdL.old {F : Nat → Prop} {L : Nat} {w w' : World} {ks : List K} {vs : List Value} {ds : List D} (h : RdL F L w ks vs ds) (hb : Below w.heap.size w w') : RdL F L w' ks vs ds := h.frame (Nat.le_refl _) hb.size (fun b _ hlt => hb.block b hlt) (fun _ h _ => h)
theorem RdC.old {F : Nat → Prop} {L : Nat} {w w' : World} {k : K} {v : Value} {d : D} (h : RdC F L w k v d) (hb : Below w.heap.size w w') : RdC F L w' k v d := h.frame (Nat.le_refl _) hb.size (fun b _ hlt => hb.block b hlt) (fun _ h _ => h)
theorem RdL.imp {F G : Nat → Prop} {L : Nat} {w : World} {ks : List K} {vs : List Value} {ds : List D} (h : RdL F L w ks vs ds) (hFG : ∀ b, F b → b < w.heap.size → G b) : RdL G L w ks vs ds := h.frame (Nat.le_refl _) (Nat.le_refl _) (fun _ _ _ => rfl) hFG
theorem RdC.imp {F G : Nat → Prop} {L : Nat} {w : World} {k : K} {v : Value} {d : D} (h : RdC F L w k v d) (hFG : ∀ b, F b → b < w.heap.size → G b) : RdC G L w k v d := h.frame (Nat.le_refl _) (Nat.le_refl _) (fun _ _ _ => rfl) hFG
theorem RdL.len {F : Nat → Prop} {L : Nat} {w : World} : ∀ {ks : List K} {vs : List Value} {ds : List D}, RdL F L w ks vs ds → vs.length = ks.length ∧ ds.length = ks.length
  | _, _, _, .nil => ⟨rfl, rfl⟩
  | _, _, _, .cons _ h => by have := RdL.len h; simp [this.1, this.2]
theorem RdL.get {F : Nat → Prop} {L : Nat} {w : World} : ∀ {ks : List K} {vs : List Value} {ds : List D}, RdL F L w ks vs ds → ∀ (i : Nat) k, ks[i]? = some k → ∃ v d, vs[i]? = some v ∧ ds[i]? = some d ∧ RdC F L w k v d
  | _, _, _, .cons h _, 0, k, hk => by
    obtain rfl := Option.some.inj hk
    exact ⟨_, _, rfl, rfl, h⟩
  | _, _, _, .cons _ h, i + 1, k, hk => RdL.get h i k hk
theorem RdL.set {F : Nat → Prop} {L : Nat} {w : World} : ∀ {ks : List K} {vs : List Value} {ds : List D}, RdL F L w ks vs ds → ∀ (i : Nat) k v d, ks[i]? = some k → RdC F L w k v d → RdL F L w ks (vs.set i v) (ds.set i d)
  | _, _, _, .cons _ h2, 0, k, v, d, hk, hc => by
    obtain rfl := Option.some.inj hk
    exact .cons hc h2
  | _, _, _, .cons h1 h2, i + 1, k, v, d, hk, hc => .cons h1 (RdL.set h2 i k v d hk hc)
theorem RdE.get {F : Nat → Prop} {L : Nat} {w : World} {e : List K} {b : Nat} : ∀ {xs : List (List D)} {o : Nat}, RdE F L w e b o xs → ∀ (j : Nat) ds, xs[j]? = some ds → ∃ vs, (∀ (i : Nat) u, vs[i]? = some u → w.cell? ⟨b, o + j * e.length + i, none⟩ = some u) ∧ RdL F L w e vs ds
  | _, _, .cons hc h1 _, 0, ds, hd => by
    obtain rfl := Option.some.inj hd
    exact ⟨_, fun i u hu => by rw [Nat.zero_mul, Nat.add_zero]; exact hc i u hu, h1⟩
  | _, o, .cons _ _ h2, j + 1, ds, hd => by
    obtain ⟨vs, h3, h4⟩ := RdE.get h2 j ds hd
    refine ⟨vs, fun i u hu => ?_, h4⟩
    have := h3 i u hu
    rwa [show o + e.length + j * e.length + i = o + (j + 1) * e.length + i by rw [Nat.add_mul]; omega] at this
theorem RdE.mk {F : Nat → Prop} {L : Nat} {w : World} {e : List K} {b : Nat} : ∀ (xs : List (List D)) (o : Nat), (∀ (j : Nat) ds, xs[j]? = some ds → ∃ vs, (∀ (i : Nat) u, vs[i]? = some u → w.cell? ⟨b, o + j * e.length + i, none⟩ = some u) ∧ RdL F L w e vs ds) → RdE F L w e b o xs
  | [], _, _ => .nil
  | ds :: xs, o, h => by
    obtain ⟨vs, h1, h2⟩ := h 0 ds rfl
    refine .cons (fun i u hu => by have := h1 i u hu; rwa [Nat.zero_mul, Nat.add_zero] at this) h2 (RdE.mk xs (o + e.length) fun j ds' hj => ?_)
    obtain ⟨vs', h3, h4⟩ := h (j + 1) ds' hj
    refine ⟨vs', fun i u hu => ?_, h4⟩
    have := h3 i u hu
    rwa [show o + (j + 1) * e.length + i = o + e.length + j * e.length + i by rw [Nat.add_mul]; omega] at this
theorem RdL.append {F : Nat → Prop} {L : Nat} {w : World} : ∀ {ks : List K} {vs : List Value} {ds : List D} {ks' : List K} {vs' : List Value} {ds' : List D}, RdL F L w ks vs ds → RdL F L w ks' vs' ds' → RdL F L w (ks ++ ks') (vs ++ vs') (ds ++ ds')
  | _, _, _, _, _, _, .nil, h => h
  | _, _, _, _, _, _, .cons h1 h2, h => .cons h1 (RdL.append h2 h)
theorem RdL.take {F : Nat → Prop} {L : Nat} {w : World} : ∀ {ks : List K} {vs : List Value} {ds : List D}, RdL F L w ks vs ds → ∀ n, RdL F L w (ks.take n) (vs.take n) (ds.take n)
  | _, _, _, .nil, n => by simpa using RdL.nil
  | _, _, _, .cons h1 h2, 0 => .nil
  | _, _, _, .cons h1 h2, n + 1 => .cons h1 (RdL.take h2 n)
theorem RdL.drop {F : Nat → Prop} {L : Nat} {w : World} : ∀ {ks : List K} {vs : List Value} {ds : List D}, RdL F L w ks vs ds → ∀ n, RdL F L w (ks.drop n) (vs.drop n) (ds.drop n)
  | _, _, _, .nil, n => by simpa using RdL.nil
  | _, _, _, .cons h1 h2, 0 => .cons h1 h2
  | _, _, _, .cons _ h2, n + 1 => RdL.drop h2 n
/-- The number that a list of cells reads as at i. -/
def dint (ds : List D) (i : Nat) : Int := match ds[i]? with
  | some (.lit (.int _ n)) => n
  | _ => 0
def dbool (ds : List D) (i : Nat) : Bool := match ds[i]? with
  | some (.lit (.bool b)) => b
  | _ => false
def dxs (ds : List D) (i : Nat) : List (List D) := match ds[i]? with
  | some (.sl xs) => xs
  | _ => []
theorem RdL.int {F : Nat → Prop} {L : Nat} {w : World} {ks : List K} {vs : List Value} {ds : List D} (h : RdL F L w ks vs ds) (i : Nat) (hk : ks[i]? = some (.lit .int)) : vs[i]? = some (.int .i64 (dint ds i)) ∧ ds[i]? = some (.lit (.int .i64 (dint ds i))) := by
  obtain ⟨v, d, hv, hd, hc⟩ := h.get i _ hk
  cases hc with
  | lit hl =>
    obtain ⟨n, rfl⟩ := hl
    have e : dint ds i = n := by unfold dint; rw [hd]
    rw [e]
    exact ⟨hv, hd⟩
theorem RdL.bool {F : Nat → Prop} {L : Nat} {w : World} {ks : List K} {vs : List Value} {ds : List D} (h : RdL F L w ks vs ds) (i : Nat) (hk : ks[i]? = some (.lit .bool)) : vs[i]? = some (.bool (dbool ds i)) ∧ ds[i]? = some (.lit (.bool (dbool ds i))) := by
  obtain ⟨v, d, hv, hd, hc⟩ := h.get i _ hk
  cases hc with
  | lit hl =>
    obtain ⟨n, rfl⟩ := hl
    have e : dbool ds i = n := by unfold dbool; rw [hd]
    rw [e]
    exact ⟨hv, hd⟩
theorem RdL.sl {F : Nat → Prop} {L : Nat} {w : World} {ks : List K} {vs : List Value} {ds : List D} (h : RdL F L w ks vs ds) (i : Nat) (e : List K) (by_ : Nat) (hk : ks[i]? = some (.sl e by_)) : ∃ v, vs[i]? = some v ∧ ds[i]? = some (.sl (dxs ds i)) ∧ RdC F L w (.sl e by_) v (.sl (dxs ds i)) := by
  obtain ⟨v, d, hv, hd, hc⟩ := h.get i _ hk
  cases hc with
  | slNil hn =>
    have e : dxs ds i = [] := by unfold dxs; rw [hd]
    rw [e]
    exact ⟨_, hv, hd, .slNil hn⟩
  | slSome h1 h2 h6 h3 h4 h5 =>
    rename_i xs
    have e : dxs ds i = xs := by unfold dxs; rw [hd]
    rw [e]
    exact ⟨_, hv, hd, .slSome h1 h2 h6 h3 h4 h5⟩
/-- A slice as it stands in a slot. -/
theorem RdC.form {F : Nat → Prop} {L : Nat} {w : World} {e : List K} {by_ : Nat} {v : Value} {xs : List (List D)} (h : RdC F L w (.sl e by_) v (.sl xs)) : ∃ ao cap, v = .slice ao xs.length cap ∧ xs.length ≤ cap ∧ xs.length * by_ ≤ L ∧ (ao = none → cap = 0) ∧ (xs = [] ∨ ∃ b o, ao = some ⟨b, o, none⟩ ∧ F b ∧ b < w.heap.size ∧ RdE F L w e b o xs) := by
  cases h with
  | slNil hn => exact ⟨_, _, rfl, Nat.zero_le _, by simp, hn, .inl rfl⟩
  | slSome h1 h2 h6 h3 h4 h5 =>
    subst h1
    exact ⟨_, _, rfl, h2, h6, (fun h => by cases h), .inr ⟨_, _, rfl, h3, h4, h5⟩⟩
/-- The first index that fits, else -1. -/
def fidx {α : Type} (p : α → Bool) (xs : List α) : Int := match xs.findIdx? p with
  | some i => i
  | none => -1
theorem fidx_hit {α : Type} (p : α → Bool) (xs : List α) (k : Nat) (hk : k < xs.length) (hp : p xs[k] = true) (h : ∀ j (hj : j < xs.length), j < k → p xs[j] = false) : fidx p xs = k := by
  unfold fidx
  rw [List.findIdx?_eq_some_iff_getElem.2 ⟨hk, hp, fun j hj => by rw [h j (by omega) hj]; simp⟩]
theorem fidx_miss {α : Type} (p : α → Bool) (xs : List α) (h : ∀ j (hj : j < xs.length), p xs[j] = false) : fidx p xs = -1 := by
  unfold fidx
  rw [List.findIdx?_eq_none_iff.2 fun x hx => by
    obtain ⟨j, hj, rfl⟩ := List.getElem_of_mem hx
    rw [h j hj]]
/-- Shapes without slices. -/
def flatK (ks : List K) : Prop := ∀ k ∈ ks, ∃ l, k = .lit l
theorem RdL.flat {F : Nat → Prop} {L : Nat} {w : World} : ∀ {ks : List K} {vs : List Value} {ds : List D}, RdL F L w ks vs ds → flatK ks → ds = vs.map .lit
  | _, _, _, .nil, _ => rfl
  | _, _, _, .cons h1 h2, hf => by
    obtain ⟨l, hl⟩ := hf _ List.mem_cons_self
    subst hl
    cases h1 with
    | lit _ => rw [List.map_cons, ← RdL.flat h2 (fun k hk => hf k (List.mem_cons_of_mem _ hk))]
theorem RdL.any {F G : Nat → Prop} {L M : Nat} {w w' : World} : ∀ {ks : List K} {vs : List Value} {ds : List D}, RdL F L w ks vs ds → flatK ks → RdL G M w' ks vs ds
  | _, _, _, .nil, _ => .nil
  | _, _, _, .cons h1 h2, hf => by
    obtain ⟨l, hl⟩ := hf _ List.mem_cons_self
    subst hl
    cases h1 with
    | lit hv => exact .cons (.lit hv) (RdL.any h2 (fun k hk => hf k (List.mem_cons_of_mem _ hk)))
end Cg
