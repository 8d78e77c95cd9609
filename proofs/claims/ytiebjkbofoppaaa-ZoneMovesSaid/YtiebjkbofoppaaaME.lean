/- Parts of the proof, joined: Evaluation on trees: contracts of functions, what must hold ahead of an operation, of a region, of code; Evaluation on trees: what stays when memory grows, when a variable or a row is written. No program in sight; Evaluation on trees: operations that only reckon do what they say. No program in sight; Evaluation on trees: operations that make or write memory do what they say. No program in sight; Evaluation on trees: elements of rows and slices, indexing, slicing. No program in sight; Evaluation on trees: places of elements, slicing, choosing. No program in sight; Evaluation on trees: slices made anew and grown. No program in sight; Evaluation on trees: slice literals and calls. No program in sight; Evaluation on trees: an operation's condition gives its doing; the doing is sound, and looks at little of the state. No program in sight; Evaluation on trees: an operation's doing hangs on little of the state. No program in sight; Evaluation on trees: regions. No program in sight; Evaluation on trees: regions whose operations come in any order that their edges allow. No program in sight; Evaluation on trees: code. No program in sight; Evaluation on trees: one state seen as another; the way into a function and out of it. No program in sight; Evaluation on trees: from a function's code to its contract; contracts in use. No program in sight. -/
import Derived.Test.YtiebjkbofoppaaaMD
import Derived.Deep.MidRow
import Derived.Laws.Slices
import Derived.Laws.StructEq
import Derived.Laws.Tables
import Derived.Laws.AppendOwnNone
import Derived.Lib.AppendZeros
import Derived.Great.BuildSlice
section
namespace Cg
open Go Go.RowKit Go.Sort Go.Lib
def Ce.plain : Ce → Bool
 | .t _ => true
 | .nil => true
 | .row _ _ => false
 | .bot => false
def AV.plain : AV → Bool
 | .c x => x.plain
 | .agg xs => xs.all Ce.plain
 | .nilp => true
 | _ => false
/-- A call of f enters it. -/
def Ent (P : Program) (f : FuncId) : Prop := ∀ args w, (callFunc f args).run P w = .ok (.enter f args) w
/-- What a call of f does: from the arguments as to the result r, in which rows of the call's own may be named, by their place in rs; fresh: the result has no slice of the arguments'. -/
structure Ct (P : Program) (f : FuncId) (ars : List AV) (r : AV) (rs : List Row) (fresh : Bool) : Prop where
 ent : Ent P f
 few : rs.length ≤ 128
 plain : ars.all AV.plain = true
 nob : ∀ x ∈ r.bids, False
 rid : ∀ x ∈ r.rids, ∃ R, rs[x.1]? = some R ∧ x.2 ≤ R.ver
 run : ∀ (w : World) (vs : List Value) (E0 : Env), A2 (R1 E0 w) vs ars → Calls P f vs.toArray w fun e w' => ∃ v, e = .returned v ∧ Below w.heap.size w w' ∧
  ∃ E, RV E w' v r ∧ (∀ j R, rs[j]? = some R → RR E w' w.heap.size j R) ∧ (∀ b, b < w.heap.size → E.rl b = .cold → fresh = false ∧ E0.rl b = .cold)
/-- A state's cell, handed over as a contract's. -/
def FitC (st : St) : Ce → Ce → Prop
 | .t x, .t y => x = y
 | .nil, .t y => ∃ k, y = .sl k []
 | .nil, .nil => True
 | .row τ ver, .t y => match lk st.rw τ with
  | some R => R.ver = ver ∧ y = .sl R.k R.xs
  | none => False
 | _, _ => False
def FitL (st : St) : List Ce → List Ce → Prop
 | [], [] => True
 | x :: xs, y :: ys => FitC st x y ∧ FitL st xs ys
 | _, _ => False
def Fit (st : St) : AV → AV → Prop
 | .c x, .c y => FitC st x y
 | .agg xs, .agg ys => FitL st xs ys
 | .nilp, .nilp => True
 | _, _ => False
def Fits (st : St) : List AV → List AV → Prop
 | [], [] => True
 | a :: ars, b :: bs => Fit st a b ∧ Fits st ars bs
 | _, _ => False
def Ce.ren (m : Nat) : Ce → Ce
 | .row j v => .row (m + j) v
 | x => x
def AV.ren1 (m : Nat) : AV → AV
 | .c x => .c (x.ren m)
 | .agg xs => .agg (xs.map (Ce.ren m))
 | .nilp => .nilp
 | _ => .bot
def AV.ren (m : Nat) : AV → AV
 | .tup ars => .tup (ars.map (AV.ren1 m))
 | a => a.ren1 m
def numR (m : Nat) : Nat → List Row → List (Nat × Row)
 | _, [] => []
 | j, R :: rs => (m + j, R) :: numR m (j + 1) rs
def noRw (ars : List AV) : Bool := ars.all fun a => a.rids.isEmpty
/-- Cells that are trees already. -/
def plainT : List Ce → Option (List Tr)
 | [] => some []
 | .t x :: r => match plainT r with
  | some xs => some (x :: xs)
  | none => none
 | .nil :: r => match plainT r with
  | some xs => some (.sl 0 [] :: xs)
  | none => none
 | .row _ _ :: _ => none
 | .bot :: _ => none
/-- The parts of a slice literal, one behind the other. -/
def partsT (st : St) (sz : Nat) : Nat → List (Nat × Operand) → Option (List (List Tr))
 | _, [] => some []
 | i, (j, x) :: r => bif Nat.beq i j then (match cellsA (ev st x) with
   | some us => match plainT us with
    | some ts => bif Nat.beq ts.length sz then (match partsT st sz (i + 1) r with
     | some xs => some (ts :: xs)
     | none => none) else none
    | none => none
   | none => none) else none
/-- The parts of a struct literal, written over its zero. -/
def partsC (st : St) (pl : Nat → Option (Nat × Nat)) : List (Nat × Operand) → List Ce → Option (List Ce)
 | [], cs => some cs
 | (j, x) :: r, cs => match pl j, cellsA (ev st x) with
  | some (off, sz), some us => bif Nat.beq us.length sz && Nat.ble (off + us.length) cs.length then partsC st pl r (splice cs off us) else none
  | _, _ => none
def binA (T : Nat → Option Ty) (t : Nat) (op : BinOp) : AV → AV → Option AV
 | .c (.t (.lit (.int k x))), .c (.t (.lit (.int k' y))) => if k = k' then (match binI op k x y with
  | some v => some (.c (.t (.lit v)))
  | none => none) else none
 | .c (.t (.lit (.bool x))), .c (.t (.lit (.bool y))) => match T t with
  | some ⟨.bas, _, _, _, _⟩ => (match binB op x y with
   | some v => some (.c (.t (.lit v)))
   | none => none)
  | _ => none
 | .c (.t (.lit (.string x))), .c (.t (.lit (.string y))) => (match op with
  | .eql => some (.b (x.toList == y.toList))
  | .neq => some (.b (!(x.toList == y.toList)))
  | _ => none)
 | .agg xs, .agg ys => match T t, lits? xs, lits? ys with
  | some y, some us, some vs => bif (y.isAgg && !y.eq.isEmpty) && (litsAre y.eq us && litsAre y.eq vs) then (match op with
   | .eql => some (.b (lksEq us vs))
   | .neq => some (.b (!lksEq us vs))
   | _ => none) else none
  | _, _, _ => none
 | _, _ => none
def unA : UnOp → AV → Option AV
 | .not, .c (.t (.lit (.bool b))) => some (.b (!b))
 | .neg, .c (.t (.lit (.int k n))) => some (.c (.t (.lit (.int k (k.wrap (0 - n))))))
 | _, _ => none
/-- Operations that only reckon. -/
def pureS (T : Nat → Option Ty) (st : St) : Op → Option AV
 | .move x => some (ev st x)
 | .assign x => some (ev st x)
 | .load t a => match T t with
  | some y => (match ev st a with
   | .ptr b o => (match lk st.bx b with
    | some cs => cut y cs o
    | none => none)
   | .iptr xs o => cutT y xs o
   | _ => none)
  | none => none
 | .nilCheck x => (match ev st x with
  | .ptr b o => some (.ptr b o)
  | .iptr xs o => some (.iptr xs o)
  | .eptr τ v k i o => some (.eptr τ v k i o)
  | _ => none)
 | .binOp op t x y _ => binA T t op (ev st x) (ev st y)
 | .unOp op _ x => unA op (ev st x)
 | .convert src dst x => (match T src, T dst, ev st x with
  | some _, some ⟨.int k, _, _, _, _⟩, .c (.t (.lit (.int _ n))) => some (.c (.t (.lit (.int k (k.wrap n)))))
  | some ⟨.string, _, _, _, _⟩, some ⟨.string, _, _, _, _⟩, .c (.t (.lit (.string s))) => some (.s s)
  | _, _, _ => none)
 | .field t x f => (match T t with
  | some ⟨.str fs, _, _, _, _⟩ => (match fs[f]? with
   | some (off, ft) => (match T ft, ev st x with
    | some y, .agg cs => cut y cs off
    | _, _ => none)
   | none => none)
  | _ => none)
 | .fieldAddr t x f => (match T t with
  | some ⟨.str fs, _, _, _, _⟩ => (match fs[f]? with
   | some (off, ft) => (match T ft with
    | some y => bif Nat.blt 0 y.sz then (match ev st x with
     | .ptr b o => some (.ptr b (o + off))
     | .iptr xs o => some (.iptr xs (o + off))
     | .eptr τ v k i o => some (.eptr τ v k i (o + off))
     | _ => none) else none
    | none => none)
   | none => none)
  | _ => none)
 | .extract x i => (match ev st x with
  | .tup vs => vs[i]?
  | _ => none)
 | .build t parts => (match T t with
  | some ⟨.str fs, _, _, z, _⟩ => (match partsC st (fun i => match fs[i]? with
    | some (off, ft) => (match T ft with
     | some y => some (off, y.sz)
     | none => none)
    | none => none) parts.toList z with
   | some cs => some (.agg cs)
   | none => none)
  | some ⟨.arr _ e, _, _, z, _⟩ => (match T e with
   | some y => (match partsC st (fun i => some (i * y.sz, y.sz)) parts.toList z with
    | some cs => some (.agg cs)
    | none => none)
   | none => none)
  | _ => none)
 | .call c => (match c.callee, c.args.toList, c.argTypes.toList with
  | .builtin .len, [x], [t] => (match T t with
   | some ⟨.string, _, _, _, _⟩ => (match ev st x with
    | .c (.t (.lit (.string s))) => some (.i s.size)
    | _ => none)
   | some ⟨.slc _, _, _, _, _⟩ => (match elemsA st (ev st x) with
    | some (_, xs) => some (.i xs.length)
    | none => none)
   | _ => none)
  | _, _, _ => none)
 | _ => none
/-- What a bound of a slice expression is. -/
def bound (st : St) (x : Option Operand) (z : Nat) (n : Nat) : Prop := match x with
 | none => n = z
 | some x => match ev st x with
  | .c (.t (.lit (.int _ m))) => m = n
  | _ => False
section
variable (P : Program) (T : Nat → Option Ty)
/-- A literal check. It unfolds at once, for the kernel must meet no cond but those that branch. -/
abbrev bi (b : Bool) (A : Prop) : Prop := match b with
 | true => A
 | false => False
theorem bi_true (A : Prop) : bi true A = A := rfl
/-- What must hold ahead of an operation, for K to hold of what it changes; id: its free numbers. -/
def WPo (st : St) (id : Nat) (o : Oper) (K : Dl → Prop) : Prop := match o.op with
 | .pick c a b => (match ev st c with
  | .c (.t (.lit (.bool t))) => cond t ((ev st a).open_ fun v => K (.val v)) ((ev st b).open_ fun v => K (.val v))
  | _ => False)
 | .alloc e => (match T e with
  | some y => forceSp y.z fun z => K ⟨.ptr id 0, [(id, z)], []⟩
  | none => False)
 | .box _ x => (match cellsA (ev st x) with
  | some cs => K ⟨.ptr id 0, [(id, cs)], []⟩
  | none => False)
 | .store t a x => (match T t, cellsA (ev st x) with
  | some y, some us => bi (Nat.beq us.length y.sz) <| (match ev st a with
   | .ptr b o => (match lk st.bx b with
    | some cs => bi (Nat.ble (o + us.length) cs.length) <| forceSp (splice cs o us) fun cs' => K ⟨.bot, [(b, cs')], []⟩
    | none => False)
   | .eptr τ ver k i o => (match lk st.rw τ, plainT us with
    | some ⟨rty, rk, rver, rxs⟩, some ts => bi (Nat.beq rver ver && Nat.beq rk k) <| ∃ xs, rxs[i]? = some xs ∧ o + ts.length ≤ rk ∧ K ⟨.bot, [], [(τ, ⟨rty, rk, rver, rxs.set i (spliceT xs o ts)⟩)]⟩
    | _, _ => False)
   | _ => False)
  | _, _ => False)
 | .load t a => (match ev st a with
  | .eptr τ ver k i o => (match T t, lk st.rw τ with
   | some y, some R => bi (Nat.beq R.ver ver && Nat.beq R.k k) <| ∃ xs v, R.xs[i]? = some xs ∧ cutT y xs o = some v ∧ K (.val v)
   | _, _ => False)
  | _ => match pureS T st o.op with
   | some v => v.open_ fun v => K (.val v)
   | none => False)
 | .indexAddr t x ix => (match T t, ev st ix with
  | some ⟨.slc e, _, _, _, _⟩, .c (.t (.lit (.int _ n))) => (match T e, ev st x with
   | some y, .c (.t (.sl k xs)) => bi (Nat.beq k y.sz) <| ∃ (j : Nat) (ts : List Tr), n = j ∧ xs[j]? = some ts ∧ K (.val (.iptr ts 0))
   | some y, .c (.row τ ver) => (match lk st.rw τ with
    | some R => bi (Nat.beq R.ver ver && Nat.beq R.k y.sz) <| ∃ j : Nat, n = j ∧ j < R.xs.length ∧ K (.val (.eptr τ ver R.k j 0))
    | none => False)
   | _, _ => False)
  | some ⟨.arr m e, _, _, _, _⟩, .c (.t (.lit (.int _ n))) => (match T e, ev st x with
   | some y, .ptr b o => ∃ j : Nat, n = j ∧ j < m ∧ K (.val (.ptr b (o + j * y.sz)))
   | some y, .iptr xs o => ∃ j : Nat, n = j ∧ j < m ∧ K (.val (.iptr xs (o + j * y.sz)))
   | some y, .eptr τ ver k i o => ∃ j : Nat, n = j ∧ j < m ∧ K (.val (.eptr τ ver k i (o + j * y.sz)))
   | _, _ => False)
  | _, _ => False)
 | .index t x ix => (match T t, ev st x, ev st ix with
  | some ⟨.string, _, _, _, _⟩, .c (.t (.lit (.string s))), .c (.t (.lit (.int _ n))) => ∃ (j : Nat) (h : j < s.size), n = j ∧ K (.val (.c (.t (.lit (.int .u8 (s[j]'h).toNat)))))
  | some ⟨.arr m e, _, _, _, _⟩, .agg cs, .c (.t (.lit (.int _ n))) => (match T e with
   | some y => ∃ (j : Nat) (v : AV), n = j ∧ j < m ∧ cut y cs (j * y.sz) = some v ∧ K (.val v)
   | none => False)
  | _, _, _ => False)
 | .slice t x lo hi mx => (match mx, T t, ev st x with
  | none, some ⟨.string, _, _, _, _⟩, .c (.t (.lit (.string s))) => ∃ l h : Nat, bound st lo 0 l ∧ bound st hi s.size h ∧ l ≤ h ∧ h ≤ s.size ∧ K (.val (.s (s.extract l h)))
  | none, some ⟨.slc e, _, _, _, _⟩, .c (.t (.sl k xs)) => (match T e with
   | some y => bi (Nat.beq k y.sz) <| ∃ l h : Nat, bound st lo 0 l ∧ bound st hi xs.length h ∧ l ≤ h ∧ h ≤ xs.length ∧ K (.val (.c (.t (.sl k ((xs.take h).drop l)))))
   | none => False)
  | _, _, _ => False)
 | .buildSlice t len parts => (match T t with
  | some ⟨.slc e, _, _, _, _⟩ => (match T e with
   | some y => (match partsT st y.sz 0 parts.toList with
    | some xs => bi (Nat.beq xs.length len && (Nat.ble (len * y.sz) 10000 && Nat.blt 0 y.sz)) <| K ⟨.c (.row id 0), [], [(id, ⟨e, y.sz, 0, xs⟩)]⟩
    | none => False)
   | none => False)
  | _ => False)
 | .call c => (match c.callee with
  | .value f => (match ev st f with
   | .fn g [] => ∃ ars r rs fresh, Fits st (c.args.toList.map (ev st)) ars ∧ Ct P g ars r rs fresh ∧ (fresh = true ∨ noRw (c.args.toList.map (ev st)) = true) ∧ K ⟨r.ren id, [], numR id 0 rs⟩
   | _ => False)
  | .builtin .append => (match c.args.toList, c.argTypes.toList with
   | [s, x], [t, t'] => bi (Nat.beq t t') <| (match T t with
    | some ⟨.slc e, _, _, _, _⟩ => (match T e, elemsA st (ev st x) with
     | some y, some (k, ys) => (match ev st s with
      | .c .nil => bi (Nat.blt 0 y.sz) <| (k = y.sz ∨ ys = []) ∧ ys.length * y.by_ ≤ 140737488355328 ∧ ys.length < 140737488355328 ∧ K ⟨.c (.row id 0), [], [(id, ⟨e, y.sz, 0, ys⟩)]⟩
      | .c (.row τ ver) => (match lk st.rw τ with
       | some ⟨rty, rk, rver, rxs⟩ => bi (Nat.beq rver ver && (Nat.beq rk y.sz && (Nat.beq rty e && Nat.blt 0 y.sz))) <| (k = y.sz ∨ ys = []) ∧ (rxs.length + ys.length) * y.by_ ≤ 140737488355328 ∧ rxs.length + ys.length < 140737488355328 ∧ K ⟨.c (.row τ (ver + 1)), [], [(τ, ⟨rty, rk, ver + 1, rxs ++ ys⟩)]⟩
       | none => False)
      | _ => False)
     | _, _ => False)
    | _ => False)
   | _, _ => False)
  | _ => match pureS T st o.op with
   | some v => v.open_ fun v => K (.val v)
   | none => False)
 | op => match pureS T st op with
  | some v => v.open_ fun v => K (.val v)
  | none => False
/-- An operation's doing, as a relation. -/
inductive Stp (st : St) (id : Nat) : Op → Dl → Prop
 | pure {op : Op} {v : AV} : pureS T st op = some v → Stp st id op (.val v)
 | pick {c a b : Operand} {t : Bool} : ev st c = .c (.t (.lit (.bool t))) → Stp st id (.pick c a b) (.val (cond t (ev st a) (ev st b)))
 | alloc {e : Nat} {y : Ty} : T e = some y → Stp st id (.alloc e) ⟨.ptr id 0, [(id, y.z)], []⟩
 | box {e : Nat} {x : Operand} {cs : List Ce} : cellsA (ev st x) = some cs → Stp st id (.box e x) ⟨.ptr id 0, [(id, cs)], []⟩
 | storeB {t : Nat} {a x : Operand} {y : Ty} {us : List Ce} {b o : Nat} {cs : List Ce} : T t = some y → cellsA (ev st x) = some us → us.length = y.sz → ev st a = .ptr b o → lk st.bx b = some cs → o + us.length ≤ cs.length → Stp st id (.store t a x) ⟨.bot, [(b, splice cs o us)], []⟩
 | storeE {t : Nat} {a x : Operand} {y : Ty} {us : List Ce} {ts : List Tr} {τ ver k i o : Nat} {R : Row} {xs : List Tr} : T t = some y → cellsA (ev st x) = some us → us.length = y.sz → ev st a = .eptr τ ver k i o → lk st.rw τ = some R → R.ver = ver → R.k = k → plainT us = some ts → R.xs[i]? = some xs → o + ts.length ≤ R.k →
   Stp st id (.store t a x) ⟨.bot, [], [(τ, { R with xs := R.xs.set i (spliceT xs o ts) })]⟩
 | loadE {t : Nat} {a : Operand} {y : Ty} {τ ver k i o : Nat} {R : Row} {xs : List Tr} {v : AV} : ev st a = .eptr τ ver k i o → T t = some y → lk st.rw τ = some R → R.ver = ver → R.k = k → R.xs[i]? = some xs → cutT y xs o = some v → Stp st id (.load t a) (.val v)
 | ixT {t e : Nat} {x ix : Operand} {s b : Nat} {z : List Ce} {q : List Lk} {kk : IntKind} {n : Int} {y : Ty} {k : Nat} {xs : List (List Tr)} {j : Nat} {ts : List Tr} : T t = some ⟨.slc e, s, b, z, q⟩ → ev st ix = .c (.t (.lit (.int kk n))) → T e = some y → ev st x = .c (.t (.sl k xs)) → k = y.sz → n = j → xs[j]? = some ts → Stp st id (.indexAddr t x ix) (.val (.iptr ts 0))
 | ixR {t e : Nat} {x ix : Operand} {s b : Nat} {z : List Ce} {q : List Lk} {kk : IntKind} {n : Int} {y : Ty} {τ ver : Nat} {R : Row} {j : Nat} : T t = some ⟨.slc e, s, b, z, q⟩ → ev st ix = .c (.t (.lit (.int kk n))) → T e = some y → ev st x = .c (.row τ ver) → lk st.rw τ = some R → R.ver = ver → R.k = y.sz → n = j → j < R.xs.length → Stp st id (.indexAddr t x ix) (.val (.eptr τ ver R.k j 0))
 | ixAp {t m e : Nat} {x ix : Operand} {s b : Nat} {z : List Ce} {q : List Lk} {kk : IntKind} {n : Int} {y : Ty} {g o j : Nat} : T t = some ⟨.arr m e, s, b, z, q⟩ → ev st ix = .c (.t (.lit (.int kk n))) → T e = some y → ev st x = .ptr g o → n = j → j < m → Stp st id (.indexAddr t x ix) (.val (.ptr g (o + j * y.sz)))
 | ixAi {t m e : Nat} {x ix : Operand} {s b : Nat} {z : List Ce} {q : List Lk} {kk : IntKind} {n : Int} {y : Ty} {xs : List Tr} {o j : Nat} : T t = some ⟨.arr m e, s, b, z, q⟩ → ev st ix = .c (.t (.lit (.int kk n))) → T e = some y → ev st x = .iptr xs o → n = j → j < m → Stp st id (.indexAddr t x ix) (.val (.iptr xs (o + j * y.sz)))
 | ixAe {t m e : Nat} {x ix : Operand} {s b : Nat} {z : List Ce} {q : List Lk} {kk : IntKind} {n : Int} {y : Ty} {τ ver k i o j : Nat} : T t = some ⟨.arr m e, s, b, z, q⟩ → ev st ix = .c (.t (.lit (.int kk n))) → T e = some y → ev st x = .eptr τ ver k i o → n = j → j < m → Stp st id (.indexAddr t x ix) (.val (.eptr τ ver k i (o + j * y.sz)))
 | ixS {t : Nat} {x ix : Operand} {s b : Nat} {z : List Ce} {q : List Lk} {kk : IntKind} {n : Int} {str : ByteArray} {j : Nat} (h : j < str.size) : T t = some ⟨.string, s, b, z, q⟩ → ev st x = .c (.t (.lit (.string str))) → ev st ix = .c (.t (.lit (.int kk n))) → n = j → Stp st id (.index t x ix) (.val (.c (.t (.lit (.int .u8 (str[j]'h).toNat)))))
 | ixA {t m e : Nat} {x ix : Operand} {s b : Nat} {z : List Ce} {q : List Lk} {kk : IntKind} {n : Int} {y : Ty} {cs : List Ce} {j : Nat} {v : AV} : T t = some ⟨.arr m e, s, b, z, q⟩ → ev st x = .agg cs → ev st ix = .c (.t (.lit (.int kk n))) → T e = some y → n = j → j < m → cut y cs (j * y.sz) = some v → Stp st id (.index t x ix) (.val v)
 | slS {t : Nat} {x : Operand} {lo hi : Option Operand} {s b : Nat} {z : List Ce} {q : List Lk} {str : ByteArray} {l h : Nat} : T t = some ⟨.string, s, b, z, q⟩ → ev st x = .c (.t (.lit (.string str))) → bound st lo 0 l → bound st hi str.size h → l ≤ h → h ≤ str.size → Stp st id (.slice t x lo hi none) (.val (.s (str.extract l h)))
 | slT {t e : Nat} {x : Operand} {lo hi : Option Operand} {s b : Nat} {z : List Ce} {q : List Lk} {y : Ty} {k : Nat} {xs : List (List Tr)} {l h : Nat} : T t = some ⟨.slc e, s, b, z, q⟩ → ev st x = .c (.t (.sl k xs)) → T e = some y → k = y.sz → bound st lo 0 l → bound st hi xs.length h → l ≤ h → h ≤ xs.length → Stp st id (.slice t x lo hi none) (.val (.c (.t (.sl k ((xs.take h).drop l)))))
 | bsl {t e : Nat} {len : Nat} {parts : Array (Nat × Operand)} {s b : Nat} {z : List Ce} {q : List Lk} {y : Ty} {xs : List (List Tr)} : T t = some ⟨.slc e, s, b, z, q⟩ → T e = some y → partsT st y.sz 0 parts.toList = some xs → xs.length = len → len * y.sz ≤ 10000 → 0 < y.sz → Stp st id (.buildSlice t len parts) ⟨.c (.row id 0), [], [(id, ⟨e, y.sz, 0, xs⟩)]⟩
 | call {f : Operand} {args : Array Operand} {tys : Array TypeId} {g : Nat} {ars : List AV} {r : AV} {rs : List Row} {fresh : Bool} : ev st f = .fn g [] → Fits st (args.toList.map (ev st)) ars → Ct P g ars r rs fresh → (fresh = true ∨ noRw (args.toList.map (ev st)) = true) → Stp st id (.call ⟨.value f, args, tys⟩) ⟨r.ren id, [], numR id 0 rs⟩
 | appN {s x : Operand} {t e : Nat} {sz b : Nat} {z : List Ce} {q : List Lk} {y : Ty} {k : Nat} {ys : List (List Tr)} : T t = some ⟨.slc e, sz, b, z, q⟩ → T e = some y → elemsA st (ev st x) = some (k, ys) → ev st s = .c .nil → (k = y.sz ∨ ys = []) → ys.length * y.by_ ≤ 140737488355328 → ys.length < 140737488355328 → 0 < y.sz →
   Stp st id (.call ⟨.builtin .append, #[s, x], #[t, t]⟩) ⟨.c (.row id 0), [], [(id, ⟨e, y.sz, 0, ys⟩)]⟩
 | appR {s x : Operand} {t e : Nat} {sz b : Nat} {z : List Ce} {q : List Lk} {y : Ty} {k : Nat} {ys : List (List Tr)} {τ ver : Nat} {R : Row} : T t = some ⟨.slc e, sz, b, z, q⟩ → T e = some y → elemsA st (ev st x) = some (k, ys) → ev st s = .c (.row τ ver) → lk st.rw τ = some R → R.ver = ver → R.k = y.sz → R.ty = e → (k = y.sz ∨ ys = []) → (R.xs.length + ys.length) * y.by_ ≤ 140737488355328 → R.xs.length + ys.length < 140737488355328 → 0 < y.sz →
   Stp st id (.call ⟨.builtin .append, #[s, x], #[t, t]⟩) ⟨.c (.row τ (ver + 1)), [], [(τ, { R with ver := ver + 1, xs := R.xs ++ ys })]⟩
/-- An operation whose guard is known. -/
def WPh (id i : Nat) (o : Oper) (go : Bool) (st : St) (K : St → Prop) : Prop := st.open_ fun st => match go with
 | true => WPo P T st (id + 128 * i) o (fun d => (st.app o.dst d).open_ K)
 | false => (st.put? o.dst (.tup [])).open_ K
/-- One operation of a region. -/
def WPg (ops : Array Oper) (id i : Nat) (o : Oper) (st : St) (K : St → Prop) : Prop := match o.guard with
 | none => WPo P T st (id + 128 * i) o fun d => (st.app o.dst d).open_ K
 | some (g, want) => match (ops[g]?).bind (·.dst) with
  | none => False
  | some t => match st.get t with
   | .c (.t (.lit (.bool b))) => cond b (WPh P T id i o want (st.put t (AV.b true)) K) (WPh P T id i o (!want) (st.put t (AV.b false)) K)
   | .tup [] => (st.put? o.dst (.tup [])).open_ K
   | _ => False
/-- A region's operations, one behind the other. By the recursor itself: what Lean's elaborator makes of it and what the kernel makes of it are then the same term. -/
def WPops (ops : Array Oper) (id i : Nat) (l : List Oper) : St → (St → Prop) → Prop :=
 List.rec (motive := fun _ => Nat → St → (St → Prop) → Prop) (fun _ st K => K st) (fun o _ ih i st K => WPg P T ops id i o st fun st' => ih (i + 1) st' K) l i
inductive Ex where
 | nrm
 | exit (id : Nat)
 | ret
/-- Types as the program's table has them. -/
def ceIs : Ce → Value → Bool
 | .t (.lit (.int k n)), .int k' n' => decide (k = k') && decide (n = n')
 | .t (.lit (.bool b)), .bool b' => b == b'
 | .t (.lit (.string s)), .string s' => s.data.size == 0 && s'.data.size == 0
 | .nil, .slice none 0 0 => true
 | _, _ => false
def cesAre : List Ce → List Value → Bool
 | [], [] => true
 | c :: cs, v :: vs => ceIs c v && cesAre cs vs
 | _, _ => false
def ksAre : List K → List Lk → Bool
 | [], [] => true
 | .lit k :: ks, l :: ls => decide (k = l) && ksAre ks ls
 | _, _ => false
def fieldsAre (P : Program) : List Field → List (Nat × Nat) → Bool
 | [], [] => true
 | f :: fs, (o, t) :: r => Nat.beq f.offset o && Nat.beq f.type t && (P.info? t).isSome && fieldsAre P fs r
 | _, _ => false
def tyOkB (P : Program) (t : Nat) (y : Ty) : Bool :=
 (match P.info? t with
 | some i => Nat.beq i.size y.sz && Nat.beq i.bytes y.by_ && (match i.zero with
  | some zv => cesAre y.z zv.cells.toList && Nat.beq zv.cells.size i.size
  | none => false)
 | none => false) &&
 (match y.k, P.underlying t with
 | .bas, some .bool => true
 | .int k, some (.int k') => decide (k = k')
 | .string, some .string => true
 | .slc e, some (.slice e') => Nat.beq e e'
 | .arr n e, some (.array n' e') => Nat.beq n n' && Nat.beq e e'
 | .str fs, some (.struct fl) => fieldsAre P fl.toList fs
 | _, _ => false) &&
 (y.eq.isEmpty || ((match eqShape P 12 t with
 | some ks => ksAre ks y.eq
 | none => false) && !P.eqGuardType P.depth t))
structure TabOk : Prop where
 ty : ∀ t y, T t = some y → tyOkB P t y = true
 mixed : P.follows .mixedOrders = true
def heapy : Op → Bool
 | .move _ => false
 | .assign _ => false
 | .pick _ _ _ => false
 | .nilCheck _ => false
 | .binOp _ _ _ _ _ => false
 | .unOp _ _ _ => false
 | .field _ _ _ => false
 | .fieldAddr _ _ _ => false
 | .extract _ _ => false
 | .convert _ _ _ => false
 | .build _ _ => false
 | .index _ _ _ => false
 | .slice _ _ _ _ _ => false
 | _ => true
def mods : Op → Bool
 | .store _ _ _ => true
 | .call ⟨.builtin .append, _, _⟩ => true
 | _ => false
/-- Which operations come ahead of an operation, as bits; acc: of those in front of it. -/
def anc (acc : List Nat) (o : Oper) : Nat := o.after.toList.foldl (fun s e => bif Region.binds .any e then s ||| 2 ^ e.on ||| acc.getD e.on 0 else s) 0
def befs : List Oper → List Nat → List Nat
 | [], acc => acc
 | o :: r, acc => befs r (acc ++ [anc acc o])
def ordered (b : List Nat) (i j : Nat) : Bool := (b.getD (max i j) 0).testBit (min i j)
def dsts (ops : List Oper) : List Nat := ops.filterMap (·.dst)
def isDst (t : Nat) : Option Nat → Bool
 | some t' => Nat.beq t' t
 | none => false
/-- The slot that an address comes from; r: the operations ahead, the last one first. -/
def root : List Oper → Nat → Option Nat
 | [], t => some t
 | o :: r, t => match isDst t o.dst with
  | true => (match o.op, o.guard with
   | .fieldAddr _ (.tmp u) _, none => root r u
   | _, _ => none)
  | false => root r t
/-- A store and a load of different boxes. -/
def sep1 (st : St) (ops : List Oper) (o : Op) (i : Nat) (o' : Op) (j : Nat) : Bool := match o, o' with
 | .store _ (.tmp a) _, .load _ (.tmp c) => (match root (ops.take i).reverse a, root (ops.take j).reverse c with
  | some r, some r' => (match st.get r, st.get r' with
   | .ptr b _, .ptr b' _ => !Nat.beq b b'
   | _, _ => false)
  | _, _ => false)
 | _, _ => false
/-- Operations i and j: where one of them writes, the other touches memory: they are ordered, or they are a store and a load of different boxes. -/
def modsD (st : St) (b : List Nat) (ops : List Oper) : Bool := ops.zipIdx.all fun p => !heapy p.1.op || ops.zipIdx.all fun q => !heapy q.1.op || !(mods p.1.op || mods q.1.op) || Nat.beq p.2 q.2 || ordered b p.2 q.2 || (sep1 st ops p.1.op p.2 q.1.op q.2 || sep1 st ops q.1.op q.2 p.1.op p.2)
def isTmp (t : Nat) : Operand → Bool
 | .tmp t' => Nat.beq t' t
 | _ => false
/-- What an operation yields is used behind it alone. -/
def tempsOk (b : List Nat) (ops : List Oper) : Bool := ops.zipIdx.all fun p => match p.1.dst with
 | none => true
 | some t => ops.zipIdx.all fun q => !(q.1.op.operands.toList.any (isTmp t)) || Nat.beq p.2 q.2 || ordered b p.2 q.2
def edgesOk (ops : List Oper) : Bool := ops.zipIdx.all fun p => p.1.after.toList.all fun e => !Region.binds .any e || Nat.blt e.on p.2
def guardsOk (ops : List Oper) : Bool := ops.all fun o => match o.guard with
  | some (g, _) => o.after.toList.any fun e => Nat.beq e.on g && Region.binds .any e
  | none => true
def regOk (N : Nat) (ops : Array Oper) (draw : Bool) : Bool :=
 ops.toList.all (fun o => match o.dst with
  | some d => Nat.blt d N
  | none => true) &&
 (!draw || (tempsOk (befs ops.toList []) ops.toList && edgesOk ops.toList && guardsOk ops.toList && (dsts ops.toList).Nodup))
def codeOk (N : Nat) : Code → Bool
 | .skip => true
 | .region _ ops draw => regOk N ops draw
 | .seq a b => codeOk N a && codeOk N b
 | .cond _ a b => codeOk N a && codeOk N b
 | .block _ c => codeOk N c
 | .loop c => codeOk N c
 | .exit _ => true
 | .ret => true
 | _ => false
def cpost (w0 : World) (N : Nat) (O : Nat → Prop) (Q : Ex → St → Prop) : Exit → Act → World → Prop
 | .normal, a, w => ∃ st E, Q .nrm st ∧ RepS O E w w0.heap.size N st a ∧ Below w0.heap.size w0 w
 | .exit id, a, w => ∃ st E, Q (.exit id) st ∧ RepS O E w w0.heap.size N st a ∧ Below w0.heap.size w0 w
 | .ret, a, w => ∃ st E, Q .ret st ∧ RepS O E w w0.heap.size N st a ∧ Below w0.heap.size w0 w
 | _, _, _ => False
variable (N : Nat) (w0 : World) (O : Nat → Prop)
/-- From every memory that holds what st says the code comes to what Q says. -/
def Tp (c : Code) (st : St) (Q : Ex → St → Prop) : Prop :=
 TabOk P T → codeOk N c = true → ∀ E a w, RepS O E w w0.heap.size N st a → Below w0.heap.size w0 w → c.wp P (cpost w0 N O Q) a w
def nextQ (K : St → Prop) (Q : Ex → St → Prop) (e : Ex) (st : St) : Prop := match e with
 | .nrm => K st
 | e => Q e st
def blkQ (id : Nat) (Q : Ex → St → Prop) (e : Ex) (st : St) : Prop := match e with
 | .exit i => match Nat.beq i id with
  | true => Q .nrm st
  | false => Q (.exit i) st
 | e => Q e st
def WPr (cs : List Nat) (id : Nat) (ops : Array Oper) (d : Bool) (st : St) (Q : Ex → St → Prop) : Prop := match st with
 | ⟨sl0, bx0, rw0, nx0⟩ => match cs.contains id with
  | true => Tp P T N w0 O (.region id ops d) ⟨sl0, bx0, rw0, nx0⟩ Q
  | false => match !d || modsD ⟨sl0, bx0, rw0, nx0⟩ (befs ops.toList []) ops.toList with
   | true => WPops P T ops nx0 0 ops.toList ⟨sl0, bx0, rw0, nx0⟩ fun st' => match st' with
    | ⟨sl, bx, rw, _⟩ => forceN (nx0 + 128 * ops.size) fun nx => Q .nrm ⟨sl, bx, rw, nx⟩
   | false => False
def WPc (c : Operand) (st : St) (A B : Prop) : Prop := match ev st c with
 | .c (.t (.lit (.bool t))) => cond t A B
 | _ => False
/-- Code step by step; it stops ahead of loops, and ahead of the regions of cs. By the recursor itself, as WPops is. -/
def WP (cs : List Nat) (c : Code) : St → (Ex → St → Prop) → Prop :=
 Code.rec (motive := fun _ => St → (Ex → St → Prop) → Prop) (fun st Q => Q .nrm st) (fun id ops d st Q => WPr P T N w0 O cs id ops d st Q) (fun _ _ iha ihb st Q => iha st (nextQ (fun st' => ihb st' Q) Q))
  (fun c _ _ iha ihb st Q => WPc c st (iha st Q) (ihb st Q)) (fun id _ ih st Q => ih st (blkQ id Q)) (fun c _ st Q => Tp P T N w0 O (.loop c) st Q) (fun _ _ _ _ _ _ _ _ => False) (fun id st Q => Q (.exit id) st)
  (fun _ _ _ _ => False) (fun _ _ _ => False) (fun _ _ _ => False) (fun st Q => Q .ret st) (fun _ _ _ => False) c
end
end Cg
end
section
namespace Cg
open Go Go.RowKit Go.Sort Go.Lib
variable {O : Nat → Prop}
theorem RC.fr {E E' : Env} {w w' : World} (hs : w.heap.size ≤ w'.heap.size) (hc : ∀ b, E.rl b = .cold → b < w.heap.size → w'.heap[b]? = w.heap[b]? ∧ E'.rl b = .cold) {v : Value} {x : Ce} (hv : ∀ p ∈ x.rids, E'.vl p.1 p.2 = E.vl p.1 p.2) (h : RC E w v x) : RC E' w' v x := by
 cases x with
 | t x => exact RT.frame hs (fun b hb hlt => (hc b hb hlt).1) (fun b hb hlt => (hc b hb hlt).2) h
 | nil => exact h
 | row τ ver => exact ⟨by rw [h.1, hv (τ, ver) List.mem_cons_self], h.2⟩
 | bot => exact h
theorem RC.one {E : Env} {w : World} {v : Value} {x : Ce} (h : RC E w v x) : v.oneCell' = true := by
 cases x with
 | t x => exact RT.one h
 | nil => rw [show v = _ from h]; rfl
 | row τ ver => exact h.2
 | bot => exact h
theorem A2.one {E : Env} {w : World} : ∀ {vs : List Value} {xs : List Ce}, A2 (RC E w) vs xs → ∀ u ∈ vs, u.oneCell' = true
 | _, _, .nil, _, hu => by cases hu
 | _, _, .cons h1 h2, u, hu => by
  rcases List.mem_cons.1 hu with rfl | hu
  ·exact h1.one
  ·exact A2.one h2 u hu
theorem A2.fr {E E' : Env} {w w' : World} (hs : w.heap.size ≤ w'.heap.size) (hc : ∀ b, E.rl b = .cold → b < w.heap.size → w'.heap[b]? = w.heap[b]? ∧ E'.rl b = .cold) {vs : List Value} {xs : List Ce} (hv : ∀ p ∈ xs.flatMap Ce.rids, E'.vl p.1 p.2 = E.vl p.1 p.2) (h : A2 (RC E w) vs xs) : A2 (RC E' w') vs xs :=
 h.imp fun _ y hy hr => hr.fr hs hc fun p hp => hv p (List.mem_flatMap.2 ⟨y, hy, hp⟩)
theorem capV_eq {E E' : Env} {c : Nat × Nat} (h : E'.bk c.1 = E.bk c.1) : capV E' c = capV E c := by
 unfold capV
 rw [h]
theorem R1.fr {E E' : Env} {w w' : World} (hs : w.heap.size ≤ w'.heap.size) (hc : ∀ b, E.rl b = .cold → b < w.heap.size → w'.heap[b]? = w.heap[b]? ∧ E'.rl b = .cold) {v : Value} {a : AV} (hv : ∀ p ∈ a.rid1, E'.vl p.1 p.2 = E.vl p.1 p.2) (hb : ∀ b ∈ a.bid1, E'.bk b = E.bk b) (h : R1 E w v a) : R1 E' w' v a := by
 cases a with
 | c x => exact RC.fr hs hc hv h
 | agg xs =>
  obtain ⟨vs, rfl, h⟩ := h
  exact ⟨vs, rfl, h.fr hs hc hv⟩
 | ptr b o =>
  show v = _
  rw [hb b List.mem_cons_self]
  exact h
 | iptr xs o =>
  obtain ⟨g, p, vs, rfl, h1, h2, h3, h4⟩ := h
  exact ⟨g, p, vs, rfl, (hc g h1 h2).2, Nat.lt_of_lt_of_le h2 hs, fun i u hu => (World.cell?_of_block (a := ⟨_, _, none⟩) (hc g h1 h2).1).trans (h3 i u hu), h4.frame hs (fun b hb hlt => (hc b hb hlt).1) (fun b hb hlt => (hc b hb hlt).2)⟩
 | eptr τ ver k i o =>
  obtain ⟨g, n, c, h1, h2⟩ := h
  exact ⟨g, n, c, by rw [hv (τ, ver) List.mem_cons_self]; exact h1, h2⟩
 | nilp => exact h
 | tup ars => exact h
 | fn f caps =>
  show v = _
  have e : caps.map (capV E') = caps.map (capV E) := List.map_congr_left fun c hc => capV_eq (hb c.1 (List.mem_map.2 ⟨c, hc, rfl⟩))
  rw [e]
  exact h
 | bot => exact h
theorem RV.fr {E E' : Env} {w w' : World} (hs : w.heap.size ≤ w'.heap.size) (hc : ∀ b, E.rl b = .cold → b < w.heap.size → w'.heap[b]? = w.heap[b]? ∧ E'.rl b = .cold) {v : Value} {a : AV} (hv : ∀ p ∈ a.rids, E'.vl p.1 p.2 = E.vl p.1 p.2) (hb : ∀ b ∈ a.bids, E'.bk b = E.bk b) (h : RV E w v a) : RV E' w' v a := by
 cases a with
 | tup ars =>
  obtain ⟨vs, rfl, h⟩ := h
  exact ⟨vs, rfl, h.imp fun _ y hy hr => R1.fr hs hc (fun p hp => hv p (List.mem_flatMap.2 ⟨y, hy, hp⟩)) (fun b hb' => hb b (List.mem_flatMap.2 ⟨y, hy, hb'⟩)) hr⟩
 | c x => exact R1.fr (a := .c x) hs hc hv hb h
 | agg xs => exact R1.fr (a := .agg xs) hs hc hv hb h
 | ptr b o => exact R1.fr (a := .ptr b o) hs hc hv hb h
 | iptr xs o => exact R1.fr (a := .iptr xs o) hs hc hv hb h
 | eptr τ ver k i o => exact R1.fr (a := .eptr τ ver k i o) hs hc hv hb h
 | nilp => exact R1.fr (a := .nilp) hs hc hv hb h
 | fn f caps => exact R1.fr (a := .fn f caps) hs hc hv hb h
 | bot => exact trivial
theorem Bk.lt {w : World} {b : Nat} {t : TypeId} {cs : List Value} (h : Bk w b t cs) : b < w.heap.size := (Array.getElem?_eq_some_iff.1 h).1
theorem RB.fr {E E' : Env} {w w' : World} {n0 i : Nat} {cs : List Ce} (hs : w.heap.size ≤ w'.heap.size) (hc : ∀ b, E.rl b = .cold → b < w.heap.size → w'.heap[b]? = w.heap[b]? ∧ E'.rl b = .cold) (hv : ∀ p ∈ cs.flatMap Ce.rids, E'.vl p.1 p.2 = E.vl p.1 p.2) (hk : E'.bk i = E.bk i) (hb : E.bk i < w.heap.size → E.rl (E.bk i) = .bx i → w'.heap[E.bk i]? = w.heap[E.bk i]? ∧ E'.rl (E.bk i) = .bx i) (h : RB E w n0 i cs) : RB E' w' n0 i cs := by
 obtain ⟨vs, t, h1, h2, h3, h4⟩ := h
 obtain ⟨b1, b2⟩ := hb h2.lt h3
 exact ⟨vs, t, by rw [hk]; exact h1, by rw [hk]; exact b1.trans h2, by rw [hk]; exact b2, h4.fr hs hc hv⟩
theorem Ets.fr {k : Nat} {F G : Nat → Prop} {w w' : World} {es : List (Cl k)} {xs : List (List Tr)} (hs : w.heap.size ≤ w'.heap.size) (hb : ∀ b, F b → b < w.heap.size → w'.heap[b]? = w.heap[b]?) (hFG : ∀ b, F b → b < w.heap.size → G b) (h : Ets F w es xs) : Ets G w' es xs :=
 ⟨h.len, fun j vs ts h1 h2 => (h.at_ j vs ts h1 h2).frame hs hb hFG⟩
theorem ownsRow_eq {w w' : World} {B e size n : Nat} {v : Value} {xs : List Value} (h : w.ownsRow B e size v n xs) (hb : ∀ g, v.ownBlock = some g → g < w.heap.size → w'.heap[g]? = w.heap[g]?) : w'.ownsRow B e size v n xs := by
 refine ⟨h.1, ?_⟩
 rcases h.2 with hn | ⟨g, cap, cur, rfl, hg, hgg, rest⟩
 ·exact .inl hn
 ·exact .inr ⟨g, cap, cur, rfl, hg, by rw [hb g rfl (Array.getElem?_eq_some_iff.1 hgg).1]; exact hgg, rest⟩
theorem RR.fr {E E' : Env} {w w' : World} {n0 τ : Nat} {R : Row} (hs : w.heap.size ≤ w'.heap.size) (hc : ∀ b, E.rl b = .cold → b < w.heap.size → w'.heap[b]? = w.heap[b]? ∧ E'.rl b = .cold) (hv : E'.vl τ R.ver = E.vl τ R.ver) (hb : ∀ g, (E.vl τ R.ver).ownBlock = some g → g < w.heap.size → E.rl g = .rw τ → w'.heap[g]? = w.heap[g]? ∧ E'.rl g = .rw τ) (h : RR E w n0 τ R) : RR E' w' n0 τ R := by
 obtain ⟨es, h1, h2, h3⟩ := h
 have hlt : ∀ g, (E.vl τ R.ver).ownBlock = some g → g < w.heap.size := fun g hg => (h1.lt g hg).2
 exact ⟨es, by rw [hv]; exact ownsRow_eq h1 (fun g hg hl => (hb g hg hl (h3 g hg)).1), h2.fr hs (fun b hb hlt => (hc b hb hlt).1) (fun b hb hlt => (hc b hb hlt).2), fun g hg => by rw [hv] at hg; exact (hb g hg (hlt g hg) (h3 g hg)).2⟩
/-- Memory and places change from (E, w) to (E', w'); what the state names, but for the variables of X and the rows of Y, is as it was. -/
structure Mv (st : St) (E : Env) (w : World) (E' : Env) (w' : World) (X Y : Nat → Prop) : Prop where
 size : w.heap.size ≤ w'.heap.size
 lo : ∀ b, b < w.heap.size → E'.rl b = E.rl b
 cold : ∀ b, E.rl b = .cold → b < w.heap.size → w'.heap[b]? = w.heap[b]? ∧ E'.rl b = .cold
 bk : ∀ i cs, lk st.bx i = some cs → E'.bk i = E.bk i
 bx : ∀ i cs, lk st.bx i = some cs → ¬ X i → E.bk i < w.heap.size → E.rl (E.bk i) = .bx i → w'.heap[E.bk i]? = w.heap[E.bk i]? ∧ E'.rl (E.bk i) = .bx i
 vl : ∀ τ R v, lk st.rw τ = some R → v ≤ R.ver → E'.vl τ v = E.vl τ v
 rw : ∀ τ R, lk st.rw τ = some R → ¬ Y τ → ∀ g, (E.vl τ R.ver).ownBlock = some g → g < w.heap.size → E.rl g = .rw τ → w'.heap[g]? = w.heap[g]? ∧ E'.rl g = .rw τ
theorem Mv.vr {st : St} {E E' : Env} {w w' : World} {X Y : Nat → Prop} (h : Mv st E w E' w' X Y) {p : Nat × Nat} (hp : st.hasR p) : E'.vl p.1 p.2 = E.vl p.1 p.2 := by
 obtain ⟨R, h1, h2⟩ := hp
 exact h.vl _ R _ h1 h2
theorem Mv.slt {st : St} {E E' : Env} {w w' : World} {X Y : Nat → Prop} (h : Mv st E w E' w' X Y) {m : Nat} (sc : Sc m st) (t : Nat) {v : Value} (hr : RV E w v (st.get t)) : RV E' w' v (st.get t) :=
 hr.fr h.size h.cold (fun p hp => h.vr (sc.sr t p hp)) (fun b hb => by
  obtain ⟨cs, hcs⟩ := sc.sb t b hb
  exact h.bk b cs hcs)
theorem Mv.box {st : St} {E E' : Env} {w w' : World} {X Y : Nat → Prop} (h : Mv st E w E' w' X Y) {m : Nat} (sc : Sc m st) {n0 i : Nat} {cs : List Ce} (hi : lk st.bx i = some cs) (hX : ¬ X i) (hr : RB E w n0 i cs) : RB E' w' n0 i cs :=
 hr.fr h.size h.cold (fun p hp => h.vr (sc.br i cs hi p hp)) (h.bk i cs hi) (h.bx i cs hi hX)
theorem Mv.row {st : St} {E E' : Env} {w w' : World} {X Y : Nat → Prop} (h : Mv st E w E' w' X Y) {n0 τ : Nat} {R : Row} (hi : lk st.rw τ = some R) (hY : ¬ Y τ) (hr : RR E w n0 τ R) : RR E' w' n0 τ R :=
 hr.fr h.size h.cold (h.vl τ R _ hi (Nat.le_refl _)) (h.rw τ R hi hY)
/-- Nothing but the memory behind the end changes. -/
theorem Mv.below {st : St} {E E' : Env} {w w' : World} {X Y : Nat → Prop} (hb : Below w.heap.size w w') (hr : ∀ b, b < w.heap.size → E'.rl b = E.rl b) (hk : ∀ i cs, lk st.bx i = some cs → E'.bk i = E.bk i) (hv : ∀ τ R v, lk st.rw τ = some R → v ≤ R.ver → E'.vl τ v = E.vl τ v) : Mv st E w E' w' X Y :=
 ⟨hb.size, hr, fun b hc hlt => ⟨hb.block b hlt, (hr b hlt).trans hc⟩, hk, fun _ _ _ _ hlt hrl => ⟨hb.block _ hlt, (hr _ hlt).trans hrl⟩, hv, fun _ _ _ _ _ _ hlt hrl => ⟨hb.block _ hlt, (hr _ hlt).trans hrl⟩⟩
theorem St.get_put (st : St) (t : Nat) (v : AV) (t' : Nat) : (st.put t v).get t' = if t = t' then v else st.get t' := by
 unfold St.get St.put
 simp only [lk]
 by_cases h : t = t'
 ·subst h; simp
 ·have : Nat.beq t t' = false := by
   cases e : Nat.beq t t'
   ·rfl
   ·exact absurd (Nat.eq_of_beq_eq_true e) h
  rw [this, if_neg h]
  rfl
theorem St.get_app (st : St) (t : Option Nat) (d : Dl) (t' : Nat) : (st.app t d).get t' = if t = some t' then d.v else st.get t' := by
 cases t with
 | none => simp [St.app, St.get]
 | some t =>
  have := St.get_put st t d.v t'
  unfold St.get St.put at this
  unfold St.get St.app
  simp only [Option.some.injEq]
  exact this
theorem St.app_bx (st : St) (t : Option Nat) (d : Dl) : (st.app t d).bx = d.bs ++ st.bx := by cases t <;> rfl
theorem St.app_rw (st : St) (t : Option Nat) (d : Dl) : (st.app t d).rw = d.rs ++ st.rw := by cases t <;> rfl
theorem St.app_nx (st : St) (t : Option Nat) (d : Dl) : (st.app t d).nx = st.nx := by cases t <;> rfl
theorem lk_append {α : Type} : ∀ (l r : List (Nat × α)) (n : Nat), lk (l ++ r) n = (match lk l n with
   | some x => some x
   | none => lk r n)
 | [], r, n => rfl
 | (m, x) :: l, r, n => by
  show (bif Nat.beq m n then some x else lk (l ++ r) n) = (match (bif Nat.beq m n then some x else lk l n) with
   | some x => some x
   | none => lk r n)
  cases Nat.beq m n
  ·exact lk_append l r n
  ·rfl
theorem lk_cons {α : Type} (m : Nat) (x : α) (r : List (Nat × α)) (n : Nat) : lk ((m, x) :: r) n = if m = n then some x else lk r n := by
 show (bif Nat.beq m n then some x else lk r n) = _
 by_cases h : m = n
 ·subst h; simp
 ·have : Nat.beq m n = false := by
   cases e : Nat.beq m n
   ·rfl
   ·exact absurd (Nat.eq_of_beq_eq_true e) h
  rw [this, if_neg h]; rfl
theorem Act.getD_put (a : Act) (t : Option Nat) (v : Value) (t' : Nat) (ht : ∀ x, t = some x → x < a.tmps.size) : (a.put t v).tmps.getD t' undef = if t = some t' then v else a.tmps.getD t' undef := by
 cases t with
 | none => simp [Act.put]
 | some t =>
  simp only [Act.put, Option.some.injEq, Array.getD_eq_getD_getElem?, Array.getElem?_setIfInBounds]
  by_cases h : t = t'
  ·subst h; simp [ht _ rfl]
  ·simp [h]
theorem Act.put_dfr (a : Act) (t : Option Nat) (v : Value) : (a.put t v).defers = a.defers := by cases t <;> rfl
theorem Act.put_size (a : Act) (t : Option Nat) (v : Value) : (a.put t v).tmps.size = a.tmps.size := by
 cases t <;> simp [Act.put]
theorem hasB_app {st : St} {t : Option Nat} {d : Dl} {b : Nat} (h : st.hasB b) : (st.app t d).hasB b := by
 obtain ⟨cs, h⟩ := h
 unfold St.hasB
 rw [St.app_bx, lk_append]
 cases lk d.bs b with
 | none => exact ⟨cs, h⟩
 | some x => exact ⟨x, rfl⟩
/-- Rows that are written anew do not fall behind. -/
def RsUp (st : St) (d : Dl) : Prop := ∀ τ R R', lk st.rw τ = some R → lk d.rs τ = some R' → R.ver ≤ R'.ver
theorem hasR_app {st : St} {t : Option Nat} {d : Dl} {p : Nat × Nat} (hu : RsUp st d) (h : st.hasR p) : (st.app t d).hasR p := by
 obtain ⟨R, h, hv⟩ := h
 unfold St.hasR
 rw [St.app_rw, lk_append]
 cases hd : lk d.rs p.1 with
 | none => exact ⟨R, h, hv⟩
 | some R' => exact ⟨R', rfl, Nat.le_trans hv (hu _ _ _ h hd)⟩
/-- The numbers that a change names stand for something behind it. -/
structure DlSc (m : Nat) (st : St) (d : Dl) : Prop where
 up : RsUp st d
 vb : ∀ b ∈ d.v.bids, st.hasB b ∨ ∃ cs, lk d.bs b = some cs
 vr : ∀ p ∈ d.v.rids, st.hasR p ∨ ∃ R, lk d.rs p.1 = some R ∧ p.2 ≤ R.ver
 br : ∀ b cs, lk d.bs b = some cs → (∀ p ∈ cs.flatMap Ce.rids, st.hasR p) ∧ b < m
 fr : ∀ τ R, lk d.rs τ = some R → τ < m
theorem Sc.app {m : Nat} {st : St} (h : Sc m st) {t : Option Nat} {d : Dl} (hd : DlSc m st d) : Sc m (st.app t d) := by
 have hR : ∀ p, (st.hasR p ∨ ∃ R, lk d.rs p.1 = some R ∧ p.2 ≤ R.ver) → (st.app t d).hasR p := fun p hp => by
  rcases hp with hp | ⟨R, h1, h2⟩
  ·exact hasR_app hd.up hp
  ·exact ⟨R, by rw [St.app_rw, lk_append, h1], h2⟩
 refine ⟨fun t' b hb => ?_, fun t' p hp => ?_, fun b cs hcs p hp => ?_, fun b cs hcs => ?_, fun τ R hR' => ?_⟩
 ·rw [St.get_app] at hb
  split at hb
  ·rcases hd.vb b hb with hb | ⟨cs, hcs⟩
   ·exact hasB_app hb
   ·exact ⟨cs, by rw [St.app_bx, lk_append, hcs]⟩
  ·exact hasB_app (h.sb t' b hb)
 ·rw [St.get_app] at hp
  split at hp
  ·exact hR p (hd.vr p hp)
  ·exact hR p (.inl (h.sr t' p hp))
 ·rw [St.app_bx, lk_append] at hcs
  split at hcs
  ·rename_i x hx
   obtain rfl := Option.some.inj hcs
   exact hR p (.inl ((hd.br b _ hx).1 p hp))
  ·exact hR p (.inl (h.br b cs hcs p hp))
 ·rw [St.app_bx, lk_append] at hcs
  split at hcs
  ·rename_i x hx
   exact (hd.br b _ hx).2
  ·exact h.fb b cs hcs
 ·rw [St.app_rw, lk_append] at hR'
  split at hR'
  ·rename_i x hx
   exact hd.fr τ _ hx
  ·exact h.fr τ R hR'
/-- A state behind an operation. -/
theorem RepM.app {E E' : Env} {w w' : World} {n0 N m : Nat} {st : St} {a : Act} (h : RepM O E w n0 N m st a) {t : Option Nat} (ht : ∀ x, t = some x → x < N) {d : Dl} {v : Value} (hm : Mv st E w E' w' (fun i => ∃ cs, lk d.bs i = some cs) (fun τ => ∃ R, lk d.rs τ = some R)) (hsc : DlSc m st d)
  (hv : RV E' w' v d.v) (hb : ∀ i cs, lk d.bs i = some cs → RB E' w' n0 i cs) (hr : ∀ τ R, lk d.rs τ = some R → RR E' w' n0 τ R) : RepM O E' w' n0 N m (st.app t d) (a.put t v) := by
 refine ⟨by rw [Act.put_dfr]; exact h.dfr, by rw [Act.put_size]; exact h.sz, fun t' => ?_, fun i cs hi => ?_, fun τ R hτ => ?_, h.sc.app hsc, Nat.le_trans h.hi hm.size, fun b hb => by rw [hm.lo b (Nat.lt_of_lt_of_le hb h.hi)]; exact h.old b hb⟩
 ·rw [St.get_app, Act.getD_put _ _ _ _ (by rw [h.sz]; exact ht)]
  split
  ·exact hv
  ·exact hm.slt h.sc t' (h.slt t')
 ·rw [St.app_bx, lk_append] at hi
  cases hd : lk d.bs i with
  | some x =>
   rw [hd] at hi
   obtain rfl := Option.some.inj hi
   exact hb i _ hd
  | none =>
   rw [hd] at hi
   exact hm.box h.sc hi (fun ⟨x, hx⟩ => by rw [hd] at hx; cases hx) (h.box i cs hi)
 ·rw [St.app_rw, lk_append] at hτ
  cases hd : lk d.rs τ with
  | some x =>
   rw [hd] at hτ
   obtain rfl := Option.some.inj hτ
   exact hr τ _ hd
  | none =>
   rw [hd] at hτ
   exact hm.row hτ (fun ⟨x, hx⟩ => by rw [hd] at hx; cases hx) (h.row τ R hτ)
end Cg
end
section
namespace Cg
open Go Go.RowKit Go.Sort Go.Lib
variable {P : Program} {T : Nat → Option Ty} {O : Nat → Prop}
/-- What a value names stands for something. -/
def NmV (st : St) (v : AV) : Prop := (∀ b ∈ v.bids, st.hasB b) ∧ (∀ p ∈ v.rids, st.hasR p)
theorem nmv_lit (st : St) (v : Value) : NmV st (.c (.t (.lit v))) := ⟨fun b hb => (by cases hb), fun p hp => (by cases hp)⟩
theorem ev_rv {E : Env} {w : World} {n0 N m : Nat} {st : St} {a : Act} (r : RepM O E w n0 N m st a) (x : Operand) : RV E w (a.eval x) (ev st x) := by
  cases x with
  | tmp t => exact r.slt t
  | const v =>
    cases v with
    | int k n => exact RT.lit rfl
    | bool b => exact RT.lit rfl
    | string s => exact RT.lit rfl
    | slice ao n c =>
      show RV E w _ (match (Value.slice ao n c) with
        | .int k n => .c (.t (.lit (.int k n)))
        | .bool b => .c (.t (.lit (.bool b)))
        | .string s => .c (.t (.lit (.string s)))
        | .slice none 0 0 => .c .nil
        | .pointer none => .nilp
        | _ => .bot)
      split
      · rename_i h; cases h
      · rename_i h; cases h
      · rename_i h; cases h
      · rename_i h; rw [show a.eval (.const (.slice ao n c)) = .slice ao n c from rfl, h]; exact rfl
      · rename_i h; cases h
      · exact trivial
    | pointer p =>
      cases p with
      | none => exact rfl
      | some p => exact trivial
    | _ => exact trivial
  | global g => exact trivial
  | func f => exact rfl
theorem ev_nm {m : Nat} {st : St} (sc : Sc m st) (x : Operand) : NmV st (ev st x) := by
  cases x with
  | tmp t => exact ⟨sc.sb t, sc.sr t⟩
  | const v =>
    have : (ev st (.const v)).bids = [] ∧ (ev st (.const v)).rids = [] := by
      unfold ev
      split
      · rename_i h; cases h
      · split <;> exact ⟨rfl, rfl⟩
      · rename_i h; cases h
      · rename_i h; cases h
    exact ⟨fun b hb => (by rw [this.1] at hb; cases hb), fun p hp => (by rw [this.2] at hp; cases hp)⟩
  | global g => exact ⟨fun b hb => (by cases hb), fun p hp => (by cases hp)⟩
  | func f => exact ⟨fun b hb => (by cases hb), fun p hp => (by cases hp)⟩
/-- What the table says of a type. -/
theorem ty_info0 {t : Nat} {y : Ty} (h : tyOkB P t y = true) : ∃ i zv, P.info? t = some i ∧ i.size = y.sz ∧ i.bytes = y.by_ ∧ i.zero = some zv ∧ cesAre y.z zv.cells.toList = true ∧ zv.cells.size = i.size := by
  unfold tyOkB at h
  simp only [Bool.and_eq_true] at h
  have h := h.1.1
  split at h
  · rename_i i hi
    simp only [Bool.and_eq_true] at h
    obtain ⟨⟨h1, h2⟩, h3⟩ := h
    split at h3
    · rename_i zv hz
      simp only [Bool.and_eq_true] at h3
      exact ⟨i, zv, hi, Nat.eq_of_beq_eq_true h1, Nat.eq_of_beq_eq_true h2, hz, h3.1, Nat.eq_of_beq_eq_true h3.2⟩
    · cases h3
  · cases h
theorem ty_info {t : Nat} {y : Ty} (h : tyOkB P t y = true) : ∃ i zv, P.info? t = some i ∧ i.size = y.sz ∧ i.bytes = y.by_ ∧ i.zero = some zv ∧ cesAre y.z zv.cells.toList = true := by
  obtain ⟨i, zv, h1, h2, h3, h4, h5, _⟩ := ty_info0 h
  exact ⟨i, zv, h1, h2, h3, h4, h5⟩
theorem ty_kind {t : Nat} {y : Ty} (h : tyOkB P t y = true) : (match y.k, P.underlying t with
  | .bas, some .bool => true
  | .int k, some (.int k') => decide (k = k')
  | .string, some .string => true
  | .slc e, some (.slice e') => Nat.beq e e'
  | .arr n e, some (.array n' e') => Nat.beq n n' && Nat.beq e e'
  | .str fs, some (.struct fl) => fieldsAre P fl.toList fs
  | _, _ => false) = true := by
  unfold tyOkB at h
  simp only [Bool.and_eq_true] at h
  exact h.1.2
theorem ty_bas {t : Nat} {y : Ty} (h : tyOkB P t y = true) (hk : y.k = .bas) : P.underlying t = some .bool := by
  have h := ty_kind h
  rw [hk] at h
  split at h <;> simp_all
theorem ty_int {t : Nat} {y : Ty} (h : tyOkB P t y = true) {k : IntKind} (hk : y.k = .int k) : P.underlying t = some (.int k) := by
  have h := ty_kind h
  rw [hk] at h
  split at h <;> simp_all
theorem ty_string {t : Nat} {y : Ty} (h : tyOkB P t y = true) (hk : y.k = .string) : P.underlying t = some .string := by
  have h := ty_kind h
  rw [hk] at h
  split at h <;> simp_all
theorem ty_slc {t : Nat} {y : Ty} (h : tyOkB P t y = true) {e : Nat} (hk : y.k = .slc e) : P.underlying t = some (.slice e) := by
  have h := ty_kind h
  rw [hk] at h
  split at h <;> simp_all
theorem ty_arr {t : Nat} {y : Ty} (h : tyOkB P t y = true) {n e : Nat} (hk : y.k = .arr n e) : P.underlying t = some (.array n e) := by
  have h := ty_kind h
  rw [hk] at h
  split at h <;> simp_all
theorem ty_str {t : Nat} {y : Ty} (h : tyOkB P t y = true) {fs : List (Nat × Nat)} (hk : y.k = .str fs) : ∃ fl, P.underlying t = some (.struct fl) ∧ fieldsAre P fl.toList fs = true := by
  have h := ty_kind h
  rw [hk] at h
  split at h <;> simp_all
theorem ty_und {t : Nat} {y : Ty} (h : tyOkB P t y = true) : ∃ d, P.underlying t = some d ∧ d.isRow = y.isAgg := by
  have h := ty_kind h
  unfold Ty.isAgg
  split at h <;> first | (rename_i h1 h2; rw [h1, h2]; exact ⟨_, rfl, rfl⟩) | cases h
theorem ty_agg {t : Nat} {y : Ty} (h : tyOkB P t y = true) (w : World) : (isAgg t).run P w = .ok y.isAgg w := by
  obtain ⟨d, hd, he⟩ := ty_und h
  unfold isAgg
  rw [Sem.run_bind, run_underlying hd w, ← he]
  cases d <;> rfl
theorem ty_size {t : Nat} {y : Ty} (h : tyOkB P t y = true) (w : World) : (Go.sizeOf t).run P w = .ok y.sz w := by
  obtain ⟨i, _, hi, hs, _⟩ := ty_info h
  simp [Go.sizeOf, typeInfo, hi, hs]
theorem fieldsAre_get : ∀ {fl : List Field} {fs : List (Nat × Nat)}, fieldsAre P fl fs = true → ∀ (i o ft : Nat), fs[i]? = some (o, ft) → ∃ f, fl[i]? = some f ∧ f.offset = o ∧ f.type = ft
  | [], [], _, i, o, ft, h => by simp at h
  | f :: fl, (o', t') :: fs, h, 0, o, ft, hi => by
    simp only [fieldsAre, Bool.and_eq_true] at h
    cases hi
    exact ⟨f, rfl, Nat.eq_of_beq_eq_true h.1.1.1, Nat.eq_of_beq_eq_true h.1.1.2⟩
  | f :: fl, (o', t') :: fs, h, i + 1, o, ft, hi => by
    simp only [fieldsAre, Bool.and_eq_true] at h
    exact fieldsAre_get h.2 i o ft hi
  | [], _ :: _, h, _, _, _, _ => by cases h
  | _ :: _, [], h, _, _, _, _ => by cases h
theorem fieldsAre_len : ∀ {fl : List Field} {fs : List (Nat × Nat)}, fieldsAre P fl fs = true → fl.length = fs.length
  | [], [], _ => rfl
  | f :: fl, (o', t') :: fs, h => by
    simp only [fieldsAre, Bool.and_eq_true] at h
    simp [fieldsAre_len h.2]
  | [], _ :: _, h => by cases h
  | _ :: _, [], h => by cases h
theorem A2.split {α β : Type} {R : α → β → Prop} {xs : List α} {ys : List β} (h : A2 R xs ys) (o n : Nat) : A2 R ((xs.drop o).take n) ((ys.drop o).take n) := (h.drop o).take n
/-- A part of a struct's cells, as a value. -/
theorem cut_rv {E : Env} {w : World} {y : Ty} {cs : List Ce} {o : Nat} {av : AV} {vs : List Value} (hc : cut y cs o = some av) (h : A2 (RC E w) vs cs) :
    (y.isAgg = true ∧ o + y.sz ≤ vs.length ∧ av = .agg ((cs.drop o).take y.sz) ∧ A2 (RC E w) ((vs.drop o).take y.sz) ((cs.drop o).take y.sz)) ∨
    (y.isAgg = false ∧ ∃ v c, vs[o]? = some v ∧ av = .c c ∧ cs[o]? = some c ∧ RC E w v c) := by
  unfold cut at hc
  split at hc
  · rename_i ha
    cases hb : Nat.ble (o + y.sz) cs.length with
    | false => rw [hb] at hc; cases hc
    | true =>
      rw [hb] at hc
      cases hc
      exact .inl ⟨ha, by rw [h.len]; exact Nat.le_of_ble_eq_true hb, rfl, h.split o y.sz⟩
  · rename_i ha
    split at hc
    · rename_i c hcs
      cases hc
      obtain ⟨v, hv, hr⟩ := h.get o c hcs
      exact .inr ⟨by simpa using ha, v, c, hv, rfl, hcs, hr⟩
    · cases hc
theorem cutT_cut {y : Ty} {cs : List Tr} {o : Nat} {av : AV} (h : cutT y cs o = some av) : cut y (cs.map .t) o = some av := by
  unfold cutT at h
  unfold cut
  split at h
  · rename_i ha
    rw [if_pos ha, List.length_map]
    cases hb : Nat.ble (o + y.sz) cs.length with
    | false => rw [hb] at h; cases h
    | true => rw [hb] at h; cases h; simp [List.map_drop, List.map_take]
  · rename_i ha
    rw [if_neg ha, List.getElem?_map]
    split at h
    · rename_i c hc
      rw [hc]
      cases h
      rfl
    · cases h
theorem rtl_a2 {E : Env} {w : World} : ∀ {vs : List Value} {ts : List Tr}, RTL E.F w vs ts → A2 (RC E w) vs (ts.map .t)
  | _, _, .nil => .nil
  | _, _, .cons h1 h2 => .cons h1 (rtl_a2 h2)
theorem cut_nm {st : St} {y : Ty} {cs : List Ce} {o : Nat} {av : AV} (hc : cut y cs o = some av) (h : ∀ p ∈ cs.flatMap Ce.rids, st.hasR p) : NmV st av := by
  unfold cut at hc
  split at hc
  · cases hb : Nat.ble (o + y.sz) cs.length with
    | false => rw [hb] at hc; cases hc
    | true =>
      rw [hb] at hc
      cases hc
      refine ⟨fun b hb => (by cases hb), fun p hp => h p ?_⟩
      obtain ⟨c, h1, h2⟩ := List.mem_flatMap.1 (show p ∈ ((cs.drop o).take y.sz).flatMap Ce.rids from hp)
      exact List.mem_flatMap.2 ⟨c, List.mem_of_mem_drop (List.mem_of_mem_take h1), h2⟩
  · split at hc
    · rename_i c hcs
      cases hc
      exact ⟨fun b hb => (by cases hb), fun p hp => h p (List.mem_flatMap.2 ⟨c, List.mem_of_getElem? hcs, hp⟩)⟩
    · cases hc
theorem rids_t (ts : List Tr) : (ts.map Ce.t).flatMap Ce.rids = [] := by
  induction ts with
  | nil => rfl
  | cons t ts ih => rw [List.map_cons, List.flatMap_cons, ih]; rfl
theorem cutT_nm {st : St} {y : Ty} {cs : List Tr} {o : Nat} {av : AV} (hc : cutT y cs o = some av) : NmV st av := cut_nm (cutT_cut hc) (fun p hp => by rw [rids_t] at hp; cases hp)
theorem addr_add (g o j : Nat) : (⟨g, o, none⟩ : Addr).add j = ⟨g, o + j, none⟩ := by unfold Addr.add; split <;> simp_all
/-- A variable that lies at p of block g is read. -/
theorem load_rv {E : Env} {w : World} {t : Nat} {y : Ty} (hy : tyOkB P t y = true) {g p o : Nat} {vs : List Value} {cs : List Ce} {av : AV} (hcell : ∀ (i : Nat) u, vs[i]? = some u → w.cell? ⟨g, p + i, none⟩ = some u) (h : A2 (RC E w) vs cs) (hc : cut y cs o = some av) :
    ∃ v, (Instr.loadAt t (.pointer (some ⟨g, p + o, none⟩))).run P w = .ok v w ∧ R1 E w v av := by
  rcases cut_rv hc h with ⟨ha, hl, rfl, h2⟩ | ⟨ha, v, c, hv, rfl, _, hr⟩
  · obtain ⟨d, hd, he⟩ := ty_und hy
    obtain ⟨i, _, hi, hs, _⟩ := ty_info hy
    have hlen : ((vs.drop o).take y.sz).length = y.sz := by rw [List.length_take, List.length_drop]; omega
    refine ⟨.agg ((vs.drop o).take y.sz).toArray, run_loadAt_mid w g (p + o) t _ d (fun j v hv => ?_) hd (he.trans ha) (by rw [hi, hlen]; exact congrArg some hs), ⟨_, rfl, h2⟩⟩
    rw [List.getElem?_take] at hv
    split at hv
    · rw [List.getElem?_drop] at hv
      rw [Nat.add_assoc]
      exact hcell _ _ hv
    · cases hv
  · refine ⟨v, ?_, hr⟩
    simp only [Instr.loadAt, Instr.sureAddr, Sem.run_bind, Sem.run_pure, Result.andThen_ok, loadVar, ty_agg hy, ha]
    have := hcell o v hv
    simp [this]
theorem RB.cells {E : Env} {w : World} {n0 i : Nat} {cs : List Ce} (h : RB E w n0 i cs) : ∃ vs, (∀ (j : Nat) u, vs[j]? = some u → w.cell? ⟨E.bk i, 0 + j, none⟩ = some u) ∧ A2 (RC E w) vs cs := by
  obtain ⟨vs, t, _, hb, _, ha⟩ := h
  refine ⟨vs, fun j u hu => ?_, ha⟩
  rw [Nat.zero_add, cell_of_row _ _ _ _ _ _ hb]
  simpa using hu
theorem RV.r1 {E : Env} {w : World} {v : Value} {a : AV} (h : RV E w v a) (ha : ∀ ars, a ≠ .tup ars) : R1 E w v a := by
  cases a with
  | tup ars => exact absurd rfl (ha ars)
  | _ => exact h
theorem R1.rv {E : Env} {w : World} {v : Value} {a : AV} (h : R1 E w v a) : RV E w v a := by
  cases a with
  | tup ars => exact h.elim
  | _ => exact h
theorem ksAre_lits : ∀ {ks : List K} {ls : List Lk}, ksAre ks ls = true → ∀ {vs : List Value}, litsAre ls vs = true → Lits ks vs
  | [], [], _, [], _ => .nil
  | [], [], _, _ :: _, h => by cases h
  | .lit k :: ks, l :: ls, h, [], h2 => by cases h2
  | .lit k :: ks, l :: ls, h, v :: vs, h2 => by
    simp only [ksAre, Bool.and_eq_true, decide_eq_true_eq] at h
    simp only [litsAre, Bool.and_eq_true] at h2
    obtain ⟨rfl, h⟩ := h
    refine .cons ?_ (ksAre_lits h h2.2)
    have h3 := h2.1
    unfold litIs at h3
    split at h3 <;> first | (cases h3; done) | exact ⟨_, rfl⟩
  | .sl _ _ :: _, _, h, _, _ => by simp [ksAre] at h
  | [], _ :: _, h, _, _ => by cases h
  | .lit _ :: _, [], h, _, _ => by cases h
theorem lits_of {ks : List K} {ls : List Lk} (h : ksAre ks ls = true) {vs : List Value} (h2 : litsAre ls vs = true) : Lits ks vs := ksAre_lits h h2
theorem ty_eq {t : Nat} {y : Ty} (h : tyOkB P t y = true) (hn : ¬ y.eq = []) : ∃ ks, eqShape P 12 t = some ks ∧ ksAre ks y.eq = true ∧ P.eqGuardType P.depth t = false := by
  unfold tyOkB at h
  simp only [Bool.and_eq_true] at h
  have h := h.2
  simp only [Bool.or_eq_true, Bool.and_eq_true, List.isEmpty_iff, hn, false_or] at h
  split at h
  · rename_i ks hks
    exact ⟨ks, hks, h.1, by simpa using h.2⟩
  · cases h.1
theorem ty_aggB {t : Nat} {y : Ty} (h : tyOkB P t y = true) : isAggB P t = y.isAgg := by
  obtain ⟨d, hd, he⟩ := ty_und h
  unfold isAggB
  rw [hd, ← he]
  cases d <;> rfl
theorem lits_a2 {E : Env} {w : World} : ∀ {vs : List Value} {cs : List Ce} {us : List Value}, A2 (RC E w) vs cs → lits? cs = some us → vs = us
  | _, _, us, .nil, h => by
    obtain rfl := Option.some.inj h
    rfl
  | _, c :: cs, us, .cons (x := v) h1 h2, h => by
    unfold lits? at h
    split at h
    · cases ‹c :: cs = []›
    · rename_i u rest he
      cases he
      split at h
      · rename_i vs' hvs
        cases h
        have h1 : RT E.F w v (.lit u) := h1
        cases h1
        rw [lits_a2 h2 hvs]
      · cases h
    · cases h
section
variable {E : Env} {w : World} {n0 N m : Nat} {st : St} {a : Act}
theorem RT.len {F : Nat → Prop} {v : Value} {k : Nat} {xs : List (List Tr)} (h : RT F w v (.sl k xs)) : ∃ ao cap, v = .slice ao xs.length cap ∧ xs.length ≤ cap ∧ (ao = none → cap = 0) := by
  cases h with
  | slNil hc => exact ⟨_, _, rfl, Nat.zero_le _, hc⟩
  | slSome h1 h2 => subst h1; exact ⟨_, _, rfl, h2, fun h => by cases h⟩
theorem row_len {e k n : Nat} {v : Value} {xs : List Value} {B : Nat} (h : w.ownsRow B e k v n xs) : ∃ ao cap, v = .slice ao n cap ∧ n ≤ cap ∧ (ao = none → cap = 0) := by
  rcases h.2 with ⟨rfl, rfl⟩ | ⟨g, cap, cur, rfl, _, _, hc, _⟩
  · exact ⟨none, 0, rfl, Nat.le_refl _, fun _ => rfl⟩
  · exact ⟨_, cap, rfl, hc, fun h => by cases h⟩
theorem elems_len (r : RepM O E w n0 N m st a) {v : Value} {av : AV} {k : Nat} {xs : List (List Tr)} (hv : RV E w v av) (h : elemsA st av = some (k, xs)) : ∃ ao cap, v = .slice ao xs.length cap := by
  unfold elemsA at h
  split at h
  · rename_i c
    split at h
    · rename_i k' xs' hc
      cases h
      unfold treeC at hc
      split at hc
      · cases hc
        obtain ⟨ao, cap, h1, _⟩ := RT.len hv
        exact ⟨ao, cap, h1⟩
      · cases hc
        exact ⟨none, 0, hv⟩
      · rename_i τ ver
        split at hc
        · rename_i R hR
          cases hb : Nat.beq R.ver ver with
          | false => rw [hb] at hc; cases hc
          | true =>
            rw [hb] at hc
            cases hc
            obtain ⟨es, h1, h2, _⟩ := r.row τ R hR
            have hver := Nat.eq_of_beq_eq_true hb
            obtain ⟨ao, cap, h3, _⟩ := row_len h1
            have hv2 : v = E.vl τ ver := hv.1
            rw [hv2, ← hver, h3, h2.len]
            exact ⟨ao, cap, rfl⟩
        · cases hc
      · cases hc
    · cases h
  · cases h
abbrev OkV (P : Program) (E : Env) (w : World) (st : St) (a : Act) (o : Oper) (av : AV) : Prop := ∃ v, (execOp a.eval o).run P w = .ok (.value v) w ∧ RV E w v av ∧ NmV st av
theorem ok_load (hT : TabOk P T) (r : RepM O E w n0 N m st a) {o : Oper} {t : Nat} {x : Operand} (ho : o.op = .load t x) {av : AV} (h : pureS T st (.load t x) = some av) : OkV P E w st a o av := by
  have hx := ev_rv r x
  simp only [pureS] at h
  cases hy : T t with
  | none => rw [hy] at h; cases h
  | some y =>
    rw [hy] at h
    simp only at h
    have hty := hT.ty t y hy
    split at h
    · rename_i b off he
      split at h
      · rename_i cs hcs
        rw [he] at hx
        obtain ⟨vs, h1, h2⟩ := (r.box b cs hcs).cells
        obtain ⟨v, hv, hr⟩ := load_rv hty h1 h2 h
        refine ⟨v, ?_, hr.rv, cut_nm h (r.sc.br b cs hcs)⟩
        have hx : a.eval x = .pointer (some ⟨E.bk b, off, none⟩) := hx
        rw [Nat.zero_add] at hv
        unfold execOp
        simp only [ho, hx, Sem.run_bind, hv, Result.andThen_ok, Sem.run_pure]
      · cases h
    · rename_i xs off he
      rw [he] at hx
      obtain ⟨g, p, vs, hv, _, _, h3, h4⟩ := hx
      obtain ⟨v, hl, hr⟩ := load_rv hty h3 (rtl_a2 h4) (cutT_cut h)
      refine ⟨v, ?_, hr.rv, cutT_nm h⟩
      unfold execOp
      simp only [ho, hv, Sem.run_bind, hl, Result.andThen_ok, Sem.run_pure]
    · cases h
theorem ok_nil (r : RepM O E w n0 N m st a) {o : Oper} {x : Operand} (ho : o.op = .nilCheck x) {av : AV} (h : pureS T st (.nilCheck x) = some av) : OkV P E w st a o av := by
  have hx := ev_rv r x
  have hn := ev_nm r.sc x
  simp only [pureS] at h
  split at h
  · rename_i b off he
    cases h
    rw [he] at hx hn
    have hv : a.eval x = _ := hx
    exact ⟨_, by unfold execOp; simp only [ho, hv, Sem.run_pure], rfl, hn⟩
  · rename_i xs off he
    cases h
    rw [he] at hx hn
    obtain ⟨g, p, vs, hv, h1⟩ := hx
    exact ⟨_, by unfold execOp; simp only [ho, hv, Sem.run_pure], ⟨g, p, vs, rfl, h1⟩, hn⟩
  · rename_i τ v k i off he
    cases h
    rw [he] at hx hn
    obtain ⟨g, n, c, h1, hv⟩ := hx
    exact ⟨_, by unfold execOp; simp only [ho, hv, Sem.run_pure], ⟨g, n, c, h1, rfl⟩, hn⟩
  · cases h
theorem rv_lit {v u : Value} (h : RV E w v (.c (.t (.lit u)))) : v = u := by
  have h : RT E.F w v (.lit u) := h
  cases h
  rfl
theorem eqGuard_lit (op : BinOp) (t : TypeId) (x y : Operand) (u v : Value) (hu : litV u = true) : eqGuard op t x y u v = Pure.pure () := by
  cases u <;> first | (cases hu; done) | (cases op <;> rfl)
theorem ok_val {o : Oper} {v : Value} {u : Value} (hv : (execOp a.eval o).run P w = .ok (.value v) w) (h : v = u) (hl : litV u = true) : OkV P E w st a o (.c (.t (.lit u))) := by
  subst h
  exact ⟨v, hv, RT.lit hl, nmv_lit _ _⟩
theorem binI_lit {op : BinOp} {k : IntKind} {x y : Int} {v : Value} (h : binI op k x y = some v) : litV v = true := by
  unfold binI at h
  split at h <;> first
    | (cases h; done)
    | (obtain rfl := Option.some.inj h; rfl)
    | (cases hd : decide (y = 0) with
       | true => rw [hd] at h; cases h
       | false => rw [hd] at h; obtain rfl := Option.some.inj h; rfl)
theorem run_binI {op : BinOp} {t : TypeId} {k : IntKind} {x y : Int} {v : Value} (h : binI op k x y = some v) : (binOp op t (.int k x) (.int k y)).run P w = .ok v w := by
  unfold binI at h
  split at h <;> first
    | (cases h; done)
    | (obtain rfl := Option.some.inj h; simp [binOp, Op.intArith, Op.intBits, Op.intCmp]; done)
    | (cases hd : decide (y = 0) with
       | true => rw [hd] at h; cases h
       | false =>
         rw [hd] at h
         have hy : ¬ y = 0 := of_decide_eq_false hd
         obtain rfl := Option.some.inj h
         simp [binOp, Op.intDiv, hy])
theorem ok_bin (hT : TabOk P T) (r : RepM O E w n0 N m st a) {o : Oper} {op : BinOp} {t t' : TypeId} {x y : Operand} (ho : o.op = .binOp op t x y t') {av : AV} (h : pureS T st (.binOp op t x y t') = some av) : OkV P E w st a o av := by
  have hx := ev_rv r x
  have hy := ev_rv r y
  simp only [pureS] at h
  have go : ∀ u v z, a.eval x = u → a.eval y = v → (eqGuard op t x y u v = Pure.pure () ∨ (eqGuard op t x y u v).run P w = .ok () w) → (binOp op t u v).run P w = .ok z w → (execOp a.eval o).run P w = .ok (.value z) w := fun u v z h1 h2 h3 h4 => by
    unfold execOp
    rcases h3 with h3 | h3
    · simp only [ho, h1, h2, h3, Sem.run_bind, Sem.run_pure, Result.andThen_ok, h4]
    · simp only [ho, h1, h2, h3, Sem.run_bind, Sem.run_pure, Result.andThen_ok, h4]
  unfold binA at h
  split at h
  · rename_i k1 n1 k2 n2 e1 e2
    rw [e1] at hx
    rw [e2] at hy
    split at h
    · rename_i hk
      subst hk
      split at h
      · rename_i v hv
        cases h
        exact ok_val (go _ _ _ (rv_lit hx) (rv_lit hy) (.inl (eqGuard_lit _ _ _ _ _ _ rfl)) (run_binI hv)) rfl (binI_lit hv)
      · cases h
    · cases h
  · rename_i b1 b2 e1 e2
    rw [e1] at hx
    rw [e2] at hy
    split at h
    · rename_i y1 hy1
      have hu := ty_bas (hT.ty t _ hy1) rfl
      unfold binB at h
      cases op <;> simp only at h <;> first | (cases h; done) | skip
      · cases h
        refine ok_val (go _ _ _ (rv_lit hx) (rv_lit hy) (.inl (eqGuard_lit _ _ _ _ _ _ rfl)) ?_) rfl rfl
        simp [binOp, run_equal_bool, hu]
      · cases h
        refine ok_val (go _ _ _ (rv_lit hx) (rv_lit hy) (.inl (eqGuard_lit _ _ _ _ _ _ rfl)) ?_) rfl rfl
        simp [binOp, run_equal_bool, hu]
    · cases h
  · rename_i s1 s2 e1 e2
    rw [e1] at hx
    rw [e2] at hy
    cases op <;> simp only at h <;> first | (cases h; done) | skip
    · cases h
      refine ok_val (go _ _ _ (rv_lit hx) (rv_lit hy) (.inl (eqGuard_lit _ _ _ _ _ _ rfl)) ?_) rfl rfl
      simp [binOp, Op.stringOp]
    · cases h
      refine ok_val (go _ _ _ (rv_lit hx) (rv_lit hy) (.inl (eqGuard_lit _ _ _ _ _ _ rfl)) ?_) rfl rfl
      simp [binOp, Op.stringOp]
  · rename_i xs ys e1 e2
    rw [e1] at hx
    rw [e2] at hy
    split at h
    · rename_i yt us vs hyt hus hvs
      cases hc : (yt.isAgg && !yt.eq.isEmpty) && (litsAre yt.eq us && litsAre yt.eq vs) with
      | false => rw [hc] at h; cases h
      | true =>
        rw [hc] at h
        simp only [cond_true] at h
        simp only [Bool.and_eq_true] at hc
        obtain ⟨⟨hag, hne⟩, hlu, hlv⟩ := hc
        have hty := hT.ty t _ hyt
        obtain ⟨ks, hks, hka, hgd⟩ := ty_eq hty (by simpa using hne)
        obtain ⟨x', hx', ax⟩ := hx
        obtain ⟨y', hy', ay⟩ := hy
        obtain rfl := lits_a2 ax hus
        obtain rfl := lits_a2 ay hvs
        have hg : (eqGuard op t x y (.agg x'.toArray) (.agg y'.toArray)).run P w = .ok () w := run_eqGuard_agg w op t x y _ _ hgd
        have ha : isAggB P t = true := by rw [ty_aggB hty]; exact hag
        cases op <;> simp only at h <;> first | (cases h; done) | skip
        · cases h
          exact ok_val (go _ _ _ hx' hy' (.inr hg) (run_eql_sh hks (by omega) ha w _ _ (lits_of hka hlu) (lits_of hka hlv))) rfl rfl
        · cases h
          exact ok_val (go _ _ _ hx' hy' (.inr hg) (run_neq_sh hks (by omega) ha w _ _ (lits_of hka hlu) (lits_of hka hlv))) rfl rfl
    · cases h
  · cases h
theorem ok_un (r : RepM O E w n0 N m st a) {o : Oper} {op : UnOp} {t : TypeId} {x : Operand} (ho : o.op = .unOp op t x) {av : AV} (h : pureS T st (.unOp op t x) = some av) : OkV P E w st a o av := by
  have hx := ev_rv r x
  simp only [pureS] at h
  unfold unA at h
  split at h
  · rename_i b e
    rw [e] at hx
    cases h
    exact ok_val (u := .bool (!b)) (by unfold execOp; simp only [ho, rv_lit hx, Op.unary, Sem.run_bind, Sem.run_pure, Result.andThen_ok]) rfl rfl
  · rename_i k n e
    rw [e] at hx
    cases h
    exact ok_val (u := .int k (k.wrap (0 - n))) (by unfold execOp; simp only [ho, rv_lit hx, Op.unary, Op.intArith, Sem.run_bind, Sem.run_pure, Result.andThen_ok]) rfl rfl
  · cases h
theorem ok_conv (hT : TabOk P T) (r : RepM O E w n0 N m st a) {o : Oper} {src dst : TypeId} {x : Operand} (ho : o.op = .convert src dst x) {av : AV} (h : pureS T st (.convert src dst x) = some av) : OkV P E w st a o av := by
  have hx := ev_rv r x
  simp only [pureS] at h
  split at h
  · rename_i ys k _ _ _ _ kk n e1 e2 e3
    rw [e3] at hx
    cases h
    obtain ⟨d, hd, _⟩ := ty_und (hT.ty src _ e1)
    have hi := ty_int (hT.ty dst _ e2) rfl
    exact ok_val (u := .int k (k.wrap n)) (by unfold execOp; simp only [ho, rv_lit hx, convert, run_underlying hd, run_underlying hi, Conv.intToInt, Sem.run_bind, Sem.run_pure, Result.andThen_ok]) rfl rfl
  · rename_i s e1 e2 e3
    rw [e3] at hx
    cases h
    have hd := ty_string (hT.ty src _ e1) rfl
    have hi := ty_string (hT.ty dst _ e2) rfl
    exact ok_val (u := .string s) (by unfold execOp; simp only [ho, rv_lit hx, convert, run_underlying hd, run_underlying hi, Sem.run_bind, Sem.run_pure, Result.andThen_ok]) rfl rfl
  · cases h
theorem ok_extract (r : RepM O E w n0 N m st a) {o : Oper} {x : Operand} {i : Nat} (ho : o.op = .extract x i) {av : AV} (h : pureS T st (.extract x i) = some av) : OkV P E w st a o av := by
  have hx := ev_rv r x
  have hn := ev_nm r.sc x
  simp only [pureS] at h
  split at h
  · rename_i vs e
    rw [e] at hx hn
    obtain ⟨us, hu, ha⟩ := hx
    obtain ⟨v, hv, hr⟩ := ha.get i _ h
    have hm : av ∈ vs := List.mem_of_getElem? h
    have hb : ∀ ars, av ≠ .tup ars := fun ars e => by rw [e] at hr; exact hr
    refine ⟨v, ?_, hr.rv, fun b hb' => hn.1 b ?_, fun p hp => hn.2 p ?_⟩
    · unfold execOp
      simp only [ho, hu, Instr.extract, Sem.run_bind]
      rw [show us.toArray[i]? = some v by simpa using hv]
      simp only [Sem.run_pure, Result.andThen_ok]
    · refine List.mem_flatMap.2 ⟨av, hm, ?_⟩
      cases av with
      | tup ars => exact absurd rfl (hb ars)
      | _ => exact hb'
    · refine List.mem_flatMap.2 ⟨av, hm, ?_⟩
      cases av with
      | tup ars => exact absurd rfl (hb ars)
      | _ => exact hp
  · cases h
theorem part_rv {t : Nat} {y : Ty} (hy : tyOkB P t y = true) {vs : List Value} {cs : List Ce} {o : Nat} {av : AV} (h : A2 (RC E w) vs cs) (hc : cut y cs o = some av) : ∃ v, (part t vs.toArray o).run P w = .ok v w ∧ R1 E w v av := by
  rcases cut_rv hc h with ⟨ha, hl, rfl, h2⟩ | ⟨ha, v, c, hv, rfl, _, hr⟩
  · refine ⟨.agg (vs.toArray.extract o (o + y.sz)), by simp [part, ty_agg hy, ha, ty_size hy], ⟨_, ?_, h2⟩⟩
    congr 1
    apply Array.toList_inj.1
    rw [Array.toList_extract]
    simp [List.extract]
  · exact ⟨v, by simp [part, ty_agg hy, ha, hv], hr⟩
theorem ok_field (hT : TabOk P T) (r : RepM O E w n0 N m st a) {o : Oper} {t : TypeId} {x : Operand} {f : Nat} (ho : o.op = .field t x f) {av : AV} (h : pureS T st (.field t x f) = some av) : OkV P E w st a o av := by
  have hx := ev_rv r x
  have hn := ev_nm r.sc x
  simp only [pureS] at h
  split at h
  · rename_i fs _ _ _ _ e1
    obtain ⟨fl, hu, hfl⟩ := ty_str (hT.ty t _ e1) rfl
    split at h
    · rename_i off ft e2
      obtain ⟨fd, hfd, ho1, ht1⟩ := fieldsAre_get hfl f off ft e2
      split at h
      · rename_i y cs e3 e4
        rw [e4] at hx hn
        obtain ⟨vs, hv, ha⟩ := hx
        obtain ⟨v, hp, hr⟩ := part_rv (hT.ty ft y e3) ha h
        refine ⟨v, ?_, hr.rv, cut_nm h hn.2⟩
        have hfd' : fl[f]? = some fd := by rw [← Array.getElem?_toList]; exact hfd
        unfold execOp
        simp only [ho, hv, Instr.field, Sem.run_bind, run_underlying hu, Result.andThen_ok, hfd', asAgg, Sem.run_pure, ho1, ht1, hp]
      · cases h
    · cases h
  · cases h
theorem ok_fieldAddr (hT : TabOk P T) (r : RepM O E w n0 N m st a) {o : Oper} {t : TypeId} {x : Operand} {f : Nat} (ho : o.op = .fieldAddr t x f) {av : AV} (h : pureS T st (.fieldAddr t x f) = some av) : OkV P E w st a o av := by
  have hx := ev_rv r x
  have hn := ev_nm r.sc x
  simp only [pureS] at h
  split at h
  · rename_i fs _ _ _ _ e1
    obtain ⟨fl, hu, hfl⟩ := ty_str (hT.ty t _ e1) rfl
    split at h
    · rename_i off ft e2
      obtain ⟨fd, hfd, ho1, ht1⟩ := fieldsAre_get hfl f off ft e2
      have hfd' : fl[f]? = some fd := by rw [← Array.getElem?_toList]; exact hfd
      split at h
      · rename_i y e3
        cases hb : Nat.blt 0 y.sz with
        | false => rw [hb] at h; cases h
        | true =>
          rw [hb] at h
          simp only [cond_true] at h
          have hsz : ¬ y.sz = 0 := by have : 0 < y.sz := Nat.le_of_ble_eq_true hb; omega
          have go : ∀ g p, a.eval x = .pointer (some ⟨g, p, none⟩) → (execOp a.eval o).run P w = .ok (.value (.pointer (some ⟨g, p + off, none⟩))) w := fun g p hp => by
            unfold execOp
            simp only [ho, hp, Instr.fieldAt, Sem.run_bind, run_underlying hu, Result.andThen_ok, hfd', Instr.sureAddr, fieldPlace, ht1, ty_size (hT.ty ft y e3), if_neg hsz, Sem.run_pure, ho1, addr_add]
          split at h
          · rename_i b off' e4
            rw [e4] at hx hn
            cases h
            exact ⟨_, go _ _ hx, rfl, hn⟩
          · rename_i xs off' e4
            rw [e4] at hx hn
            cases h
            obtain ⟨g, p, vs, hv, h1⟩ := hx
            exact ⟨_, go _ _ hv, ⟨g, p, vs, by rw [Nat.add_assoc], h1⟩, hn⟩
          · rename_i τ v k i off' e4
            rw [e4] at hx hn
            cases h
            obtain ⟨g, n, c, h1, hv⟩ := hx
            exact ⟨_, go _ _ hv, ⟨g, n, c, h1, by rw [Nat.add_assoc]⟩, hn⟩
          · cases h
      · cases h
    · cases h
  · cases h
theorem cellsA_rv {v : Value} {av : AV} {cs : List Ce} (h : cellsA av = some cs) (hv : RV E w v av) : A2 (RC E w) v.cells.toList cs := by
  unfold cellsA at h
  split at h
  · cases h
    have h1 : v.oneCell' = true := RC.one hv
    have : v.cells.toList = [v] := by cases v <;> first | rfl | (cases h1; done)
    rw [this]
    exact .cons hv .nil
  · cases h
    obtain ⟨vs, rfl, ha⟩ := hv
    exact ha
  · cases h
theorem cellsA_nm {av : AV} {cs : List Ce} (h : cellsA av = some cs) (hn : NmV st av) : ∀ p ∈ cs.flatMap Ce.rids, st.hasR p := by
  unfold cellsA at h
  split at h
  · cases h
    intro p hp
    exact hn.2 p (by rw [List.flatMap_cons, List.flatMap_nil, List.append_nil] at hp; exact hp)
  · cases h
    exact hn.2
  · cases h
theorem A2.splice {vs us : List Value} {cs xs : List Ce} (h : A2 (RC E w) vs cs) (h2 : A2 (RC E w) us xs) (o : Nat) : A2 (RC E w) (vs.take o ++ us ++ vs.drop (o + us.length)) (splice cs o xs) := by
  rw [Cg.splice_eq]
  rw [h2.len]
  exact ((h.take o).append h2).append (h.drop _)
theorem fold_set : ∀ (us : List Value) (off k : Nat) (vs : List Value), off + k + us.length ≤ vs.length → (us.zipIdx k).foldl (fun (cs : Array Value) (p : Value × Nat) => cs.setIfInBounds (off + p.2) p.1) vs.toArray = (vs.take (off + k) ++ us ++ vs.drop (off + k + us.length)).toArray
  | [], off, k, vs, h => by simp
  | u :: us, off, k, vs, h => by
    rw [List.length_cons] at h
    rw [List.zipIdx_cons, List.foldl_cons, List.setIfInBounds_toArray, fold_set us off (k + 1) (vs.set (off + k) u) (by rw [List.length_set]; omega)]
    congr 1
    rw [show off + (k + 1) = off + k + 1 by omega, List.take_succ_eq_append_getElem (by rw [List.length_set]; omega), List.take_set_of_le (Nat.le_refl _), List.getElem_set_self, List.drop_set_of_lt (by omega), List.length_cons, show off + k + 1 + us.length = off + k + (us.length + 1) by omega]
    simp
theorem fill_rv (r : RepM O E w n0 N m st a) {pl pl2 : Nat → Option (Nat × Nat)} (hpl : ∀ i p, pl i = some p → pl2 i = some p) : ∀ {parts : List (Nat × Operand)} {cs xs : List Ce} {vs : List Value}, partsC st pl parts cs = some xs → A2 (RC E w) vs cs → ∃ us, Instr.fill pl2 vs.toArray (parts.map fun p => (p.1, a.eval p.2)) = some us.toArray ∧ A2 (RC E w) us xs
  | [], cs, xs, vs, h, ha => by
    cases h
    exact ⟨vs, rfl, ha⟩
  | (j, x) :: parts, cs, xs, vs, h, ha => by
    unfold partsC at h
    split at h
    · rename_i off sz us e1 e2
      cases hb : Nat.beq us.length sz && Nat.ble (off + us.length) cs.length with
      | false => rw [hb] at h; cases h
      | true =>
        rw [hb] at h
        simp only [cond_true] at h
        simp only [Bool.and_eq_true] at hb
        have h1 := Nat.eq_of_beq_eq_true hb.1
        have h2 := Nat.le_of_ble_eq_true hb.2
        have hu := cellsA_rv e2 (ev_rv r x)
        have hl := hu.len
        rw [Array.length_toList] at hl
        obtain ⟨us', h3, h4⟩ := fill_rv r hpl h (ha.splice hu off)
        refine ⟨us', ?_, h4⟩
        rw [List.map_cons, Instr.fill, hpl _ _ e1]
        simp only
        rw [if_neg (by
          simp only [ne_eq, List.size_toArray, Bool.or_eq_true, decide_eq_true_eq, not_or, Decidable.not_not]
          rw [hl, ha.len]
          exact ⟨h1, by omega⟩)]
        rw [← h3]
        congr 1
        rw [← Array.foldl_toList, Array.toList_zipIdx, fold_set _ off 0 vs (by rw [Array.length_toList, hl, ha.len]; omega)]
        rw [Nat.add_zero]
    · cases h
theorem ceIs_rv {c : Ce} {v : Value} (h : ceIs c v = true) : RC E w v c := by
  unfold ceIs at h
  split at h
  · simp only [Bool.and_eq_true, decide_eq_true_eq] at h
    obtain ⟨rfl, rfl⟩ := h
    exact RT.lit rfl
  · simp only [beq_iff_eq] at h
    subst h
    exact RT.lit rfl
  · rename_i s s'
    simp only [Bool.and_eq_true, beq_iff_eq, Array.size_eq_zero_iff] at h
    have e : s' = s := by
      cases s; cases s'
      simp_all
    subst e
    exact RT.lit rfl
  · exact rfl
  · cases h
theorem cesAre_rv : ∀ {cs : List Ce} {vs : List Value}, cesAre cs vs = true → A2 (RC E w) vs cs
  | [], [], _ => .nil
  | [], _ :: _, h => by cases h
  | _ :: _, [], h => by cases h
  | c :: cs, v :: vs, h => by
    simp only [cesAre, Bool.and_eq_true] at h
    exact .cons (ceIs_rv h.1) (cesAre_rv h.2)
theorem cesAre_nm : ∀ {cs : List Ce} {vs : List Value}, cesAre cs vs = true → cs.flatMap Ce.rids = []
  | [], [], _ => rfl
  | [], _ :: _, h => by cases h
  | _ :: _, [], h => by cases h
  | c :: cs, v :: vs, h => by
    simp only [cesAre, Bool.and_eq_true] at h
    rw [List.flatMap_cons, cesAre_nm h.2, List.append_nil]
    have h := h.1
    unfold ceIs at h
    split at h <;> first | rfl | (cases h; done)
theorem partsC_nm {m : Nat} (sc : Sc m st) {pl : Nat → Option (Nat × Nat)} : ∀ {parts : List (Nat × Operand)} {cs xs : List Ce}, partsC st pl parts cs = some xs → (∀ p ∈ cs.flatMap Ce.rids, st.hasR p) → ∀ p ∈ xs.flatMap Ce.rids, st.hasR p
  | [], cs, xs, h, ha => by
    cases h
    exact ha
  | (j, x) :: parts, cs, xs, h, ha => by
    unfold partsC at h
    split at h
    · rename_i off sz us e1 e2
      cases hb : Nat.beq us.length sz && Nat.ble (off + us.length) cs.length with
      | false => rw [hb] at h; cases h
      | true =>
        rw [hb] at h
        refine partsC_nm sc h (fun p hp => ?_)
        obtain ⟨c, hc, hpc⟩ := List.mem_flatMap.1 hp
        rw [splice_eq] at hc
        rcases List.mem_append.1 hc with hc | hc
        · rcases List.mem_append.1 hc with hc | hc
          · exact ha p (List.mem_flatMap.2 ⟨c, List.mem_of_mem_take hc, hpc⟩)
          · exact cellsA_nm e2 (ev_nm sc x) p (List.mem_flatMap.2 ⟨c, hc, hpc⟩)
        · exact ha p (List.mem_flatMap.2 ⟨c, List.mem_of_mem_drop hc, hpc⟩)
    · cases h
theorem places_run {fl : List Field} {fs : List (Nat × Nat)} (h : fieldsAre P fl fs = true) : ∃ places, fl.mapM (fun f => (P.info? f.type).map fun i => (f.offset, i.size)) = some places ∧ ∀ (i o ft : Nat) y, fs[i]? = some (o, ft) → tyOkB P ft y = true → places[i]? = some (o, y.sz) := by
  induction fl generalizing fs with
  | nil =>
    cases fs with
    | nil => exact ⟨[], rfl, fun i o ft y h => by simp at h⟩
    | cons _ _ => cases h
  | cons f fl ih =>
    cases fs with
    | nil => cases h
    | cons p fs =>
      obtain ⟨o', t'⟩ := p
      simp only [fieldsAre, Bool.and_eq_true] at h
      obtain ⟨⟨⟨h1, h2⟩, h3⟩, h4⟩ := h
      have h1 := Nat.eq_of_beq_eq_true h1
      have h2 := Nat.eq_of_beq_eq_true h2
      obtain ⟨i0, hi0⟩ := Option.isSome_iff_exists.1 h3
      obtain ⟨places, h5, h6⟩ := ih h4
      refine ⟨(o', i0.size) :: places, ?_, fun i o ft y hi hy => ?_⟩
      · simp [List.mapM_cons, h2, hi0, h5, h1]
      · rcases i with _ | i
        · cases hi
          obtain ⟨i1, _, g1, g2, _⟩ := ty_info hy
          rw [hi0] at g1
          cases g1
          simp [g2]
        · exact h6 i o ft y hi hy
theorem ok_build (hT : TabOk P T) (r : RepM O E w n0 N m st a) {o : Oper} {t : TypeId} {parts : Array (Nat × Operand)} (ho : o.op = .build t parts) {av : AV} (h : pureS T st (.build t parts) = some av) : OkV P E w st a o av := by
  simp only [pureS] at h
  split at h
  · rename_i fs _ _ z _ e1
    have hty := hT.ty t _ e1
    obtain ⟨fl, hu, hfl⟩ := ty_str hty rfl
    obtain ⟨i, zv, hi, _, _, hz, hzc⟩ := ty_info hty
    obtain ⟨places, hpl, hplace⟩ := places_run hfl
    split at h
    · rename_i cs hcs
      cases h
      obtain ⟨us, h1, h2⟩ := fill_rv r (pl2 := fun i => places.toArray[i]?) (fun i p hp => by
        split at hp
        · rename_i off ft e2
          split at hp
          · rename_i y e3
            cases hp
            have := hplace i off ft y e2 (hT.ty ft y e3)
            simpa using this
          · cases hp
        · cases hp) hcs (cesAre_rv (E := E) (w := w) hzc)
      refine ⟨.agg us.toArray, ?_, ⟨us, rfl, h2⟩, fun b hb => (by cases hb), partsC_nm r.sc hcs (fun p hp => by rw [cesAre_nm hzc] at hp; cases hp)⟩
      unfold execOp
      simp only [ho, Sem.run_bind]
      rw [run_build (P := P) w t _ us.toArray (by
        unfold Program.built
        simp only [hi, hu, hz, hpl]
        rw [← h1]
        congr 1
        simp)]
      rfl
    · cases h
  · rename_i n e _ _ z _ e1
    have hty := hT.ty t _ e1
    have hu := ty_arr hty rfl
    obtain ⟨i, zv, hi, _, _, hz, hzc⟩ := ty_info hty
    split at h
    · rename_i y e2
      split at h
      · rename_i cs hcs
        cases h
        obtain ⟨us, h1, h2⟩ := fill_rv r (pl2 := fun i => some (i * y.sz, y.sz)) (fun i p hp => hp) hcs (cesAre_rv (E := E) (w := w) hzc)
        refine ⟨.agg us.toArray, ?_, ⟨us, rfl, h2⟩, fun b hb => (by cases hb), partsC_nm r.sc hcs (fun p hp => by rw [cesAre_nm hzc] at hp; cases hp)⟩
        obtain ⟨ie, _, hie, hies, _⟩ := ty_info (hT.ty e y e2)
        unfold execOp
        simp only [ho, Sem.run_bind]
        rw [run_build (P := P) w t _ us.toArray (by
          unfold Program.built
          simp only [hi, hu, hz, hie, hies]
          rw [← h1]
          congr 1
          simp)]
        rfl
      · cases h
    · cases h
  · cases h
theorem ok_len (hT : TabOk P T) (r : RepM O E w n0 N m st a) {o : Oper} {c : Call} (ho : o.op = .call c) {av : AV} (h : pureS T st (.call c) = some av) : OkV P E w st a o av := by
  obtain ⟨cl, ar, ty⟩ := c
  simp only [pureS] at h
  split at h
  · rename_i x t e2 e3
    obtain rfl : ar = #[x] := Array.toList_inj.1 e2
    obtain rfl : ty = #[t] := Array.toList_inj.1 e3
    have hx := ev_rv r x
    clear e2 e3
    split at h
    · rename_i e1
      split at h
      · rename_i s e
        rw [e] at hx
        cases h
        have hd := ty_string (hT.ty t _ e1) rfl
        refine ok_val (u := .int .i64 s.size) (by unfold execOp; simp [ho, rv_lit hx, resolve, invoke, builtin, Builtin.len_, run_underlying hd]; rfl) rfl rfl
      · cases h
    · rename_i e1
      have hd := ty_slc (hT.ty t _ e1) rfl
      split at h
      · rename_i k xs e
        cases h
        obtain ⟨ao, cap, hv⟩ : ∃ ao cap, a.eval x = .slice ao xs.length cap := elems_len r hx e
        refine ok_val (u := .int .i64 xs.length) (by unfold execOp; simp [ho, hv, resolve, invoke, builtin, Builtin.len_, run_underlying hd]; rfl) rfl rfl
      · cases h
    · cases h
  · cases h
theorem ok_pure (hT : TabOk P T) (r : RepM O E w n0 N m st a) {o : Oper} {av : AV} (h : pureS T st o.op = some av) : OkV P E w st a o av := by
  obtain ⟨dst, op, type, pos, after, guard⟩ := o
  simp only at h
  cases op with
  | move x =>
    cases h
    exact ⟨a.eval x, by unfold execOp; rfl, ev_rv r x, ev_nm r.sc x⟩
  | assign x =>
    cases h
    exact ⟨a.eval x, by unfold execOp; rfl, ev_rv r x, ev_nm r.sc x⟩
  | load t x => exact ok_load hT r rfl h
  | nilCheck x => exact ok_nil r rfl h
  | binOp op t x y t' => exact ok_bin hT r rfl h
  | unOp op t x => exact ok_un r rfl h
  | convert src dst x => exact ok_conv hT r rfl h
  | field t x f => exact ok_field hT r rfl h
  | fieldAddr t x f => exact ok_fieldAddr hT r rfl h
  | extract x i => exact ok_extract r rfl h
  | build t ps => exact ok_build hT r rfl h
  | call c => exact ok_len hT r rfl h
  | _ => cases h
end
end Cg
end
section
namespace Cg
open Go Go.RowKit Go.Sort Go.Lib
variable {P : Program} {T : Nat → Option Ty} {O : Nat → Prop}
/-- The operation comes to an end, and behind it the state is what d says. -/
def Done (P : Program) (O : Nat → Prop) (o : Oper) (a : Act) (w : World) (n0 N m : Nat) (st : St) (d : Dl) : Prop := ∀ (K : Act → World → Prop) (Q : Exit → Act → World → Prop), (∀ E' v w', RepM O E' w' n0 N m (st.app o.dst d) (a.put o.dst v) → Below n0 w w' → K (a.put o.dst v) w') → o.wp P a w K Q
/-- Nothing changes but the slot. -/
theorem Mv.refl (st : St) (E : Env) (w : World) (X Y : Nat → Prop) : Mv st E w E w X Y := ⟨Nat.le_refl _, fun _ _ => rfl, fun _ h _ => ⟨rfl, h⟩, fun _ _ _ => rfl, fun _ _ _ _ _ h => ⟨rfl, h⟩, fun _ _ _ _ _ => rfl, fun _ _ _ _ _ _ _ h => ⟨rfl, h⟩⟩
theorem dlsc_val {m : Nat} {st : St} {v : AV} (h : NmV st v) : DlSc m st (.val v) := ⟨fun _ _ _ _ h => (by cases h), fun b hb => .inl (h.1 b hb), fun p hp => .inl (h.2 p hp), fun _ _ h => (by cases h), fun _ _ h => (by cases h)⟩
section
variable {E : Env} {w : World} {n0 N m id : Nat} {st : St} {a : Act}
theorem OkV.done {o : Oper} {av : AV} (h : OkV P E w st a o av) (r : RepM O E w n0 N m st a) (hd : ∀ x, o.dst = some x → x < N) : Done P O o a w n0 N m st (.val av) := by
 obtain ⟨v, hv, hr, hn⟩ := h
 intro K Q hK
 unfold Oper.wp
 rw [hv]
 exact hK E v w (r.app hd (Mv.refl _ _ _ _ _) (dlsc_val hn) hr (fun _ _ h => by cases h) (fun _ _ h => by cases h)) (Below.refl _ _)
/-- The numbers from id on, 128 of them, are not in use. -/
def Fresh (st : St) (id : Nat) : Prop := ∀ i, id ≤ i → i < id + 128 → lk st.bx i = none ∧ lk st.rw i = none
/-- Places with the new block g as variable i. -/
def Env.nb (E : Env) (g i : Nat) : Env := ⟨fun b => if b < g then E.rl b else .bx i, fun j => if j = i then g else E.bk j, E.vl⟩
theorem mv_nb {w' : World} (hb : Below w.heap.size w w') (hf : lk st.bx id = none) (X Y : Nat → Prop) : Mv st E w (E.nb w.heap.size id) w' X Y :=
 Mv.below hb (fun b hlt => by simp only [Env.nb, if_pos hlt]) (fun i cs hi => by
  simp only [Env.nb]
  rw [if_neg (fun e => by rw [e, hf] at hi; cases hi)]) (fun _ _ _ _ _ => rfl)
/-- A new variable. -/
theorem done_new (r : RepM O E w n0 N m st a) {o : Oper} (hd : ∀ x, o.dst = some x → x < N) (hf : Fresh st id) (hm : id < m) {vs : List Value} {cs : List Ce} {t : TypeId} (hrun : (execOp a.eval o).run P w = .ok (.value (.pointer (some ⟨w.heap.size, 0, none⟩))) (w.alloc (.cells vs.toArray t))) (hc : A2 (RC E w) vs cs) (hn : ∀ p ∈ cs.flatMap Ce.rids, st.hasR p) :
  Done P O o a w n0 N m st ⟨.ptr id 0, [(id, cs)], []⟩ := by
 intro K Q hK
 unfold Oper.wp
 rw [hrun]
 have hb : Below w.heap.size w (w.alloc (.cells vs.toArray t)) := (Below.refl _ _).alloc (Nat.le_refl _) _
 have hfb := (hf id (Nat.le_refl _) (by omega)).1
 have mv := mv_nb (E := E) hb hfb (fun i => ∃ cs', lk [(id, cs)] i = some cs') (fun τ => ∃ R, lk ([] : List (Nat × Row)) τ = some R)
 refine hK (E.nb w.heap.size id) _ _ (r.app hd mv ⟨fun _ _ _ _ h => (by cases h), fun b hb => .inr ?_, fun p hp => (by cases hp), fun b cs' h => ?_, fun _ _ h => (by cases h)⟩ ?_ (fun i cs' hi => ?_) (fun _ _ h => by cases h)) (hb.mono r.hi)
 ·obtain rfl : b = id := by simpa [AV.bids, AV.bid1] using hb
  exact ⟨cs, by simp [lk]⟩
 ·rw [lk_cons] at h
  split at h
  ·rename_i e
   subst e
   cases h
   exact ⟨hn, hm⟩
  ·cases h
 ·show _ = _
  simp [Env.nb]
 ·rw [lk_cons] at hi
  split at hi
  ·rename_i e
   subst e
   cases hi
   refine ⟨vs, t, by simp only [Env.nb, if_pos]; exact r.hi, ?_, by simp [Env.nb], hc.fr mv.size mv.cold (fun p hp => mv.vr (hn p hp))⟩
   simp only [Env.nb, if_pos]
   exact heap_alloc_new w _
  ·cases hi
theorem done_alloc (hT : TabOk P T) (r : RepM O E w n0 N m st a) {o : Oper} (hd : ∀ x, o.dst = some x → x < N) (hf : Fresh st id) (hm : id < m) {e : Nat} {y : Ty} (ho : o.op = .alloc e) (hy : T e = some y) : Done P O o a w n0 N m st ⟨.ptr id 0, [(id, y.z)], []⟩ := by
 obtain ⟨i, zv, hi, _, _, hz, hzc⟩ := ty_info (hT.ty e y hy)
 refine done_new r hd hf hm (vs := zv.cells.toList) (t := e) ?_ (cesAre_rv hzc) (fun p hp => by rw [cesAre_nm hzc] at hp; cases hp)
 unfold execOp
 simp [ho, Instr.alloc, zeroValue, typeInfo, hi, hz, newVar, newRow]
theorem done_box (r : RepM O E w n0 N m st a) {o : Oper} (hd : ∀ x, o.dst = some x → x < N) (hf : Fresh st id) (hm : id < m) {e : Nat} {x : Operand} {cs : List Ce} (ho : o.op = .box e x) (hx : cellsA (ev st x) = some cs) : Done P O o a w n0 N m st ⟨.ptr id 0, [(id, cs)], []⟩ := by
 refine done_new r hd hf hm (vs := (a.eval x).cells.toList) (t := e) ?_ (cellsA_rv hx (ev_rv r x)) (cellsA_nm hx (ev_nm r.sc x))
 unfold execOp
 simp [ho, Instr.box, newVar, newRow]
theorem Bk.set {w : World} {b : Nat} {t : TypeId} {cs : List Value} (h : Bk w b t cs) (i : Nat) (u : Value) : Bk (w.setCell ⟨b, i, none⟩ u) b t (cs.set i u) := by
 unfold Bk at *
 simp only [World.setCell, Array.getElem?_modify]
 simp [h]
theorem Bk.sets {b : Nat} {t : TypeId} : ∀ {cs : List Value} (o : Nat) (us : List Value) {w : World}, Bk w b t cs → o + us.length ≤ cs.length → Bk (w.setCells b o us) b t (cs.take o ++ us ++ cs.drop (o + us.length))
 | cs, o, [], w, h, _ => by
  rw [List.append_nil, List.length_nil, Nat.add_zero, List.take_append_drop]
  exact h
 | cs, o, u :: us, w, h, hl => by
  rw [List.length_cons] at hl
  have h1 := Bk.sets (o + 1) us (h.set o u) (by rw [List.length_set]; omega)
  rw [List.take_succ_eq_append_getElem (by rw [List.length_set]; omega), List.take_set_of_le (Nat.le_refl o), List.getElem_set_self, List.drop_set_of_lt (by omega)] at h1
  have e : cs.take o ++ [u] ++ us ++ cs.drop (o + 1 + us.length) = cs.take o ++ u :: us ++ cs.drop (o + (us.length + 1)) := by
   rw [show o + 1 + us.length = o + (us.length + 1) by omega]
   simp
  rw [e] at h1
  exact h1
theorem tv_sets_size (b : Nat) : ∀ (us : List Value) (o : Nat) (w : World), (w.setCells b o us).heap.size = w.heap.size
 | [], _, _ => rfl
 | u :: r, o, w => by rw [World.setCells, tv_sets_size b r]; simp [World.setCell]
theorem tv_heap_sets (b : Nat) : ∀ (us : List Value) (o : Nat) (w : World) (k : Nat), k ≠ b → (w.setCells b o us).heap[k]? = w.heap[k]?
 | [], _, _, _, _ => rfl
 | u :: r, o, w, k, hk => (tv_heap_sets b r (o + 1) _ k hk).trans (Below.heap_setCell w ⟨b, o, none⟩ u k hk)
theorem tv_below_sets {B : Nat} {w : World} : ∀ (us : List Value) (i : Nat) (w' : World), Below B w w' → ∀ b, B ≤ b → Below B w (w'.setCells b i us)
 | [], _, _, h, _, _ => h
 | u :: r, i, w', h, b, hb => tv_below_sets r (i + 1) (w'.setCell ⟨b, i, none⟩ u) ⟨h.os, h.tape, h.output, by have := h.size; simpa [World.setCell] using this, fun k hk => (Below.heap_setCell w' ⟨b, i, none⟩ u k (fun e => by have : k = b := e; omega)).trans (h.block k hk)⟩ b hb
theorem run_storeAt (hT : TabOk P T) {t : Nat} {y : Ty} (hy : T t = some y) {g p : Nat} {v : Value} (hl : v.cells.size = y.sz) (ht : w.there g p y.sz) (h1 : ∀ u ∈ v.cells.toList, u.oneCell' = true) :
  (Instr.storeAt t (.pointer (some ⟨g, p, none⟩)) v).run P w = .ok () (w.setCells g p v.cells.toList) := by
 have hs := run_storeCells_cells (P := P) g p v.cells.toList 0 w (fun j hj => by simpa using (ht j (by rw [← hl]; simpa using hj)).1) (fun j hj => by simpa using (ht j (by rw [← hl]; simpa using hj)).2) h1
 rw [Nat.add_zero] at hs
 simp [Instr.storeAt, Instr.sureAddr, storeVar, ty_size (hT.ty t y hy), hl, hs]
theorem done_storeB (hT : TabOk P T) (r : RepM O E w n0 N m st a) {o : Oper} (hd : ∀ x, o.dst = some x → x < N) {t : Nat} {ax x : Operand} {y : Ty} {us : List Ce} {b off : Nat} {cs : List Ce} (ho : o.op = .store t ax x) (hy : T t = some y) (hx : cellsA (ev st x) = some us) (hl : us.length = y.sz) (hax : ev st ax = .ptr b off) (hb : lk st.bx b = some cs) (hoff : off + us.length ≤ cs.length) :
  Done P O o a w n0 N m st ⟨.bot, [(b, splice cs off us)], []⟩ := by
 have ha := ev_rv r ax
 rw [hax] at ha
 have ha : a.eval ax = .pointer (some ⟨E.bk b, off, none⟩) := ha
 obtain ⟨vs, tb, h1, h2, h3, h4⟩ := r.box b cs hb
 have hu := cellsA_rv hx (ev_rv r x)
 have hul := hu.len
 have hn := cellsA_nm hx (ev_nm r.sc x)
 have hbn := r.sc.br b cs hb
 have hol : off + (a.eval x).cells.toList.length ≤ vs.length := by rw [hul, h4.len]; exact hoff
 have hk2 := h2.sets off _ hol
 have hrun := run_storeAt (P := P) (w := w) hT hy (g := E.bk b) (p := off) (v := a.eval x) (by rw [← Array.length_toList, hul, hl]) (fun j hj => by
  rw [cell_of_row _ _ _ _ _ _ h2]
  refine ⟨?_, by simp [World.frozen?, show w.heap[E.bk b]? = _ from h2]⟩
  rw [List.getElem?_toArray, List.getElem?_eq_getElem (by rw [h4.len]; omega)]
  rfl) (A2.one hu)
 intro K Q hK
 unfold Oper.wp execOp
 simp only [ho, ha, Sem.run_bind, hrun, Result.andThen_ok, Sem.run_pure, Oper.upon]
 have hne : ∀ {k}, k ≠ E.bk b → (w.setCells (E.bk b) off (a.eval x).cells.toList).heap[k]? = w.heap[k]? := fun hk => tv_heap_sets _ _ _ _ _ hk
 have mv : Mv st E w E (w.setCells (E.bk b) off (a.eval x).cells.toList) (fun i => ∃ cs', lk [(b, splice cs off us)] i = some cs') (fun τ => ∃ R, lk ([] : List (Nat × Row)) τ = some R) := by
  refine ⟨by rw [tv_sets_size]; exact Nat.le_refl _, fun _ _ => rfl, fun k hk _ => ⟨hne (fun e => by rw [e, h3] at hk; cases hk), hk⟩, fun _ _ _ => rfl, fun i cs' hi hX _ hrl => ⟨hne (fun e => ?_), hrl⟩, fun _ _ _ _ _ => rfl, fun τ R hτ _ g hg _ hrl => ⟨hne (fun e => by rw [e, h3] at hrl; cases hrl), hrl⟩⟩
  rw [e, h3] at hrl
  cases hrl
  exact hX ⟨splice cs off us, by simp [lk]⟩
 refine hK E _ _ (r.app hd mv ⟨fun _ _ _ _ h => (by cases h), fun b hb => (by cases hb), fun p hp => (by cases hp), fun b' cs' h => ?_, fun _ _ h => (by cases h)⟩ trivial (fun i cs' hi => ?_) (fun _ _ h => by cases h)) (tv_below_sets _ _ _ (Below.refl _ _) _ h1)
 ·rw [lk_cons] at h
  split at h
  ·rename_i e
   subst e
   cases h
   refine ⟨fun p hp => ?_, r.sc.fb b cs hb⟩
   obtain ⟨c, hc, hpc⟩ := List.mem_flatMap.1 hp
   rw [splice_eq] at hc
   rcases List.mem_append.1 hc with hc | hc
   ·rcases List.mem_append.1 hc with hc | hc
    ·exact hbn p (List.mem_flatMap.2 ⟨c, List.mem_of_mem_take hc, hpc⟩)
    ·exact hn p (List.mem_flatMap.2 ⟨c, hc, hpc⟩)
   ·exact hbn p (List.mem_flatMap.2 ⟨c, List.mem_of_mem_drop hc, hpc⟩)
  ·cases h
 ·rw [lk_cons] at hi
  split at hi
  ·rename_i e
   subst e
   cases hi
   refine ⟨_, tb, h1, hk2, h3, ?_⟩
   exact A2.splice (h4.fr mv.size mv.cold (fun p hp => mv.vr (hbn p hp))) (hu.fr mv.size mv.cold (fun p hp => mv.vr (hn p hp))) off
  ·cases hi
end
end Cg
end
section
namespace Cg
open Go Go.RowKit Go.Sort Go.Lib
variable {P : Program} {T : Nat → Option Ty} {O : Nat → Prop}
theorem flat_splice {k : Nat} : ∀ (es : List (Cl k)) (i : Nat) (x y : Cl k) (o : Nat) (us : List Value), es[i]? = some x → o + us.length ≤ k → y.1 = x.1.take o ++ us ++ x.1.drop (o + us.length) → (es.set i y).flatMap Subtype.val = (es.flatMap Subtype.val).take (i * k + o) ++ us ++ (es.flatMap Subtype.val).drop (i * k + o + us.length)
 | [], i, x, y, o, us, h, _, _ => by simp at h
 | e :: es, 0, x, y, o, us, h, hl, hy => by
  obtain rfl : e = x := by simpa using h
  have hk := e.2.1
  rw [List.set_cons_zero, List.flatMap_cons, List.flatMap_cons, hy, Nat.zero_mul, Nat.zero_add, List.take_append_of_le_length (by omega), List.drop_append_of_le_length (by omega)]
  simp
 | e :: es, i + 1, x, y, o, us, h, hl, hy => by
  have ih := flat_splice es i x y o us (by simpa using h) hl hy
  have hk := e.2.1
  rw [List.set_cons_succ, List.flatMap_cons, List.flatMap_cons, ih, List.take_append, List.drop_append, List.take_of_length_le (l := e.1) (by rw [hk, Nat.add_mul]; omega), List.drop_of_length_le (l := e.1) (by rw [hk, Nat.add_mul]; omega), hk]
  rw [show (i + 1) * k + o - k = i * k + o by rw [Nat.add_mul]; omega, show (i + 1) * k + o + us.length - k = i * k + o + us.length by rw [Nat.add_mul]; omega]
  simp
theorem take_splice {α : Type} (l us : List α) (p n : Nat) (h : p + us.length ≤ n) (hn : n ≤ l.length) : (l.take p ++ us ++ l.drop (p + us.length)).take n = (l.take n).take p ++ us ++ (l.take n).drop (p + us.length) := by
 have h1 : (l.take p ++ us).length = p + us.length := by rw [List.length_append, List.length_take]; omega
 rw [List.take_append, h1, List.take_of_length_le (by omega), List.take_take, Nat.min_eq_left (by omega), List.drop_take]
section
variable {E : Env} {w : World} {n0 N m id : Nat} {st : St} {a : Act}
/-- Element i of a row. -/
theorem row_at {τ : Nat} {R : Row} (h : RR E w n0 τ R) {i : Nat} {xs : List Tr} (hi : R.xs[i]? = some xs) : ∃ (es : List (Cl R.k)) (g cap : Nat) (cur : Array Value) (x : Cl R.k), E.vl τ R.ver = .slice (some ⟨g, 0, none⟩) es.length cap ∧ n0 ≤ g ∧ w.heap[g]? = some (.cells cur R.ty (0, 0)) ∧ es.length ≤ cap ∧ cap ≤ maxLen ∧ cur.size = cap * R.k ∧ cur.toList.take (es.length * R.k) = es.flatMap Subtype.val ∧ Ets E.F w es R.xs ∧ E.rl g = .rw τ ∧ es[i]? = some x ∧ RTL E.F w x.1 xs ∧
  ∀ (j : Nat) u, x.1[j]? = some u → w.cell? ⟨g, i * R.k + j, none⟩ = some u := by
 obtain ⟨es, h1, h2, h3⟩ := h
 have hil := (List.getElem?_eq_some_iff.1 hi).1
 rw [← h2.len] at hil
 rcases h1.2 with ⟨_, h0⟩ | ⟨g, cap, cur, hv, hg, hgg, hc, hm, hs, ht⟩
 ·omega
 ·refine ⟨es, g, cap, cur, es[i], hv, hg, hgg, hc, hm, hs, ht, h2, h3 g (by rw [hv]; rfl), List.getElem?_eq_getElem hil, h2.at_ i _ _ (List.getElem?_eq_getElem hil) hi, fun j u hu => ?_⟩
  have hj : j < R.k := by have := (List.getElem?_eq_some_iff.1 hu).1; rwa [Cl.len] at this
  have hg2 := flat_get (enc := Subtype.val) Cl.len es i _ (List.getElem?_eq_getElem hil) j hj
  rw [cell_of_row _ _ _ _ _ _ hgg]
  rw [← ht, List.getElem?_take] at hg2
  have hlt : i * R.k + j < es.length * R.k := by
   have : (i + 1) * R.k ≤ es.length * R.k := Nat.mul_le_mul_right _ hil
   rw [Nat.add_mul] at this
   omega
  rw [if_pos hlt] at hg2
  rw [← Array.getElem?_toList, hg2]
  exact hu
theorem done_loadE (hT : TabOk P T) (r : RepM O E w n0 N m st a) {o : Oper} (hd : ∀ x, o.dst = some x → x < N) {t : Nat} {x : Operand} {y : Ty} {τ ver k i off : Nat} {R : Row} {xs : List Tr} {v : AV} (ho : o.op = .load t x) (hx : ev st x = .eptr τ ver k i off) (hy : T t = some y) (hR : lk st.rw τ = some R) (hver : R.ver = ver) (hk : R.k = k) (hi : R.xs[i]? = some xs) (hc : cutT y xs off = some v) : Done P O o a w n0 N m st (.val v) := by
 have ha := ev_rv r x
 rw [hx] at ha
 obtain ⟨g, n, c, h1, hv⟩ := ha
 obtain ⟨es, g', cap, cur, x', e1, _, _, _, _, _, _, _, _, _, h4, h5⟩ := row_at (r.row τ R hR) hi
 rw [hver, h1] at e1
 cases e1
 obtain ⟨u, hu, hr⟩ := load_rv (P := P) (hT.ty t y hy) h5 (rtl_a2 h4) (cutT_cut hc)
 refine OkV.done ⟨u, ?_, hr.rv, cutT_nm hc⟩ r hd
 rw [hk] at hu
 unfold execOp
 simp only [ho, hv, Sem.run_bind, hu, Result.andThen_ok, Sem.run_pure]
theorem plainT_rtl : ∀ {cs : List Ce} {ts : List Tr} {vs : List Value}, plainT cs = some ts → A2 (RC E w) vs cs → RTL E.F w vs ts
 | [], ts, _, h, .nil => by
  cases h
  exact .nil
 | .t x :: cs, ts, _, h, .cons h1 h2 => by
  unfold plainT at h
  split at h
  ·rename_i xs hxs
   cases h
   exact .cons h1 (plainT_rtl hxs h2)
  ·cases h
 | .nil :: cs, ts, _, h, .cons h1 h2 => by
  unfold plainT at h
  split at h
  ·rename_i xs hxs
   cases h
   refine .cons ?_ (plainT_rtl hxs h2)
   rw [show _ = Value.slice none 0 0 from h1]
   exact .slNil (fun _ => rfl)
  ·cases h
 | .row _ _ :: _, _, _, h, _ => by cases h
 | .bot :: _, _, _, h, _ => by cases h
theorem done_storeE (hT : TabOk P T) (r : RepM O E w n0 N m st a) {o : Oper} (hd : ∀ x, o.dst = some x → x < N) {t : Nat} {ax x : Operand} {y : Ty} {us : List Ce} {ts : List Tr} {τ ver k i off : Nat} {R : Row} {xs : List Tr} (ho : o.op = .store t ax x) (hy : T t = some y) (hx : cellsA (ev st x) = some us) (hl : us.length = y.sz) (hax : ev st ax = .eptr τ ver k i off) (hR : lk st.rw τ = some R) (hver : R.ver = ver) (hk : R.k = k) (hp : plainT us = some ts) (hi : R.xs[i]? = some xs) (hoff : off + ts.length ≤ R.k) :
  Done P O o a w n0 N m st ⟨.bot, [], [(τ, { R with xs := R.xs.set i (spliceT xs off ts) })]⟩ := by
 have ha := ev_rv r ax
 rw [hax] at ha
 obtain ⟨g, n, c, h1, hv⟩ := ha
 obtain ⟨es, g', cap, cur, x', e1, hg0, hgg, hcap, hml, hcs, hct, hets, hrl, hes, h4, h5⟩ := row_at (r.row τ R hR) hi
 rw [hver, h1] at e1
 cases e1
 have hu := cellsA_rv hx (ev_rv r x)
 have hut := plainT_rtl hp hu
 have hul := hut.len
 have hil := (List.getElem?_eq_some_iff.1 hes).1
 have hp2 : i * R.k + off + (a.eval x).cells.toList.length ≤ es.length * R.k := by
  have : (i + 1) * R.k ≤ es.length * R.k := Nat.mul_le_mul_right _ hil
  rw [Nat.add_mul] at this
  rw [hul]
  omega
 have hcl : es.length * R.k ≤ cur.size := by rw [hcs]; exact Nat.mul_le_mul_right _ hcap
 have hbk : Bk w g R.ty cur.toList := hgg
 have hbk2 := hbk.sets (i * R.k + off) (a.eval x).cells.toList (by rw [Array.length_toList (xs := cur)]; omega)
 have hrun := run_storeAt (P := P) (w := w) hT hy (g := g) (p := i * R.k + off) (v := a.eval x) (by rw [← Array.length_toList, hu.len, hl]) (fun j hj => by
  rw [cell_of_row _ _ _ _ _ _ hgg]
  refine ⟨?_, by simp [World.frozen?, hgg]⟩
  rw [Array.getElem?_eq_getElem (by have := hu.len; omega)]
  rfl) (A2.one hu)
 obtain ⟨y', hy'⟩ : ∃ y' : Cl R.k, y'.1 = x'.1.take off ++ (a.eval x).cells.toList ++ x'.1.drop (off + (a.eval x).cells.toList.length) := ⟨⟨_, by
  simp only [List.length_append, List.length_take, List.length_drop, Cl.len]
  omega, fun u hu' => by
  rcases List.mem_append.1 hu' with hu' | hu'
  ·rcases List.mem_append.1 hu' with hu' | hu'
   ·exact x'.one u (List.mem_of_mem_take hu')
   ·exact A2.one hu u hu'
  ·exact x'.one u (List.mem_of_mem_drop hu')⟩, rfl⟩
 intro K Q hK
 unfold Oper.wp execOp
 simp only [ho, hv, Sem.run_bind, ← hk, hrun, Result.andThen_ok, Sem.run_pure, Oper.upon]
 have hne : ∀ {k'}, k' ≠ g → (w.setCells g (i * R.k + off) (a.eval x).cells.toList).heap[k']? = w.heap[k']? := fun hk => tv_heap_sets _ _ _ _ _ hk
 have hsz : (w.setCells g (i * R.k + off) (a.eval x).cells.toList).heap.size = w.heap.size := tv_sets_size _ _ _ _
 have mv : Mv st E w E (w.setCells g (i * R.k + off) (a.eval x).cells.toList) (fun i => ∃ cs', lk ([] : List (Nat × List Ce)) i = some cs') (fun τ' => ∃ R', lk [(τ, ({ R with xs := R.xs.set i (spliceT xs off ts) } : Row))] τ' = some R') := by
  refine ⟨by rw [hsz]; exact Nat.le_refl _, fun _ _ => rfl, fun k hk' _ => ⟨hne (fun e => by rw [e, hrl] at hk'; cases hk'), hk'⟩, fun _ _ _ => rfl, fun i cs' hi hX _ hrl' => ⟨hne (fun e => by rw [e, hrl] at hrl'; cases hrl'), hrl'⟩, fun _ _ _ _ _ => rfl, fun τ' R' hτ hY g' hg' _ hrl' => ⟨hne (fun e => ?_), hrl'⟩⟩
  rw [e, hrl] at hrl'
  cases hrl'
  exact hY ⟨_, lk_cons _ _ _ _ |>.trans (if_pos rfl)⟩
 refine hK E _ _ (r.app hd mv ⟨fun τ' R1 R2 e1 e2 => ?_, fun b hb => (by cases hb), fun p hp => (by cases hp), fun _ _ h => (by cases h), fun τ' R' h => ?_⟩ trivial (fun _ _ h => by cases h) (fun τ' R' h => ?_)) (tv_below_sets _ _ _ (Below.refl _ _) _ hg0)
 ·rw [lk_cons] at e2
  split at e2
  ·rename_i e
   subst e
   cases e2
   rw [hR] at e1
   cases e1
   exact Nat.le_refl _
  ·cases e2
 ·rw [lk_cons] at h
  split at h
  ·rename_i e
   subst e
   exact r.sc.fr τ R hR
  ·cases h
 ·rw [lk_cons] at h
  split at h
  ·rename_i e
   subst e
   cases h
   refine ⟨es.set i y', ?_, ⟨by rw [List.length_set, List.length_set]; exact hets.len, fun j vs us' q1 q2 => ?_⟩, fun g2 hg2 => ?_⟩
   ·show World.ownsRow _ n0 R.ty R.k (E.vl τ R.ver) _ _
    rw [hver, h1, List.length_set]
    refine ⟨flat_len Cl.len _ |>.trans (by rw [List.length_set]), .inr ⟨g, c, _, rfl, hg0, hbk2, hcap, hml, ?_, ?_⟩⟩
    ·have q0 : (a.eval x).cells.toList.length = (a.eval x).cells.size := Array.length_toList
     simp only [List.size_toArray, List.length_append, List.length_take, List.length_drop, Array.length_toList]
     omega
    ·rw [List.toList_toArray, take_splice _ _ _ _ hp2 (by rw [Array.length_toList]; exact hcl), hct, flat_splice es i x' y' off _ hes (by rw [hul]; exact hoff) hy']
   ·have fr : ∀ {vs ts}, RTL E.F w vs ts → RTL E.F (w.setCells g (i * R.k + off) (a.eval x).cells.toList) vs ts := fun h => h.frame mv.size (fun b hb hlt => (mv.cold b hb hlt).1) (fun b hb _ => hb)
    by_cases hj : i = j
    ·subst hj
     rw [List.getElem?_set_self hil] at q1
     rw [List.getElem?_set_self (by rw [← hets.len]; exact hil)] at q2
     cases q1
     cases q2
     rw [hy']
     rw [spliceT_eq]
     rw [hul]
     exact fr ((((h4.a2).take off).append hut.a2).append ((h4.a2).drop _)).rtl
    ·rw [List.getElem?_set_ne hj] at q1 q2
     exact fr (hets.at_ j vs us' q1 q2)
   ·have h6 : (E.vl τ R.ver).ownBlock = some g2 := hg2
    rw [hver, h1] at h6
    cases h6
    exact hrl
  ·cases h
end
end Cg
end
section
namespace Cg
open Go Go.RowKit Go.Sort Go.Lib
variable {P : Program} {T : Nat → Option Ty} {O : Nat → Prop}
section
variable {E : Env} {w : World} {n0 N m id : Nat} {st : St} {a : Act}
theorem int_of {ix : Operand} {kk : IntKind} {n : Int} (r : RepM O E w n0 N m st a) (h : ev st ix = .c (.t (.lit (.int kk n)))) : a.eval ix = .int kk n := by
 have := ev_rv r ix
 rw [h] at this
 exact rv_lit this
theorem ok_pick (r : RepM O E w n0 N m st a) {o : Oper} {c x y : Operand} {t : Bool} (ho : o.op = .pick c x y) (h : ev st c = .c (.t (.lit (.bool t)))) : OkV P E w st a o (cond t (ev st x) (ev st y)) := by
 have hc := ev_rv r c
 rw [h] at hc
 have hc := rv_lit hc
 cases t with
 | true => exact ⟨a.eval x, by unfold execOp; simp [ho, hc, asBool], ev_rv r x, ev_nm r.sc x⟩
 | false => exact ⟨a.eval y, by unfold execOp; simp [ho, hc, asBool], ev_rv r y, ev_nm r.sc y⟩
theorem run_ix (hT : TabOk P T) {o : Oper} {t e : Nat} {x ix : Operand} {s b : Nat} {z : List Ce} {q : List Lk} {kk : IntKind} {n : Int} {y : Ty} {j len cap g p : Nat} (ho : o.op = .indexAddr t x ix) (ht : T t = some ⟨.slc e, s, b, z, q⟩) (hi : a.eval ix = .int kk n) (he : T e = some y) (hx : a.eval x = .slice (some ⟨g, p, none⟩) len cap) (hn : n = j) (hj : j < len) :
  (execOp a.eval o).run P w = .ok (.value (.pointer (some ⟨g, p + j * y.sz, none⟩))) w := by
 have hu := ty_slc (hT.ty t _ ht) rfl
 subst hn
 unfold execOp
 have hlt : (0 : Int) ≤ (j : Int) ∧ (j : Int) < (len : Int) := ⟨by omega, by omega⟩
 simp only [ho, hi, hx, Instr.indexAt, asIntOf, Sem.run_bind, Sem.run_pure, Result.andThen_ok, run_underlying hu, if_pos hlt, ty_size (hT.ty e y he), Int.toNat_natCast, addr_add, Sem.run_ite]
theorem rt_some {F : Nat → Prop} {v : Value} {k : Nat} {xs : List (List Tr)} (h : RT F w v (.sl k xs)) {j : Nat} {ts : List Tr} (hj : xs[j]? = some ts) : ∃ g p cap vs, v = .slice (some ⟨g, p, none⟩) xs.length cap ∧ F g ∧ g < w.heap.size ∧ (∀ (i : Nat) u, vs[i]? = some u → w.cell? ⟨g, p + j * k + i, none⟩ = some u) ∧ RTL F w vs ts := by
 cases h with
 | slNil => simp at hj
 | slSome h1 h2 h3 h4 h5 =>
  obtain ⟨vs, _, h6, h7⟩ := h5.get j ts hj
  subst h1
  exact ⟨_, _, _, vs, rfl, h3, h4, h6, h7⟩
theorem ok_ixT (hT : TabOk P T) (r : RepM O E w n0 N m st a) {o : Oper} {t e : Nat} {x ix : Operand} {s b : Nat} {z : List Ce} {q : List Lk} {kk : IntKind} {n : Int} {y : Ty} {k : Nat} {xs : List (List Tr)} {j : Nat} {ts : List Tr} (ho : o.op = .indexAddr t x ix) (ht : T t = some ⟨.slc e, s, b, z, q⟩) (hi : ev st ix = .c (.t (.lit (.int kk n)))) (he : T e = some y) (hx : ev st x = .c (.t (.sl k xs))) (hk : k = y.sz) (hn : n = j) (hj : xs[j]? = some ts) : OkV P E w st a o (.iptr ts 0) := by
 have ha := ev_rv r x
 rw [hx] at ha
 obtain ⟨g, p, cap, vs, hv, h1, h2, h3, h4⟩ := rt_some (show RT E.F w (a.eval x) (.sl k xs) from ha) hj
 refine ⟨_, run_ix hT ho ht (int_of r hi) he hv hn (List.getElem?_eq_some_iff.1 hj).1, ⟨g, p + j * y.sz, vs, by rw [Nat.add_zero], h1, h2, ?_, h4⟩, fun b hb => (by cases hb), fun p hp => (by cases hp)⟩
 rw [← hk]
 exact h3
theorem ok_ixR (hT : TabOk P T) (r : RepM O E w n0 N m st a) {o : Oper} {t e : Nat} {x ix : Operand} {s b : Nat} {z : List Ce} {q : List Lk} {kk : IntKind} {n : Int} {y : Ty} {τ ver : Nat} {R : Row} {j : Nat} (ho : o.op = .indexAddr t x ix) (ht : T t = some ⟨.slc e, s, b, z, q⟩) (hi : ev st ix = .c (.t (.lit (.int kk n)))) (he : T e = some y) (hx : ev st x = .c (.row τ ver)) (hR : lk st.rw τ = some R) (hver : R.ver = ver) (hk : R.k = y.sz) (hn : n = j) (hj : j < R.xs.length) : OkV P E w st a o (.eptr τ ver R.k j 0) := by
 have ha := ev_rv r x
 have hnm := ev_nm r.sc x
 rw [hx] at ha hnm
 have hv : a.eval x = E.vl τ ver := ha.1
 obtain ⟨es, g, cap, cur, x', e1, _, _, _, _, _, _, h2, _⟩ := row_at (r.row τ R hR) (List.getElem?_eq_getElem hj)
 rw [hver] at e1
 rw [e1] at hv
 refine ⟨_, run_ix hT ho ht (int_of r hi) he hv hn (by rw [h2.len]; exact hj), ⟨g, es.length, cap, e1, by rw [Nat.zero_add, Nat.add_zero, hk]⟩, hnm⟩
theorem run_ixA (hT : TabOk P T) {o : Oper} {t m' e : Nat} {x ix : Operand} {s b : Nat} {z : List Ce} {q : List Lk} {kk : IntKind} {n : Int} {y : Ty} {j g p : Nat} (ho : o.op = .indexAddr t x ix) (ht : T t = some ⟨.arr m' e, s, b, z, q⟩) (hi : a.eval ix = .int kk n) (he : T e = some y) (hx : a.eval x = .pointer (some ⟨g, p, none⟩)) (hn : n = j) (hj : j < m') :
  (execOp a.eval o).run P w = .ok (.value (.pointer (some ⟨g, p + j * y.sz, none⟩))) w := by
 have hu := ty_arr (hT.ty t _ ht) rfl
 subst hn
 unfold execOp
 have hlt : (0 : Int) ≤ (j : Int) ∧ (j : Int) < (m' : Int) := ⟨by omega, by omega⟩
 simp only [ho, hi, hx, Instr.indexAt, asIntOf, Instr.sureAddr, Sem.run_bind, Sem.run_pure, Result.andThen_ok, run_underlying hu, if_pos hlt, ty_size (hT.ty e y he), Int.toNat_natCast, addr_add, Sem.run_ite]
theorem ok_ixAp (hT : TabOk P T) (r : RepM O E w n0 N m st a) {o : Oper} {t m' e : Nat} {x ix : Operand} {s b : Nat} {z : List Ce} {q : List Lk} {kk : IntKind} {n : Int} {y : Ty} {g off j : Nat} (ho : o.op = .indexAddr t x ix) (ht : T t = some ⟨.arr m' e, s, b, z, q⟩) (hi : ev st ix = .c (.t (.lit (.int kk n)))) (he : T e = some y) (hx : ev st x = .ptr g off) (hn : n = j) (hj : j < m') : OkV P E w st a o (.ptr g (off + j * y.sz)) := by
 have ha := ev_rv r x
 have hnm := ev_nm r.sc x
 rw [hx] at ha hnm
 exact ⟨_, run_ixA hT ho ht (int_of r hi) he ha hn hj, rfl, hnm⟩
theorem ok_ixAi (hT : TabOk P T) (r : RepM O E w n0 N m st a) {o : Oper} {t m' e : Nat} {x ix : Operand} {s b : Nat} {z : List Ce} {q : List Lk} {kk : IntKind} {n : Int} {y : Ty} {xs : List Tr} {off j : Nat} (ho : o.op = .indexAddr t x ix) (ht : T t = some ⟨.arr m' e, s, b, z, q⟩) (hi : ev st ix = .c (.t (.lit (.int kk n)))) (he : T e = some y) (hx : ev st x = .iptr xs off) (hn : n = j) (hj : j < m') : OkV P E w st a o (.iptr xs (off + j * y.sz)) := by
 have ha := ev_rv r x
 have hnm := ev_nm r.sc x
 rw [hx] at ha hnm
 obtain ⟨g, p, vs, hv, h1⟩ := ha
 exact ⟨_, run_ixA hT ho ht (int_of r hi) he hv hn hj, ⟨g, p, vs, by rw [Nat.add_assoc], h1⟩, hnm⟩
theorem ok_ixAe (hT : TabOk P T) (r : RepM O E w n0 N m st a) {o : Oper} {t m' e : Nat} {x ix : Operand} {s b : Nat} {z : List Ce} {q : List Lk} {kk : IntKind} {n : Int} {y : Ty} {τ ver k i off j : Nat} (ho : o.op = .indexAddr t x ix) (ht : T t = some ⟨.arr m' e, s, b, z, q⟩) (hi : ev st ix = .c (.t (.lit (.int kk n)))) (he : T e = some y) (hx : ev st x = .eptr τ ver k i off) (hn : n = j) (hj : j < m') : OkV P E w st a o (.eptr τ ver k i (off + j * y.sz)) := by
 have ha := ev_rv r x
 have hnm := ev_nm r.sc x
 rw [hx] at ha hnm
 obtain ⟨g, n', c, h1, hv⟩ := ha
 exact ⟨_, run_ixA hT ho ht (int_of r hi) he hv hn hj, ⟨g, n', c, h1, by rw [Nat.add_assoc]⟩, hnm⟩
theorem ok_ixS (hT : TabOk P T) (r : RepM O E w n0 N m st a) {o : Oper} {t : Nat} {x ix : Operand} {s b : Nat} {z : List Ce} {q : List Lk} {kk : IntKind} {n : Int} {str : ByteArray} {j : Nat} (h : j < str.size) (ho : o.op = .index t x ix) (ht : T t = some ⟨.string, s, b, z, q⟩) (hx : ev st x = .c (.t (.lit (.string str)))) (hi : ev st ix = .c (.t (.lit (.int kk n)))) (hn : n = j) : OkV P E w st a o (.c (.t (.lit (.int .u8 (str[j]'h).toNat)))) := by
 have hu := ty_string (hT.ty t _ ht) rfl
 have hv := ev_rv r x
 rw [hx] at hv
 have hv := rv_lit hv
 subst hn
 refine ok_val ?_ rfl rfl
 unfold execOp
 simp only [ho, int_of r hi, hv, Instr.index, asIntOf, Sem.run_bind, Sem.run_pure, Result.andThen_ok, run_underlying hu]
 simp [h]
theorem ok_ixV (hT : TabOk P T) (r : RepM O E w n0 N m st a) {o : Oper} {t m' e : Nat} {x ix : Operand} {s b : Nat} {z : List Ce} {q : List Lk} {kk : IntKind} {n : Int} {y : Ty} {cs : List Ce} {j : Nat} {v : AV} (ho : o.op = .index t x ix) (ht : T t = some ⟨.arr m' e, s, b, z, q⟩) (hx : ev st x = .agg cs) (hi : ev st ix = .c (.t (.lit (.int kk n)))) (he : T e = some y) (hn : n = j) (hj : j < m') (hc : cut y cs (j * y.sz) = some v) : OkV P E w st a o v := by
 have hu := ty_arr (hT.ty t _ ht) rfl
 have hv := ev_rv r x
 have hnm := ev_nm r.sc x
 rw [hx] at hv hnm
 obtain ⟨vs, hv, ha⟩ := hv
 subst hn
 obtain ⟨u, hp, hr⟩ := part_rv (P := P) (hT.ty e y he) ha hc
 have hlt : (0 : Int) ≤ (j : Int) ∧ (j : Int) < (m' : Int) := ⟨by omega, by omega⟩
 refine ⟨u, ?_, hr.rv, cut_nm hc hnm.2⟩
 unfold execOp
 simp only [ho, int_of r hi, hv, Instr.index, asIntOf, Sem.run_bind, Sem.run_pure, Result.andThen_ok, run_underlying hu, if_pos hlt, ty_size (hT.ty e y he), Int.toNat_natCast, hp]
theorem bound_run (r : RepM O E w n0 N m st a) {x : Option Operand} {z n : Nat} (h : bound st x z n) : x.map a.eval = none ∧ n = z ∨ ∃ k, x.map a.eval = some (.int k n) := by
 cases x with
 | none => exact .inl ⟨rfl, h⟩
 | some x =>
  unfold bound at h
  simp only at h
  split at h
  ·rename_i k m' e
   subst h
   exact .inr ⟨k, congrArg some (int_of r e)⟩
  ·exact h.elim
theorem bounds_run (r : RepM O E w n0 N m st a) {isSl : Bool} {lo hi : Option Operand} {len cap l h : Nat} (hl : bound st lo 0 l) (hh : bound st hi len h) (h1 : l ≤ h) (h2 : h ≤ len) (hc : len ≤ cap) : (Instr.sliceBounds isSl len cap (lo.map a.eval) (hi.map a.eval) none).run P w = .ok (l, h, cap) w := by
 have c1 : (0 : Int) ≤ (h : Int) ∧ (h : Int) ≤ (cap : Int) := ⟨by omega, by omega⟩
 have c2 : (0 : Int) ≤ (l : Int) ∧ (l : Int) ≤ (h : Int) := ⟨by omega, by omega⟩
 have c3 : (0 : Int) ≤ (l : Int) ∧ (l : Int) ≤ (len : Int) := ⟨by omega, by omega⟩
 rcases bound_run r hl with ⟨e1, rfl⟩ | ⟨k1, e1⟩ <;> rcases bound_run r hh with ⟨e2, rfl⟩ | ⟨k2, e2⟩
 ·simp [Instr.sliceBounds, e1, e2]
 ·simp [Instr.sliceBounds, e1, e2, run_sliceBound w _ _ _ _ c1.1 c1.2]
 ·simp [Instr.sliceBounds, e1, e2, run_sliceBound w _ _ _ _ c3.1 c3.2]
 ·simp [Instr.sliceBounds, e1, e2, run_sliceBound w _ _ _ _ c1.1 c1.2, run_sliceBound w _ _ _ _ c2.1 c2.2]
theorem ok_slS (hT : TabOk P T) (r : RepM O E w n0 N m st a) {o : Oper} {t : Nat} {x : Operand} {lo hi : Option Operand} {s b : Nat} {z : List Ce} {q : List Lk} {str : ByteArray} {l h : Nat} (ho : o.op = .slice t x lo hi none) (ht : T t = some ⟨.string, s, b, z, q⟩) (hx : ev st x = .c (.t (.lit (.string str)))) (hl : bound st lo 0 l) (hh : bound st hi str.size h) (h1 : l ≤ h) (h2 : h ≤ str.size) : OkV P E w st a o (.s (str.extract l h)) := by
 have hu := ty_string (hT.ty t _ ht) rfl
 have hv := ev_rv r x
 rw [hx] at hv
 have hv := rv_lit hv
 refine ok_val (u := .string (str.extract l h)) ?_ rfl rfl
 unfold execOp
 simp [ho, hv, Instr.sliceAt, Instr.slice, run_underlying hu, bounds_run r hl hh h1 h2 (Nat.le_refl _)]
theorem RTE.drop {F : Nat → Prop} {k g : Nat} : ∀ {xs : List (List Tr)} {o : Nat} (l : Nat), RTE F w k g o xs → RTE F w k g (o + l * k) (xs.drop l)
 | _, _, 0, h => by simpa using h
 | [], _, l + 1, _ => by simpa using RTE.nil
 | x :: xs, o, l + 1, .cons _ _ _ h => by
  have := RTE.drop l h
  rwa [show o + k + l * k = o + (l + 1) * k by rw [Nat.add_mul]; omega] at this
theorem RTE.take {F : Nat → Prop} {k g : Nat} : ∀ {xs : List (List Tr)} {o : Nat} (l : Nat), RTE F w k g o xs → RTE F w k g o (xs.take l)
 | _, _, 0, h => .nil
 | [], _, l + 1, _ => by simpa using RTE.nil
 | x :: xs, o, l + 1, .cons h1 h2 h3 h => .cons h1 h2 h3 (RTE.take l h)
theorem RT.cases' {F : Nat → Prop} {v : Value} {k : Nat} {xs : List (List Tr)} (h : RT F w v (.sl k xs)) : xs = [] ∨ ∃ g o cap, v = .slice (some ⟨g, o, none⟩) xs.length cap ∧ xs.length ≤ cap ∧ F g ∧ g < w.heap.size ∧ RTE F w k g o xs := by
 cases h with
 | slNil => exact .inl rfl
 | slSome h1 h2 h3 h4 h5 =>
  subst h1
  exact .inr ⟨_, _, _, rfl, h2, h3, h4, h5⟩
theorem ok_slT (hT : TabOk P T) (r : RepM O E w n0 N m st a) {o : Oper} {t e : Nat} {x : Operand} {lo hi : Option Operand} {s b : Nat} {z : List Ce} {q : List Lk} {y : Ty} {k : Nat} {xs : List (List Tr)} {l h : Nat} (ho : o.op = .slice t x lo hi none) (ht : T t = some ⟨.slc e, s, b, z, q⟩) (hx : ev st x = .c (.t (.sl k xs))) (he : T e = some y) (hk : k = y.sz) (hl : bound st lo 0 l) (hh : bound st hi xs.length h) (h1 : l ≤ h) (h2 : h ≤ xs.length) : OkV P E w st a o (.c (.t (.sl k ((xs.take h).drop l)))) := by
 have hu := ty_slc (hT.ty t _ ht) rfl
 have hv := ev_rv r x
 rw [hx] at hv
 have hv : RT E.F w (a.eval x) (.sl k xs) := hv
 obtain ⟨ao, cap, hv1, hc, hnil⟩ := RT.len hv
 have hlen : ((xs.take h).drop l).length = h - l := by rw [List.length_drop, List.length_take]; omega
 refine ⟨.slice (if cap = l then ao else ao.map (·.add (l * y.sz))) (h - l) (cap - l), ?_, ?_, fun b hb => (by cases hb), fun p hp => (by cases hp)⟩
 ·unfold execOp
  simp [ho, hv1, Instr.sliceAt, Instr.slice, run_underlying hu, bounds_run r hl hh h1 h2 hc, ty_size (hT.ty e y he)]
 ·show RT E.F w _ _
  by_cases hz : h - l = 0
  ·have : (xs.take h).drop l = [] := List.eq_nil_of_length_eq_zero (by omega)
   rw [this, hz]
   refine .slNil (fun hn => ?_)
   split at hn
   ·rw [hnil hn]; omega
   ·cases ao with
    | none => rw [hnil rfl]; omega
    | some p => cases hn
  ·rcases hv.cases' with h0 | ⟨g, p, cap', hv2, _, h3, h4, h5⟩
   ·rw [h0] at h2
    simp at h2
    omega
   ·rw [hv1] at hv2
    cases hv2
    rw [if_neg (by omega)]
    simp only [Option.map_some, addr_add]
    refine .slSome (by rw [hlen]) (by omega) h3 h4 ?_
    rw [← hk]
    exact (h5.take h).drop l
end
end Cg
end
section
namespace Cg
open Go Go.RowKit Go.Sort Go.Lib
variable {P : Program} {T : Nat → Option Ty} {O : Nat → Prop}
/-- append to a row of the call's own: the row stays in its block or moves to a new one. -/
theorem tv_append (w : World) (base : Nat) (t ty e : TypeId) {i : TypeInfo} {z : Value} {k bytes : Nat} (ht : P.underlying t = some (.slice e)) (hi : P.info? e = some i) (hz : i.zero = some z) (hsize : i.size = k) (hby : i.bytes = bytes) (hzs : z.cells.size = k) (hsz : 0 < k)
  (v : Value) (n : Nat) (xs : List Value) (hown : w.ownsRow base e k v n xs)
  (a : Addr) (m c : Nat) (news : List Value) (hl : news.length = m * k) (hnews : ∀ j u, news[j]? = some u → w.cell? (a.add j) = some u) (h1 : ∀ u ∈ news, u.oneCell' = true)
  (h63 : n + m ≤ maxLen) (hbytes : (n + m) * bytes ≤ 140737488355328) (hbase : base ≤ w.heap.size) :
  ∃ v' w', (Builtin.append_ #[t, t] ty #[v, .slice (some a) m c]).run P w = .ok v' w' ∧ w'.ownsRow base e k v' (n + m) (xs ++ news) ∧ w.grownBy w' v.ownBlock ∧ (v'.ownBlock = v.ownBlock ∨ v'.ownBlock = some w.heap.size) := by
 obtain ⟨v', w', hr, h2, h3, _⟩ := run_append_own (P := P) w base t ty e i z k bytes ht hi hz hsize hby hzs hsz v n xs hown a m c news hl hnews h1 h63 hbytes hbase
 refine ⟨v', w', hr, h2, h3, ?_⟩
 have hsmall : n + m ≤ 9223372036854775807 := by simp only [maxLen] at h63; omega
 subst hsize
 subst hby
 rcases hown.2 with ⟨rfl, rfl⟩ | ⟨g, cap, cur, rfl, hbg, hg, hnc, hcm, hcs, htake⟩
 ·by_cases hm : m = 0
  ·subst hm
   have hn : news = [] := List.eq_nil_of_length_eq_zero (by simpa using hl)
   subst hn
   have hq : (Builtin.append_ #[t, t] ty #[.slice none 0 0, .slice (some a) 0 c]).run P w = .ok (.slice none 0 0) w := by
    simp [Builtin.append_, run_underlying ht, Go.sizeOf, typeInfo, hi, Builtin.lenOf, Builtin.firstCells, loadCells, loadCellsFrom]
   rw [hq] at hr
   cases hr
   exact .inl rfl
  ·have hq := run_append_nil (P := P) w t ty e i z ht hi hz a m c news hl hnews (by omega) (by omega) (by have hb := hbytes; simp only [Nat.zero_add] at hb; omega)
   rw [hq] at hr
   cases hr
   exact .inr rfl
 ·by_cases hroom : n + m ≤ cap
  ·have hfit : n * i.size + news.length ≤ cur.size := by rw [hl, hcs, ← Nat.add_mul]; exact Nat.mul_le_mul_right _ hroom
   have hq := run_append_room (P := P) w t ty e i ht hi g n cap cur hg a m c news hl hnews h1 hroom hfit
   rw [hq] at hr
   cases hr
   exact .inl rfl
  ·have holds : ∀ j u, xs[j]? = some u → w.cell? ((⟨g, 0, none⟩ : Addr).add j) = some u := hown.cells (g := g) rfl
   have hq := run_append_grow (P := P) w t ty e i z ht hi hz ⟨g, 0, none⟩ n cap xs hown.1 holds a m c news hl hnews (by omega) (by omega) (growslice_fits (by omega) hbytes)
   rw [hq] at hr
   cases hr
   exact .inr rfl
section
variable {E : Env} {w : World} {n0 N m id : Nat} {st : St} {a : Act}
theorem RTE.raw {F : Nat → Prop} {k g : Nat} : ∀ {xs : List (List Tr)} {o : Nat}, RTE F w k g o xs → ∃ es : List (Cl k), Ets F w es xs ∧ ∀ (j : Nat) u, (es.flatMap Subtype.val)[j]? = some u → w.cell? ⟨g, o + j, none⟩ = some u
 | _, _, .nil => ⟨[], ⟨rfl, fun j vs ts h => by simp at h⟩, fun j u h => by simp at h⟩
 | _, o, .cons (vs := vs) hl hc h1 h2 => by
  obtain ⟨es, h3, h4⟩ := RTE.raw h2
  refine ⟨⟨vs, hl, h1.one⟩ :: es, ⟨by simp [h3.len], fun j vs' ds' e1 e2 => ?_⟩, fun j u hu => ?_⟩
  ·rcases j with _ | j
   ·obtain rfl := Option.some.inj e1
    obtain rfl := Option.some.inj e2
    exact h1
   ·exact h3.at_ j vs' ds' e1 e2
  ·rw [List.flatMap_cons] at hu
   by_cases hj : j < vs.length
   ·rw [List.getElem?_append_left hj] at hu
    exact hc j u hu
   ·rw [List.getElem?_append_right (by simpa using hj)] at hu
    have := h4 _ u hu
    rwa [show o + k + (j - vs.length) = o + j by omega] at this
/-- The elements of a slice that is read. -/
theorem src_ok (r : RepM O E w n0 N m st a) {v : Value} {av : AV} {k kk : Nat} {ys : List (List Tr)} (hv : RV E w v av) (h : elemsA st av = some (k, ys)) (hk : k = kk ∨ ys = []) : ∃ ao cap, ∃ es : List (Cl kk), v = .slice ao ys.length cap ∧ (ao = none → cap = 0) ∧ ys.length ≤ cap ∧ Ets E.F w es ys ∧ ∀ ad, ao = some ad → ∀ (j : Nat) u, (es.flatMap Subtype.val)[j]? = some u → w.cell? (ad.add j) = some u := by
 have empty : ∀ {ao cap}, v = .slice ao 0 cap → (ao = none → cap = 0) → ys = [] → ∃ ao cap, ∃ es : List (Cl kk), v = .slice ao ys.length cap ∧ (ao = none → cap = 0) ∧ ys.length ≤ cap ∧ Ets E.F w es ys ∧ ∀ ad, ao = some ad → ∀ (j : Nat) u, (es.flatMap Subtype.val)[j]? = some u → w.cell? (ad.add j) = some u := fun h1 h2 h3 => by
  subst h3
  exact ⟨_, _, [], h1, h2, Nat.zero_le _, ⟨rfl, fun j vs ts h => by simp at h⟩, fun ad _ j u hu => by simp at hu⟩
 unfold elemsA at h
 split at h
 ·rename_i c
  split at h
  ·rename_i k' xs' hc
   cases h
   unfold treeC at hc
   split at hc
   ·cases hc
    have hv : RT E.F w v (.sl k ys) := hv
    obtain ⟨ao, cap, h1, h2, h3⟩ := RT.len hv
    rcases hv.cases' with h0 | ⟨g, o, cap', h4, h5, h6, h7, h8⟩
    ·subst h0
     exact empty h1 h3 rfl
    ·rcases hk with rfl | hk
     ·obtain ⟨es, h9, h10⟩ := h8.raw
      refine ⟨_, _, es, h4, fun h => (by cases h), h5, h9, fun ad had j u hu => ?_⟩
      cases had
      rw [addr_add]
      exact h10 j u hu
     ·subst hk
      exact empty h1 h3 rfl
   ·cases hc
    exact empty hv (fun _ => rfl) rfl
   ·rename_i τ ver
    split at hc
    ·rename_i R hR
     cases hb : Nat.beq R.ver ver with
     | false => rw [hb] at hc; cases hc
     | true =>
      rw [hb] at hc
      cases hc
      obtain ⟨es, h1, h2, _⟩ := r.row τ R hR
      have hver := Nat.eq_of_beq_eq_true hb
      obtain ⟨ao, cap, h3, h4, h5⟩ := row_len h1
      have hv2 : v = E.vl τ ver := hv.1
      rw [h2.len] at h3 h4
      rw [← hver, h3] at hv2
      rcases hk with rfl | hk
      ·refine ⟨ao, cap, es, hv2, h5, h4, h2, fun ad had j u hu => ?_⟩
       subst had
       rcases h1.2 with ⟨h6, _⟩ | ⟨g, cap2, cur, h6, _⟩
       ·rw [h3] at h6; cases h6
       ·have h7 := h1.cells (g := g) (by rw [h6]; rfl) j u hu
        rw [h3, h2.len] at h6
        cases h6
        exact h7
      ·rw [hk] at hv2
       exact empty hv2 h5 hk
    ·cases hc
   ·cases hc
  ·cases h
 ·cases h
/-- Places with a new row i. -/
def Env.nr (E : Env) (g i : Nat) (v : Value) : Env := ⟨fun b => if b < g then E.rl b else .rw i, E.bk, fun τ ver => if τ = i then v else E.vl τ ver⟩
theorem row_new (r : RepM O E w n0 N m st a) {o : Oper} (hd : ∀ x, o.dst = some x → x < N) (hf : Fresh st id) (hm : id < m) {w' : World} {v' : Value} {ty k : Nat} {es : List (Cl k)} {xs : List (List Tr)} (hb : Below w.heap.size w w') (own : w'.ownsRow w.heap.size ty k v' es.length (es.flatMap Subtype.val)) (hets : Ets E.F w es xs) (h1 : v'.oneCell' = true) :
  RepM O (E.nr w.heap.size id v') w' n0 N m (st.app o.dst ⟨.c (.row id 0), [], [(id, ⟨ty, k, 0, xs⟩)]⟩) (a.put o.dst v') := by
 have hfr := (hf id (Nat.le_refl _) (by omega)).2
 have mv : Mv st E w (E.nr w.heap.size id v') w' (fun i => ∃ cs', lk ([] : List (Nat × List Ce)) i = some cs') (fun τ => ∃ R, lk [(id, (⟨ty, k, 0, xs⟩ : Row))] τ = some R) :=
  Mv.below hb (fun b hlt => by simp only [Env.nr, if_pos hlt]) (fun _ _ _ => rfl) (fun τ R v hτ _ => by
   simp only [Env.nr]
   rw [if_neg (fun e => by rw [e, hfr] at hτ; cases hτ)])
 refine r.app hd mv ⟨fun τ R R' e1 e2 => ?_, fun b hb => (by cases hb), fun p hp => .inr ?_, fun _ _ h => (by cases h), fun τ R h => ?_⟩ ⟨by simp [Env.nr], h1⟩ (fun _ _ h => by cases h) (fun τ R h => ?_)
 ·rw [lk_cons] at e2
  split at e2
  ·rename_i e
   subst e
   rw [hfr] at e1
   cases e1
  ·cases e2
 ·obtain rfl : p = (id, 0) := by simpa [AV.rids, AV.rid1, Ce.rids, Dl.val] using hp
  exact ⟨_, lk_cons _ _ _ _ |>.trans (if_pos rfl), Nat.le_refl _⟩
 ·rw [lk_cons] at h
  split at h
  ·rename_i e
   subst e
   exact hm
  ·cases h
 ·rw [lk_cons] at h
  split at h
  ·rename_i e
   subst e
   cases h
   refine ⟨es, ?_, hets.fr mv.size (fun b hb hlt => (mv.cold b hb hlt).1) (fun b hb hlt => (mv.cold b hb hlt).2), fun g hg => ?_⟩
   ·simp only [Env.nr, if_pos]
    refine ⟨own.1, ?_⟩
    rcases own.2 with h | ⟨g, cap, cur, h2, h3, h4⟩
    ·exact .inl h
    ·exact .inr ⟨g, cap, cur, h2, Nat.le_trans r.hi h3, h4⟩
   ·simp only [Env.nr, if_pos] at hg ⊢
    have := (own.lt g hg).1
    rw [if_neg (by omega)]
  ·cases h
theorem Below.of_none {w w' : World} (h : w.grownBy w' none) : Below w.heap.size w w' := ⟨h.os, h.tape, h.output, h.size, fun k hk => h.block k hk (by simp)⟩
theorem own_one {w' : World} {B e k n : Nat} {v : Value} {xs : List Value} (h : w'.ownsRow B e k v n xs) : v.oneCell' = true := by
 rcases h.2 with ⟨rfl, _⟩ | ⟨g, cap, cur, rfl, _⟩ <;> rfl
theorem flat_one {k : Nat} (es : List (Cl k)) : ∀ u ∈ es.flatMap Subtype.val, u.oneCell' = true := fun u hu => by
 obtain ⟨y, _, hy⟩ := List.mem_flatMap.1 hu
 exact Cl.one y u hy
theorem run_append_nothing0 (w : World) (t ty e : TypeId) {i : TypeInfo} {k : Nat} (ht : P.underlying t = some (.slice e)) (hi : P.info? e = some i) {B n : Nat} {v : Value} {xs : List Value} (hown : w.ownsRow B e k v n xs) : (Builtin.append_ #[t, t] ty #[v, .slice none 0 0]).run P w = .ok v w :=
 run_append_owned_none (P := P) (w := w) B t ty e i k ht hi v n xs hown
theorem done_appN (hT : TabOk P T) (r : RepM O E w n0 N m st a) {o : Oper} (hd : ∀ x, o.dst = some x → x < N) (hf : Fresh st id) (hm : id < m) {s x : Operand} {t e : Nat} {sz b : Nat} {z : List Ce} {q : List Lk} {y : Ty} {k : Nat} {ys : List (List Tr)} (ho : o.op = .call ⟨.builtin .append, #[s, x], #[t, t]⟩) (ht : T t = some ⟨.slc e, sz, b, z, q⟩) (he : T e = some y) (hx : elemsA st (ev st x) = some (k, ys)) (hs : ev st s = .c .nil) (hk : k = y.sz ∨ ys = []) (hby : ys.length * y.by_ ≤ 140737488355328) (hl : ys.length < 140737488355328) (hsz : 0 < y.sz) :
  Done P O o a w n0 N m st ⟨.c (.row id 0), [], [(id, ⟨e, y.sz, 0, ys⟩)]⟩ := by
 have hu := ty_slc (hT.ty t _ ht) rfl
 obtain ⟨i, zv, h1, h2, h3, h4, _, h5⟩ := ty_info0 (hT.ty e y he)
 have hsv := ev_rv r s
 rw [hs] at hsv
 have hsv : a.eval s = .slice none 0 0 := hsv
 obtain ⟨ao, cap, es, hxv, hn, hc, hets, hcells⟩ := src_ok r (ev_rv r x) hx hk
 intro K Q hK
 have nil0 := World.ownsRow_nil w w.heap.size e y.sz
 cases ao with
 | none =>
  have hc0 := hn rfl
  have hy : ys = [] := List.eq_nil_of_length_eq_zero (by omega)
  subst hy
  have : es = [] := List.eq_nil_of_length_eq_zero (by rw [hets.len]; rfl)
  subst this
  rw [hc0] at hxv
  have hr := run_append_nothing0 (P := P) w t o.type e hu h1 nil0
  exact Lib.wp_append_run w s x t t ho _ _ hsv hxv _ _ hr (hK _ _ _ (row_new r hd hf hm (Below.refl _ _) (es := []) nil0 hets rfl) (Below.refl _ _))
 | some ad =>
  obtain ⟨v', w', hr, hown, hg, _⟩ := tv_append (P := P) w w.heap.size t o.type e hu h1 h4 h2 h3 (h5.trans h2) hsz _ 0 [] nil0 ad ys.length cap (es.flatMap Subtype.val) (by rw [flat_len Cl.len, hets.len]) (hcells ad rfl) (flat_one es) (by simp only [maxLen]; omega) (by rw [Nat.zero_add]; exact hby) (Nat.le_refl _)
  rw [Nat.zero_add, List.nil_append, ← hets.len] at hown
  have hb : Below w.heap.size w w' := Below.of_none hg
  exact Lib.wp_append_run w s x t t ho _ _ hsv hxv _ _ hr (hK _ _ _ (row_new r hd hf hm hb hown hets (own_one hown)) (hb.mono r.hi))
/-- Places with the row τ in its next state. -/
def Env.gr (E : Env) (g τ ver : Nat) (v : Value) : Env := ⟨fun b => if b < g then E.rl b else .rw τ, E.bk, fun τ' ver' => if τ' = τ ∧ ver' = ver then v else E.vl τ' ver'⟩
theorem done_appR (hT : TabOk P T) (r : RepM O E w n0 N m st a) {o : Oper} (hd : ∀ x, o.dst = some x → x < N) {s x : Operand} {t e : Nat} {sz b : Nat} {z : List Ce} {q : List Lk} {y : Ty} {k : Nat} {ys : List (List Tr)} {τ ver : Nat} {R : Row} (ho : o.op = .call ⟨.builtin .append, #[s, x], #[t, t]⟩) (ht : T t = some ⟨.slc e, sz, b, z, q⟩) (he : T e = some y) (hx : elemsA st (ev st x) = some (k, ys)) (hs : ev st s = .c (.row τ ver)) (hR : lk st.rw τ = some R) (hver : R.ver = ver) (hRk : R.k = y.sz) (hRt : R.ty = e) (hk : k = y.sz ∨ ys = []) (hby : (R.xs.length + ys.length) * y.by_ ≤ 140737488355328) (hl : R.xs.length + ys.length < 140737488355328) (hsz : 0 < y.sz) :
  Done P O o a w n0 N m st ⟨.c (.row τ (ver + 1)), [], [(τ, { R with ver := ver + 1, xs := R.xs ++ ys })]⟩ := by
 have hu := ty_slc (hT.ty t _ ht) rfl
 obtain ⟨i, zv, h1, h2, h3, h4, _, h5⟩ := ty_info0 (hT.ty e y he)
 have hsv := ev_rv r s
 rw [hs] at hsv
 have hsv : a.eval s = E.vl τ ver := hsv.1
 rw [← hRk] at hk
 obtain ⟨ao, cap, es, hxv, hn, hc, hets, hcells⟩ := src_ok r (ev_rv r x) hx hk
 obtain ⟨es0, ro, ho0, hrl⟩ := r.row τ R hR
 subst hRt
 rw [hver] at ro hrl
 -- what follows from the new slice
 have fin : ∀ v' w', w'.ownsRow n0 R.ty R.k v' (es0.length + es.length) (es0.flatMap Subtype.val ++ es.flatMap Subtype.val) → w.grownBy w' (E.vl τ ver).ownBlock → (v'.ownBlock = (E.vl τ ver).ownBlock ∨ v'.ownBlock = some w.heap.size) →
   RepM O (E.gr w.heap.size τ (ver + 1) v') w' n0 N m (st.app o.dst ⟨.c (.row τ (ver + 1)), [], [(τ, { R with ver := ver + 1, xs := R.xs ++ ys })]⟩) (a.put o.dst v') ∧ Below n0 w w' := fun v' w' own hg hob => by
  have hvne : ∀ g, (E.vl τ ver).ownBlock = some g → E.rl g = .rw τ := hrl
  have old : ∀ b, b < w.heap.size → E.rl b ≠ .rw τ → w'.heap[b]? = w.heap[b]? := fun b hlt hne => hg.block b hlt (fun e => hne (hvne b e.symm))
  have mv : Mv st E w (E.gr w.heap.size τ (ver + 1) v') w' (fun i => ∃ cs', lk ([] : List (Nat × List Ce)) i = some cs') (fun τ' => ∃ R', lk [(τ, ({ R with ver := ver + 1, xs := R.xs ++ ys } : Row))] τ' = some R') := by
   refine ⟨hg.size, fun b hlt => by simp only [Env.gr, if_pos hlt], fun b hb hlt => ⟨old b hlt (by rw [hb]; simp), by simp only [Env.gr, if_pos hlt]; exact hb⟩, fun _ _ _ => rfl, fun i cs hi _ hlt hrl' => ⟨old _ hlt (by rw [hrl']; simp), by simp only [Env.gr, if_pos hlt]; exact hrl'⟩, fun τ' R' v hτ hv => ?_, fun τ' R' hτ hY g hg' hlt hrl' => ⟨old g hlt (by
    rw [hrl']
    intro e
    cases e
    exact hY ⟨_, lk_cons _ _ _ _ |>.trans (if_pos rfl)⟩), by simp only [Env.gr, if_pos hlt]; exact hrl'⟩⟩
   simp only [Env.gr]
   rw [if_neg]
   rintro ⟨e1, e2⟩
   subst e1
   rw [hR] at hτ
   cases hτ
   omega
  refine ⟨r.app hd mv ⟨fun τ' R1 R2 e1 e2 => ?_, fun b hb => (by cases hb), fun p hp => .inr ?_, fun _ _ h => (by cases h), fun τ' R' h => ?_⟩ ⟨by simp [Env.gr], own_one own⟩ (fun _ _ h => by cases h) (fun τ' R' h => ?_), ⟨hg.os, hg.tape, hg.output, hg.size, fun b hb => hg.block b (Nat.lt_of_lt_of_le hb r.hi) (fun e => by have := (ro.lt b e.symm).1; omega)⟩⟩
  ·rw [lk_cons] at e2
   split at e2
   ·rename_i e
    subst e
    cases e2
    rw [hR] at e1
    cases e1
    show R.ver ≤ ver + 1
    omega
   ·cases e2
  ·obtain rfl : p = (τ, ver + 1) := by simpa [AV.rids, AV.rid1, Ce.rids] using hp
   exact ⟨_, lk_cons _ _ _ _ |>.trans (if_pos rfl), Nat.le_refl _⟩
  ·rw [lk_cons] at h
   split at h
   ·rename_i e
    subst e
    exact r.sc.fr τ R hR
   ·cases h
  ·rw [lk_cons] at h
   split at h
   ·rename_i e
    subst e
    cases h
    have fr : ∀ {vs ts}, RTL E.F w vs ts → RTL (E.gr w.heap.size τ (ver + 1) v').F w' vs ts := fun h => h.frame mv.size (fun b hb hlt => (mv.cold b hb hlt).1) (fun b hb hlt => (mv.cold b hb hlt).2)
    refine ⟨es0 ++ es, ?_, ⟨by rw [List.length_append, List.length_append, ho0.len, hets.len], fun j vs ts q1 q2 => ?_⟩, fun g hg' => ?_⟩
    ·have : (E.gr w.heap.size τ (ver + 1) v').vl τ (ver + 1) = v' := by simp [Env.gr]
     show World.ownsRow _ n0 R.ty R.k ((E.gr w.heap.size τ (ver + 1) v').vl τ (ver + 1)) _ _
     rw [this, List.length_append, List.flatMap_append]
     exact own
    ·by_cases hj : j < es0.length
     ·rw [List.getElem?_append_left hj] at q1
      rw [List.getElem?_append_left (by rw [← ho0.len]; exact hj)] at q2
      exact fr (ho0.at_ j vs ts q1 q2)
     ·rw [List.getElem?_append_right (by omega)] at q1
      rw [List.getElem?_append_right (by rw [← ho0.len]; omega), ← ho0.len] at q2
      exact fr (hets.at_ _ vs ts q1 q2)
    ·have hg' : ((E.gr w.heap.size τ (ver + 1) v').vl τ (ver + 1)).ownBlock = some g := hg'
     have : (E.gr w.heap.size τ (ver + 1) v').vl τ (ver + 1) = v' := by simp [Env.gr]
     rw [this] at hg'
     show (if g < w.heap.size then E.rl g else .rw τ) = .rw τ
     split
     ·rename_i hlt
      rcases hob with h | h
      ·rw [h] at hg'
       exact hrl g hg'
      ·rw [h] at hg'
       cases hg'
       omega
     ·rfl
   ·cases h
 intro K Q hK
 cases ao with
 | none =>
  have hc0 := hn rfl
  have hy : ys = [] := List.eq_nil_of_length_eq_zero (by omega)
  subst hy
  have : es = [] := List.eq_nil_of_length_eq_zero (by rw [hets.len]; rfl)
  subst this
  rw [hc0] at hxv
  have hr := run_append_nothing0 (P := P) w t o.type R.ty hu h1 ro
  obtain ⟨f1, f2⟩ := fin (E.vl τ ver) w (by simpa using ro) ⟨rfl, rfl, rfl, Nat.le_refl _, fun _ _ _ => rfl⟩ (.inl rfl)
  exact Lib.wp_append_run w s x t t ho _ _ hsv hxv _ _ hr (hK _ _ _ f1 f2)
 | some ad =>
  obtain ⟨v', w', hr, hown, hg, hob⟩ := tv_append (P := P) w n0 t o.type R.ty hu h1 h4 (h2.trans hRk.symm) h3 ((h5.trans h2).trans hRk.symm) (by rw [hRk]; exact hsz) _ es0.length _ ro ad ys.length cap (es.flatMap Subtype.val) (by rw [flat_len Cl.len, hets.len]) (hcells ad rfl) (flat_one es) (by rw [ho0.len]; simp only [maxLen]; omega) (by rw [ho0.len]; exact hby) r.hi
  rw [← hets.len] at hown
  obtain ⟨f1, f2⟩ := fin v' w' hown hg hob
  exact Lib.wp_append_run w s x t t ho _ _ hsv hxv _ _ hr (hK _ _ _ f1 f2)
end
end Cg
end
section
namespace Cg
open Go Go.RowKit Go.Sort Go.Lib
variable {P : Program} {T : Nat → Option Ty} {O : Nat → Prop}
section
variable {E : Env} {w : World} {n0 N m id : Nat} {st : St} {a : Act}
theorem fill_sl (r : RepM O E w n0 N m st a) {sz : Nat} : ∀ {parts : List (Nat × Operand)} {i : Nat} {xs : List (List Tr)}, partsT st sz i parts = some xs → ∀ vs : List Value, (i + parts.length) * sz ≤ vs.length →
  ∃ es : List (Cl sz), Ets E.F w es xs ∧ es.length = parts.length ∧ Instr.fill (fun i => some (i * sz, sz)) vs.toArray (parts.map fun p => (p.1, a.eval p.2)) = some (vs.take (i * sz) ++ es.flatMap Subtype.val ++ vs.drop ((i + parts.length) * sz)).toArray
 | [], i, xs, h, vs, hl => by
  cases h
  exact ⟨[], ⟨rfl, fun j vs ts h => by simp at h⟩, rfl, by simp [Instr.fill]⟩
 | (j, x) :: parts, i, xs, h, vs, hl => by
  unfold partsT at h
  cases hb : Nat.beq i j with
  | false => rw [hb] at h; cases h
  | true =>
   rw [hb] at h
   simp only [cond_true] at h
   obtain rfl := Nat.eq_of_beq_eq_true hb
   split at h
   ·rename_i us e1
    split at h
    ·rename_i ts e2
     cases hb2 : Nat.beq ts.length sz with
     | false => rw [hb2] at h; cases h
     | true =>
      rw [hb2] at h
      simp only [cond_true] at h
      have h1 := Nat.eq_of_beq_eq_true hb2
      split at h
      ·rename_i xs' e3
       cases h
       have hu := cellsA_rv e1 (ev_rv r x)
       have hut := plainT_rtl e2 hu
       have hul : (a.eval x).cells.toList.length = sz := hut.len.trans h1
       have hsz : (a.eval x).cells.size = sz := by rw [← Array.length_toList]; exact hul
       rw [List.length_cons] at hl
       have e4 : (i + (parts.length + 1)) * sz = i * sz + sz + parts.length * sz := by rw [Nat.add_mul, Nat.add_mul]; omega
       rw [e4] at hl
       have hl2 : (vs.take (i * sz) ++ (a.eval x).cells.toList ++ vs.drop (i * sz + (a.eval x).cells.toList.length)).length = vs.length := by
        simp only [List.length_append, List.length_take, List.length_drop]
        omega
       obtain ⟨es, h2, h3, h4⟩ := fill_sl r e3 (vs.take (i * sz) ++ (a.eval x).cells.toList ++ vs.drop (i * sz + (a.eval x).cells.toList.length)) (by rw [hl2, Nat.add_mul, Nat.add_mul]; omega)
       refine ⟨⟨(a.eval x).cells.toList, hul, A2.one hu⟩ :: es, ⟨by simp [h2.len], fun j vs' ts' q1 q2 => ?_⟩, by simp [h3], ?_⟩
       ·rcases j with _ | j
        ·cases q1
         cases q2
         exact hut
        ·exact h2.at_ j vs' ts' q1 q2
       ·rw [List.map_cons, Instr.fill]
        simp only
        rw [if_neg (by
         simp only [ne_eq, List.size_toArray, Bool.or_eq_true, decide_eq_true_eq, not_or, Decidable.not_not]
         exact ⟨hsz, by omega⟩)]
        rw [← Array.foldl_toList, Array.toList_zipIdx, fold_set _ (i * sz) 0 vs (by omega), Nat.add_zero, h4]
        congr 2
        rw [List.flatMap_cons, List.length_cons, e4]
        show _ = List.take (i * sz) vs ++ ((a.eval x).cells.toList ++ es.flatMap Subtype.val) ++ _
        rw [hul]
        have e5 : (i + 1) * sz = i * sz + sz := by rw [Nat.add_mul]; omega
        have e6 : (i + 1 + parts.length) * sz = i * sz + sz + parts.length * sz := by rw [Nat.add_mul, Nat.add_mul]; omega
        have e7 : (vs.take (i * sz) ++ (a.eval x).cells.toList).length = i * sz + sz := by rw [List.length_append, List.length_take]; omega
        rw [e5, e6, List.take_append, e7, List.take_of_length_le (by omega), Nat.sub_self, List.take_zero, List.append_nil, List.drop_append, e7, List.drop_of_length_le (by omega), List.nil_append, List.drop_drop]
        rw [show i * sz + sz + (i * sz + sz + parts.length * sz - (i * sz + sz)) = i * sz + sz + parts.length * sz by omega]
        simp
      ·cases h
    ·cases h
   ·cases h
theorem done_bsl (hT : TabOk P T) (r : RepM O E w n0 N m st a) {o : Oper} (hd : ∀ x, o.dst = some x → x < N) (hf : Fresh st id) (hm : id < m) {t e : Nat} {len : Nat} {parts : Array (Nat × Operand)} {s b : Nat} {z : List Ce} {q : List Lk} {y : Ty} {xs : List (List Tr)} (ho : o.op = .buildSlice t len parts) (ht : T t = some ⟨.slc e, s, b, z, q⟩) (he : T e = some y) (hp : partsT st y.sz 0 parts.toList = some xs) (hl : xs.length = len) (hs : len * y.sz ≤ 10000) (h0 : 0 < y.sz) :
  Done P O o a w n0 N m st ⟨.c (.row id 0), [], [(id, ⟨e, y.sz, 0, xs⟩)]⟩ := by
 have hu := ty_slc (hT.ty t _ ht) rfl
 obtain ⟨i, zv, h1, h2, h3, h4, _, h5⟩ := ty_info0 (hT.ty e y he)
 obtain ⟨vs, hvs⟩ : ∃ vs : List Value, vs = ((Array.range (len * i.size)).map (fun j => zv.cells[j % zv.cells.size]!)).toList := ⟨_, rfl⟩
 have hvl : vs.length = len * y.sz := by rw [hvs, h2]; simp
 have key : ∃ es : List (Cl y.sz), Ets E.F w es xs ∧ es.length = len ∧ (Instr.buildSlice t len (parts.map fun (i, x) => (i, a.eval x))).run P w = .ok (.slice (some ⟨w.heap.size, 0, none⟩) len len) (w.alloc (.cells (es.flatMap Subtype.val).toArray e)) := by
  have hpl : parts.toList.length = xs.length := by
   have : ∀ (ps : List (Nat × Operand)) (i : Nat) xs, partsT st y.sz i ps = some xs → ps.length = xs.length := by
    intro ps
    induction ps with
    | nil => intro i xs h; cases h; rfl
    | cons p ps ih =>
     intro i xs h
     obtain ⟨j, x⟩ := p
     unfold partsT at h
     cases hb : Nat.beq i j with
     | false => rw [hb] at h; cases h
     | true =>
      rw [hb] at h
      simp only [cond_true] at h
      split at h
      ·split at h
       ·rename_i ts _
        cases hb2 : Nat.beq ts.length y.sz with
        | false => rw [hb2] at h; cases h
        | true =>
         rw [hb2] at h
         simp only [cond_true] at h
         split at h
         ·rename_i xs' e3
          cases h
          simp [ih _ _ e3]
         ·cases h
       ·cases h
      ·cases h
   exact this _ _ _ hp
  obtain ⟨es, h6, h7, h8⟩ := fill_sl r hp vs (by rw [Nat.zero_add, hpl, hl, hvl]; exact Nat.le_refl _)
  rw [hpl, hl] at h7
  rw [hpl, hl, Nat.zero_mul, Nat.zero_add, List.take_zero, List.nil_append, List.drop_of_length_le (by omega), List.append_nil] at h8
  have h9 : (parts.map fun (i, x) => (i, a.eval x)).toList = parts.toList.map fun p => (p.1, a.eval p.2) := by simp
  refine ⟨es, h6, h7, ?_⟩
  by_cases hz : len = 0
  ·subst hz
   have he0 : es = [] := List.eq_nil_of_length_eq_zero h7
   have hp0 : parts = #[] := Array.toList_inj.1 (List.eq_nil_of_length_eq_zero (by rw [hpl]; exact hl))
   subst he0
   subst hp0
   have e0 : Array.range 0 = #[] := by simp
   simp [Instr.buildSlice, run_underlying hu, Go.sizeOf, typeInfo, h1, Instr.fill, newRow, e0]
  ·refine run_buildSlice w t e len _ (es.flatMap Subtype.val).toArray i zv hu h1 h4 (by rw [h2]; omega) (by rw [h2]; exact fun h => by rcases Nat.mul_eq_zero.1 h with h | h <;> omega) ?_
   rw [h9, h2]
   rw [hvs, h2] at h8
   exact h8
 obtain ⟨es, h6, h7, hrun⟩ := key
 have hb : Below w.heap.size w (w.alloc (.cells (es.flatMap Subtype.val).toArray e)) := (Below.refl _ _).alloc (Nat.le_refl _) _
 have hfl : (es.flatMap Subtype.val).length = len * y.sz := by rw [flat_len Cl.len, h7]
 have own : (w.alloc (.cells (es.flatMap Subtype.val).toArray e)).ownsRow w.heap.size e y.sz (.slice (some ⟨w.heap.size, 0, none⟩) len len) es.length (es.flatMap Subtype.val) := by
  refine ⟨by rw [hfl, h7], .inr ⟨w.heap.size, len, _, by rw [h7], Nat.le_refl _, heap_alloc_new w _, by omega, ?_, ?_, ?_⟩⟩
  ·have : len ≤ len * y.sz := Nat.le_mul_of_pos_right _ h0
   simp only [maxLen]
   omega
  ·rw [List.size_toArray, hfl]
  ·rw [List.toList_toArray, List.take_of_length_le (by rw [hfl, h7]; exact Nat.le_refl _)]
 intro K Q hK
 unfold Oper.wp execOp
 simp only [ho, Sem.run_bind, hrun, Result.andThen_ok, Sem.run_pure, Oper.upon]
 exact hK _ _ _ (row_new r hd hf hm hb own h6 rfl) (hb.mono r.hi)
/-- A row read as a tree. -/
theorem row_rt {τ : Nat} {R : Row} {G : Nat → Prop} (h : RR E w n0 τ R) (hG : ∀ b, b < w.heap.size → E.rl b = .cold ∨ E.rl b = .rw τ → G b) : RT G w (E.vl τ R.ver) (.sl R.k R.xs) := by
 obtain ⟨es, h1, h2, h3⟩ := h
 have fr : ∀ {vs ts}, RTL E.F w vs ts → RTL G w vs ts := fun h => h.frame (Nat.le_refl _) (fun _ _ _ => rfl) (fun b hb hlt => hG b hlt (.inl hb))
 obtain ⟨ao, cap, h4, h5, h6⟩ := row_len h1
 by_cases hx : R.xs = []
 ·have : es = [] := List.eq_nil_of_length_eq_zero (by rw [h2.len, hx]; rfl)
  subst this
  rw [hx, h4]
  exact .slNil h6
 ·obtain ⟨x, hx0⟩ : ∃ x, R.xs[0]? = some x := ⟨_, List.getElem?_eq_getElem (List.length_pos_iff.2 hx)⟩
  obtain ⟨es', g, cap', cur, x', e1, _, hgg, hc, _, _, _, hets, hrl, _⟩ := row_at ⟨es, h1, h2, h3⟩ hx0
  rw [e1]
  refine .slSome hets.len hc (hG g (Array.getElem?_eq_some_iff.1 hgg).1 (.inr hrl)) (Array.getElem?_eq_some_iff.1 hgg).1 (RTE.mk _ _ fun j ts hj => ?_)
  obtain ⟨_, g2, _, _, x2, e2, _, _, _, _, _, _, _, _, _, h7, h8⟩ := row_at ⟨es, h1, h2, h3⟩ hj
  rw [e1] at e2
  simp only [Value.slice.injEq, Option.some.injEq, Addr.mk.injEq] at e2
  obtain ⟨⟨rfl, _⟩, _, _⟩ := e2
  exact ⟨x2.1, x2.len, fun i u hu => by rw [Nat.zero_add]; exact h8 i u hu, fr h7⟩
/-- Places with rows as memory that is only read. -/
def Env.co (E : Env) : Env := ⟨fun b => match E.rl b with
 | .rw _ => .cold
 | x => x, E.bk, E.vl⟩
theorem fitC_rc {E0 : Env} (r : RepM O E w n0 N m st a) (hc : ∀ b, E.rl b = .cold → E0.rl b = .cold) {v : Value} {x y : Ce} (hr : x.rids = [] ∨ ∀ b τ, E.rl b = .rw τ → E0.rl b = .cold) (h : FitC st x y) (hv : RC E w v x) : RC E0 w v y := by
 unfold FitC at h
 split at h
 ·subst h
  exact RT.frame (Nat.le_refl _) (fun _ _ _ => rfl) (fun b hb _ => hc b hb) hv
 ·obtain ⟨k, rfl⟩ := h
  rw [show v = _ from hv]
  exact .slNil fun _ => rfl
 ·exact hv
 ·rename_i τ ver y
  split at h
  ·rename_i R hR
   obtain ⟨rfl, rfl⟩ := h
   rw [hv.1]
   rcases hr with hr | hr
   ·cases hr
   ·exact row_rt (r.row τ R hR) (fun b _ h => by
     rcases h with h | h
     ·exact hc b h
     ·exact hr b τ h)
  ·exact h.elim
 ·exact h.elim
theorem fitL_a2 {E0 : Env} (r : RepM O E w n0 N m st a) (hc : ∀ b, E.rl b = .cold → E0.rl b = .cold) : ∀ {vs : List Value} {xs ys : List Ce}, (xs.flatMap Ce.rids = [] ∨ ∀ b τ, E.rl b = .rw τ → E0.rl b = .cold) → FitL st xs ys → A2 (RC E w) vs xs → A2 (RC E0 w) vs ys
 | _, [], [], _, _, .nil => .nil
 | _, x :: xs, y :: ys, hr, h, .cons h1 h2 => by
  have hr' : (x.rids = [] ∨ ∀ b τ, E.rl b = .rw τ → E0.rl b = .cold) ∧ (xs.flatMap Ce.rids = [] ∨ ∀ b τ, E.rl b = .rw τ → E0.rl b = .cold) := by
   rcases hr with hr | hr
   ·rw [List.flatMap_cons, List.append_eq_nil_iff] at hr
    exact ⟨.inl hr.1, .inl hr.2⟩
   ·exact ⟨.inr hr, .inr hr⟩
  exact .cons (fitC_rc r hc hr'.1 h.1 h1) (fitL_a2 r hc hr'.2 h.2 h2)
 | _, [], _ :: _, _, h, _ => h.elim
 | _, _ :: _, [], _, h, _ => h.elim
theorem fit_r1 {E0 : Env} (r : RepM O E w n0 N m st a) (hc : ∀ b, E.rl b = .cold → E0.rl b = .cold) {v : Value} {x y : AV} (hr : x.rids = [] ∨ ∀ b τ, E.rl b = .rw τ → E0.rl b = .cold) (h : Fit st x y) (hv : RV E w v x) : R1 E0 w v y := by
 unfold Fit at h
 split at h
 ·exact fitC_rc r hc hr h hv
 ·obtain ⟨vs, rfl, ha⟩ := hv
  exact ⟨vs, rfl, fitL_a2 r hc hr h ha⟩
 ·exact hv
 ·exact h.elim
theorem fits_a2 {E0 : Env} (r : RepM O E w n0 N m st a) (hc : ∀ b, E.rl b = .cold → E0.rl b = .cold) : ∀ {xs : List Operand} {ys : List AV}, (noRw (xs.map (ev st)) = true ∨ ∀ b τ, E.rl b = .rw τ → E0.rl b = .cold) → Fits st (xs.map (ev st)) ys → A2 (R1 E0 w) (xs.map a.eval) ys
 | [], [], _, _ => .nil
 | x :: xs, y :: ys, hr, h => by
  have hr' : ((ev st x).rids = [] ∨ ∀ b τ, E.rl b = .rw τ → E0.rl b = .cold) ∧ (noRw (xs.map (ev st)) = true ∨ ∀ b τ, E.rl b = .rw τ → E0.rl b = .cold) := by
   rcases hr with hr | hr
   ·unfold noRw at hr
    rw [List.map_cons, List.all_cons, Bool.and_eq_true, List.isEmpty_iff] at hr
    exact ⟨.inl hr.1, .inl hr.2⟩
   ·exact ⟨.inr hr, .inr hr⟩
  exact .cons (fit_r1 r hc hr'.1 h.1 (ev_rv r x)) (fits_a2 r hc hr'.2 h.2)
 | [], _ :: _, _, h => h.elim
 | _ :: _, [], _, h => h.elim
theorem lk_numR (id : Nat) : ∀ (rs : List Row) (j i : Nat), lk (numR id j rs) i = if id + j ≤ i then rs[i - (id + j)]? else none
 | [], j, i => by simp [numR, lk]
 | R :: rs, j, i => by
  rw [numR, lk_cons, lk_numR id rs (j + 1) i]
  by_cases h : id + j = i
  ·subst h
   simp
  ·rw [if_neg h]
   by_cases h2 : id + j ≤ i
   ·rw [if_pos h2, if_pos (by omega), show i - (id + j) = i - (id + (j + 1)) + 1 by omega, List.getElem?_cons_succ]
   ·rw [if_neg h2, if_neg (by omega)]
theorem ren_bids1 (r : AV) : (r.ren1 id).bid1 = [] := by cases r <;> rfl
theorem ren_bids (r : AV) : (r.ren id).bids = [] := by
 cases r with
 | tup ars =>
  show ((ars.map (AV.ren1 id)).flatMap AV.bid1) = []
  induction ars with
  | nil => rfl
  | cons a ars ih => rw [List.map_cons, List.flatMap_cons, ih, ren_bids1]; rfl
 | _ => rfl
theorem renC_rids {c : Ce} {p : Nat × Nat} (h : p ∈ (c.ren id).rids) : ∃ q ∈ c.rids, p = (id + q.1, q.2) := by
 cases c with
 | row τ ver =>
  obtain rfl : p = (id + τ, ver) := by simpa [Ce.ren, Ce.rids] using h
  exact ⟨(τ, ver), List.mem_cons_self, rfl⟩
 | _ => cases h
theorem ren1_rids {r : AV} {p : Nat × Nat} (h : p ∈ (r.ren1 id).rid1) : ∃ q ∈ r.rid1, p = (id + q.1, q.2) := by
 cases r with
 | c x => exact renC_rids h
 | agg xs =>
  obtain ⟨c, hc, hp⟩ := List.mem_flatMap.1 (show p ∈ (xs.map (Ce.ren id)).flatMap Ce.rids from h)
  obtain ⟨x, hx, rfl⟩ := List.mem_map.1 hc
  obtain ⟨q, hq, e⟩ := renC_rids hp
  exact ⟨q, List.mem_flatMap.2 ⟨x, hx, hq⟩, e⟩
 | _ => cases h
theorem ren_rids {r : AV} {p : Nat × Nat} (h : p ∈ (r.ren id).rids) : ∃ q ∈ r.rids, p = (id + q.1, q.2) := by
 cases r with
 | tup ars =>
  obtain ⟨c, hc, hp⟩ := List.mem_flatMap.1 (show p ∈ (ars.map (AV.ren1 id)).flatMap AV.rid1 from h)
  obtain ⟨x, hx, rfl⟩ := List.mem_map.1 hc
  obtain ⟨q, hq, e⟩ := ren1_rids hp
  exact ⟨q, List.mem_flatMap.2 ⟨x, hx, hq⟩, e⟩
 | c x => exact ren1_rids (r := .c x) h
 | agg xs => exact ren1_rids (r := .agg xs) h
 | ptr b o => exact ren1_rids (r := .ptr b o) h
 | iptr b o => exact ren1_rids (r := .iptr b o) h
 | eptr a b c d e => cases h
 | nilp => cases h
 | fn f c => cases h
 | bot => cases h
/-- Places behind a call: old blocks as before, new ones as the callee has them. -/
def Env.cl (E E' : Env) (g i : Nat) : Env := ⟨fun b => if b < g then E.rl b else (match E'.rl b with
 | .cold => .cold
 | .rw j => .rw (i + j)
 | _ => .non), E.bk, fun τ ver => if i ≤ τ ∧ τ < i + 128 then E'.vl (τ - i) ver else E.vl τ ver⟩
theorem done_call (r : RepM O E w n0 N m st a) {o : Oper} (hd : ∀ x, o.dst = some x → x < N) (hf : Fresh st id) (hm : id + 128 ≤ m) {f : Operand} {args : Array Operand} {tys : Array TypeId} {g : Nat} {ars : List AV} {rv : AV} {rs : List Row} {fresh : Bool} (ho : o.op = .call ⟨.value f, args, tys⟩) (hfn : ev st f = .fn g []) (hfit : Fits st (args.toList.map (ev st)) ars) (ct : Ct P g ars rv rs fresh) (hal : fresh = true ∨ noRw (args.toList.map (ev st)) = true) :
  Done P O o a w n0 N m st ⟨rv.ren id, [], numR id 0 rs⟩ := by
 have hfv := ev_rv r f
 rw [hfn] at hfv
 have hfv : a.eval f = .func (.func g) #[] #[] := hfv
 obtain ⟨E0, hE0, hE1, hE2⟩ : ∃ E0 : Env, (∀ b, E.rl b = .cold → E0.rl b = .cold) ∧ (noRw (args.toList.map (ev st)) = true ∨ ∀ b τ, E.rl b = .rw τ → E0.rl b = .cold) ∧ (fresh = false → ∀ b, E0.rl b = .cold → E.rl b = .cold) := by
  rcases hal with h | h
  ·exact ⟨E.co, fun b hb => by unfold Env.co; simp only [hb], .inr fun b τ hb => by unfold Env.co; simp only [hb], fun hq => by rw [h] at hq; cases hq⟩
  ·exact ⟨E, fun _ h => h, .inl h, fun _ _ h => h⟩
 have ha := fits_a2 r hE0 hE1 hfit
 have hrun : (execOp a.eval o).run P w = .ok (.enter g (args.map a.eval)) w := by
  unfold execOp
  simp only [ho, resolve, hfv, Deferred.ofValue, Sem.run_bind, Sem.run_pure, Result.andThen_ok, invoke]
  have := ct.ent (#[] ++ args.map a.eval ++ #[]) w
  rw [this]
  simp
 have e1 : (args.toList.map a.eval).toArray = args.map a.eval := Array.toList_inj.1 (by rw [List.toList_toArray, Array.toList_map])
 intro K Q hK
 unfold Oper.wp
 rw [hrun]
 show Calls P g (args.map a.eval) w _
 rw [← e1]
 refine (ct.run w _ E0 ha).mono ?_
 rintro e w' ⟨v, rfl, hb, E', hr, hrow, hcold⟩
 have hfz := fun i h1 h2 => (hf i h1 h2)
 have mv : Mv st E w (E.cl E' w.heap.size id) w' (fun i => ∃ cs', lk ([] : List (Nat × List Ce)) i = some cs') (fun τ => ∃ R, lk (numR id 0 rs) τ = some R) :=
  Mv.below hb (fun b hlt => by simp only [Env.cl, if_pos hlt]) (fun _ _ _ => rfl) (fun τ R v hτ _ => by
   simp only [Env.cl]
   rw [if_neg (fun e => by rw [(hfz τ e.1 e.2).2] at hτ; cases hτ)])
 have hcf : ∀ b, E'.rl b = .cold → (E.cl E' w.heap.size id).rl b = .cold := fun b hc => by
  simp only [Env.cl]
  split
  ·rename_i hlt
   obtain ⟨h1, h2⟩ := hcold b hlt hc
   exact hE2 h1 b h2
  ·rw [hc]
 have fr : ∀ {v t}, RT E'.F w' v t → RT (E.cl E' w.heap.size id).F w' v t := fun h => h.frame (Nat.le_refl _) (fun _ _ _ => rfl) (fun b hb _ => hcf b hb)
 have frl : ∀ {v t}, RTL E'.F w' v t → RTL (E.cl E' w.heap.size id).F w' v t := fun h => h.frame (Nat.le_refl _) (fun _ _ _ => rfl) (fun b hb _ => hcf b hb)
 have vle : ∀ j ver, j < 128 → (E.cl E' w.heap.size id).vl (id + j) ver = E'.vl j ver := fun j ver hj => by
  simp only [Env.cl]
  rw [if_pos ⟨by omega, by omega⟩, Nat.add_sub_cancel_left]
 have few : ∀ q ∈ rv.rids, q.1 < 128 := fun q hq => by
  obtain ⟨R, h1, _⟩ := ct.rid q hq
  have := (List.getElem?_eq_some_iff.1 h1).1
  have := ct.few
  omega
 have rcr : ∀ {v c}, (∀ q ∈ Ce.rids c, q.1 < 128) → RC E' w' v c → RC (E.cl E' w.heap.size id) w' v (c.ren id) := fun {v c} hq h => by
  cases c with
  | t x => exact fr h
  | nil => exact h
  | row τ ver => exact ⟨h.1.trans (vle τ ver (hq _ List.mem_cons_self)).symm, h.2⟩
  | bot => exact h
 have a2r : ∀ {vs cs}, (∀ q ∈ cs.flatMap Ce.rids, q.1 < 128) → A2 (RC E' w') vs cs → A2 (RC (E.cl E' w.heap.size id) w') vs (cs.map (Ce.ren id)) := fun {vs cs} hq h => by
  induction h with
  | nil => exact .nil
  | cons h1 _ ih =>
   rw [List.flatMap_cons] at hq
   exact .cons (rcr (fun q h => hq q (List.mem_append_left _ h)) h1) (ih (fun q h => hq q (List.mem_append_right _ h)))
 have r1r : ∀ {v x}, (∀ q ∈ AV.rid1 x, q.1 < 128) → R1 E' w' v x → R1 (E.cl E' w.heap.size id) w' v (x.ren1 id) := fun {v x} hq h => by
  cases x with
  | c x => exact rcr hq h
  | agg xs =>
   obtain ⟨vs, rfl, h⟩ := h
   exact ⟨vs, rfl, a2r hq h⟩
  | nilp => exact h
  | tup ars => exact h.elim
  | _ => exact trivial
 refine hK (E.cl E' w.heap.size id) v w' (r.app hd mv ⟨fun τ R R' e1 e2 => ?_, fun b hb => ?_, fun p hp => .inr ?_, fun _ _ h => (by cases h), fun τ R h => ?_⟩ ?_ (fun _ _ h => by cases h) (fun τ R h => ?_)) (hb.mono r.hi)
 ·rw [lk_numR] at e2
  split at e2
  ·rename_i hle
   have h1 := (List.getElem?_eq_some_iff.1 e2).1
   have := ct.few
   rw [(hfz τ (by omega) (by omega)).2] at e1
   cases e1
  ·cases e2
 ·rw [show (Dl.v ⟨rv.ren id, [], numR id 0 rs⟩).bids = [] from ren_bids rv] at hb
  cases hb
 ·obtain ⟨q, hq, rfl⟩ := ren_rids hp
  obtain ⟨R, h1, h2⟩ := ct.rid q hq
  refine ⟨R, ?_, h2⟩
  rw [lk_numR, if_pos (by omega), show id + q.1 - (id + 0) = q.1 by omega]
  exact h1
 ·rw [lk_numR] at h
  split at h
  ·rename_i hle
   have h1 := (List.getElem?_eq_some_iff.1 h).1
   have := ct.few
   omega
  ·cases h
 ·show RV _ w' v (rv.ren id)
  cases rv with
  | tup ars =>
   obtain ⟨vs, rfl, h⟩ := hr
   refine ⟨vs, rfl, ?_⟩
   have : ∀ {vs : List Value} {ars : List AV}, (∀ q ∈ ars.flatMap AV.rid1, q.1 < 128) → A2 (R1 E' w') vs ars → A2 (R1 (E.cl E' w.heap.size id) w') vs (ars.map (AV.ren1 id)) := fun {vs ars} hq h => by
    induction h with
    | nil => exact .nil
    | cons h1 _ ih =>
     rw [List.flatMap_cons] at hq
     exact .cons (r1r (fun q h => hq q (List.mem_append_left _ h)) h1) (ih (fun q h => hq q (List.mem_append_right _ h)))
   exact this few h
  | c x => exact (r1r (x := .c x) few hr).rv
  | agg x => exact (r1r (x := .agg x) few hr).rv
  | nilp => exact (r1r (x := .nilp) few hr).rv
  | _ => exact trivial
 ·rw [lk_numR] at h
  split at h
  ·rename_i hle
   have hj := h
   have h1 := (List.getElem?_eq_some_iff.1 h).1
   have := ct.few
   obtain ⟨j, rfl⟩ : ∃ j, τ = id + j := ⟨τ - id, by omega⟩
   rw [show id + j - (id + 0) = j by omega] at hj h1
   obtain ⟨es, h3, h4, h5⟩ := hrow j R hj
   rw [← vle j R.ver (by omega)] at h3 h5
   refine ⟨es, ?_, ⟨h4.len, fun i vs ts q1 q2 => frl (h4.at_ i vs ts q1 q2)⟩, fun g hg => ?_⟩
   ·refine ⟨h3.1, ?_⟩
    rcases h3.2 with h | ⟨g, cap, cur, h6, h7, h8⟩
    ·exact .inl h
    ·exact .inr ⟨g, cap, cur, h6, Nat.le_trans r.hi h7, h8⟩
   ·have h6 := h5 g hg
    have h7 := (h3.lt g hg).1
    simp only [Env.cl]
    rw [if_neg (by omega), h6]
  ·cases h
end
end Cg
end
section
namespace Cg
open Go Go.RowKit Go.Sort Go.Lib
variable {P : Program} {T : Nat → Option Ty} {O : Nat → Prop}
theorem pure_stp {st : St} {id : Nat} {op : Op} {K : Dl → Prop} (h : match pureS T st op with
  | some v => v.open_ fun v => K (.val v)
  | none => False) : ∃ d, Stp P T st id op d ∧ K d := by
 split at h
 ·rename_i v hv
  rw [AV.open_eq] at h
  exact ⟨_, .pure hv, h⟩
 ·exact h.elim
set_option maxHeartbeats 1000000 in
theorem wpo_stp {st : St} {id : Nat} {o : Oper} {K : Dl → Prop} (h : WPo P T st id o K) : ∃ d, Stp P T st id o.op d ∧ K d := by
 obtain ⟨dst, op, type, pos, after, guard⟩ := o
 unfold WPo at h
 simp only at h
 cases op with
 | pick c a b =>
  simp only at h
  split at h
  ·rename_i t e
   cases t with
   | true =>
    simp only [cond_true, AV.open_eq] at h
    exact ⟨_, .pick e, h⟩
   | false =>
    simp only [cond_false, AV.open_eq] at h
    exact ⟨_, .pick e, h⟩
  ·exact h.elim
 | alloc e =>
  simp only at h
  split at h
  ·rename_i y hy
   rw [forceSp_eq] at h
   exact ⟨_, .alloc hy, h⟩
  ·exact h.elim
 | box e x =>
  simp only at h
  split at h
  ·rename_i cs hcs
   exact ⟨_, .box hcs, h⟩
  ·exact h.elim
 | store t ax x =>
  simp only at h
  split at h
  ·rename_i y us hy hus
   cases hb : Nat.beq us.length y.sz with
   | false => rw [hb] at h; exact h.elim
   | true =>
    rw [hb] at h
    rw [bi_true] at h
    have hl := Nat.eq_of_beq_eq_true hb
    split at h
    ·rename_i b o hax
     split at h
     ·rename_i cs hcs
      cases hb2 : Nat.ble (o + us.length) cs.length with
      | false => rw [hb2] at h; exact h.elim
      | true =>
       rw [hb2] at h
       rw [bi_true, forceSp_eq] at h
       exact ⟨_, .storeB hy hus hl hax hcs (Nat.le_of_ble_eq_true hb2), h⟩
     ·exact h.elim
    ·rename_i τ ver k i o hax
     split at h
     ·rename_i rty rk rver rxs ts hR hts
      cases hb2 : Nat.beq rver ver && Nat.beq rk k with
      | false => rw [hb2] at h; exact h.elim
      | true =>
       rw [hb2] at h
       simp only [Bool.and_eq_true] at hb2
       obtain ⟨xs, h1, h2, h3⟩ := h
       exact ⟨_, .storeE hy hus hl hax hR (Nat.eq_of_beq_eq_true hb2.1) (Nat.eq_of_beq_eq_true hb2.2) hts h1 h2, h3⟩
     ·exact h.elim
    ·exact h.elim
  ·exact h.elim
 | load t ax =>
  simp only at h
  split at h
  ·rename_i τ ver k i o hax
   split at h
   ·rename_i y R hy hR
    cases hb2 : Nat.beq R.ver ver && Nat.beq R.k k with
    | false => rw [hb2] at h; exact h.elim
    | true =>
     rw [hb2] at h
     simp only [Bool.and_eq_true] at hb2
     obtain ⟨xs, v, h1, h2, h3⟩ := h
     exact ⟨_, .loadE hax hy hR (Nat.eq_of_beq_eq_true hb2.1) (Nat.eq_of_beq_eq_true hb2.2) h1 h2, h3⟩
   ·exact h.elim
  ·exact pure_stp h
 | indexAddr t x ix =>
  simp only at h
  split at h
  ·rename_i e _ _ _ _ _ n ht hi
   split at h
   ·rename_i y k xs he hx
    cases hb : Nat.beq k y.sz with
    | false => rw [hb] at h; exact h.elim
    | true =>
     rw [hb] at h
     obtain ⟨j, ts, h1, h2, h3⟩ := h
     exact ⟨_, .ixT ht hi he hx (Nat.eq_of_beq_eq_true hb) h1 h2, h3⟩
   ·rename_i y τ ver he hx
    split at h
    ·rename_i R hR
     cases hb : Nat.beq R.ver ver && Nat.beq R.k y.sz with
     | false => rw [hb] at h; exact h.elim
     | true =>
      rw [hb] at h
      simp only [Bool.and_eq_true] at hb
      obtain ⟨j, h1, h2, h3⟩ := h
      exact ⟨_, .ixR ht hi he hx hR (Nat.eq_of_beq_eq_true hb.1) (Nat.eq_of_beq_eq_true hb.2) h1 h2, h3⟩
    ·exact h.elim
   ·exact h.elim
  ·rename_i m e _ _ _ _ _ n ht hi
   split at h
   ·rename_i y b o he hx
    obtain ⟨j, h1, h2, h3⟩ := h
    exact ⟨_, .ixAp ht hi he hx h1 h2, h3⟩
   ·rename_i y xs o he hx
    obtain ⟨j, h1, h2, h3⟩ := h
    exact ⟨_, .ixAi ht hi he hx h1 h2, h3⟩
   ·rename_i y τ ver k i o he hx
    obtain ⟨j, h1, h2, h3⟩ := h
    exact ⟨_, .ixAe ht hi he hx h1 h2, h3⟩
   ·exact h.elim
  ·exact h.elim
 | index t x ix =>
  simp only at h
  split at h
  ·rename_i s _ n ht hx hi
   obtain ⟨j, hj, h1, h2⟩ := h
   exact ⟨_, .ixS hj ht hx hi h1, h2⟩
  ·rename_i m e _ _ _ _ cs _ n ht hx hi
   split at h
   ·rename_i y he
    obtain ⟨j, v, h1, h2, h3, h4⟩ := h
    exact ⟨_, .ixA ht hx hi he h1 h2 h3, h4⟩
   ·exact h.elim
  ·exact h.elim
 | slice t x lo hi mx =>
  simp only at h
  split at h
  ·rename_i s ht hx
   obtain ⟨l, u, h1, h2, h3, h4, h5⟩ := h
   exact ⟨_, .slS ht hx h1 h2 h3 h4, h5⟩
  ·rename_i e _ _ _ _ k xs ht hx
   split at h
   ·rename_i y he
    cases hb : Nat.beq k y.sz with
    | false => rw [hb] at h; exact h.elim
    | true =>
     rw [hb] at h
     obtain ⟨l, u, h1, h2, h3, h4, h5⟩ := h
     exact ⟨_, .slT ht hx he (Nat.eq_of_beq_eq_true hb) h1 h2 h3 h4, h5⟩
   ·exact h.elim
  ·exact h.elim
 | buildSlice t len parts =>
  simp only at h
  split at h
  ·rename_i e _ _ _ _ ht
   split at h
   ·rename_i y he
    split at h
    ·rename_i xs hxs
     cases hb : Nat.beq xs.length len && (Nat.ble (len * y.sz) 10000 && Nat.blt 0 y.sz) with
     | false => rw [hb] at h; exact h.elim
     | true =>
      rw [hb] at h
      simp only [Bool.and_eq_true] at hb
      exact ⟨_, .bsl ht he hxs (Nat.eq_of_beq_eq_true hb.1) (Nat.le_of_ble_eq_true hb.2.1) (Nat.le_of_ble_eq_true hb.2.2), h⟩
    ·exact h.elim
   ·exact h.elim
  ·exact h.elim
 | call c =>
  obtain ⟨cl, args, tys⟩ := c
  simp only at h
  split at h
  ·rename_i f
   split at h
   ·rename_i g hg
    obtain ⟨ars, r, rs, fresh, h1, h2, h3, h4⟩ := h
    exact ⟨_, .call hg h1 h2 h3, h4⟩
   ·exact h.elim
  ·split at h
   ·rename_i s x t t' e1 e2
    obtain rfl : args = #[s, x] := Array.toList_inj.1 e1
    obtain rfl : tys = #[t, t'] := Array.toList_inj.1 e2
    cases hb : Nat.beq t t' with
    | false => rw [hb] at h; exact h.elim
    | true =>
     rw [hb] at h
     obtain rfl := Nat.eq_of_beq_eq_true hb
     rw [bi_true] at h
     split at h
     ·rename_i e _ _ _ _ ht
      split at h
      ·rename_i y k ys he hx
       split at h
       ·rename_i hs
        cases hb3 : Nat.blt 0 y.sz with
        | false => rw [hb3] at h; exact h.elim
        | true =>
         rw [hb3] at h
         obtain ⟨h1, h2, h3, h5⟩ := h
         exact ⟨_, .appN ht he hx hs h1 h2 h3 (Nat.le_of_ble_eq_true hb3), h5⟩
       ·rename_i τ ver hs
        split at h
        ·rename_i rty rk rver rxs hR
         cases hb2 : Nat.beq rver ver && (Nat.beq rk y.sz && (Nat.beq rty e && Nat.blt 0 y.sz)) with
         | false => rw [hb2] at h; exact h.elim
         | true =>
          rw [hb2] at h
          simp only [Bool.and_eq_true] at hb2
          obtain ⟨h1, h2, h3, h5⟩ := h
          exact ⟨_, .appR ht he hx hs hR (Nat.eq_of_beq_eq_true hb2.1) (Nat.eq_of_beq_eq_true hb2.2.1) (Nat.eq_of_beq_eq_true hb2.2.2.1) h1 h2 h3 (Nat.le_of_ble_eq_true hb2.2.2.2), h5⟩
        ·exact h.elim
       ·exact h.elim
      ·exact h.elim
     ·exact h.elim
   ·exact h.elim
  ·exact pure_stp h
 | _ => exact pure_stp h
theorem stp_sound (hT : TabOk P T) {E : Env} {w : World} {n0 N m id : Nat} {st : St} {a : Act} (r : RepM O E w n0 N m st a) {o : Oper} (hd : ∀ x, o.dst = some x → x < N) (hf : Fresh st id) (hm : id + 128 ≤ m) {d : Dl} (h : Stp P T st id o.op d) : Done P O o a w n0 N m st d := by
 obtain ⟨dst, op, type, pos, after, guard⟩ := o
 simp only at h hd
 cases h with
 | pure hv => exact (ok_pure hT r (o := ⟨dst, op, type, pos, after, guard⟩) hv).done r hd
 | pick h1 => exact (ok_pick r (o := ⟨dst, _, type, pos, after, guard⟩) rfl h1).done r hd
 | alloc h1 => exact done_alloc hT r (o := ⟨dst, _, type, pos, after, guard⟩) hd hf (by omega) rfl h1
 | box h1 => exact done_box r (o := ⟨dst, _, type, pos, after, guard⟩) hd hf (by omega) rfl h1
 | storeB h1 h2 h3 h4 h5 h6 => exact done_storeB hT r (o := ⟨dst, _, type, pos, after, guard⟩) hd rfl h1 h2 h3 h4 h5 h6
 | storeE h1 h2 h3 h4 h5 h6 h7 h8 h9 h10 => exact done_storeE hT r (o := ⟨dst, _, type, pos, after, guard⟩) hd rfl h1 h2 h3 h4 h5 h6 h7 h8 h9 h10
 | loadE h1 h2 h3 h4 h5 h6 h7 => exact done_loadE hT r (o := ⟨dst, _, type, pos, after, guard⟩) hd rfl h1 h2 h3 h4 h5 h6 h7
 | ixT h1 h2 h3 h4 h5 h6 h7 => exact (ok_ixT hT r (o := ⟨dst, _, type, pos, after, guard⟩) rfl h1 h2 h3 h4 h5 h6 h7).done r hd
 | ixR h1 h2 h3 h4 h5 h6 h7 h8 h9 => exact (ok_ixR hT r (o := ⟨dst, _, type, pos, after, guard⟩) rfl h1 h2 h3 h4 h5 h6 h7 h8 h9).done r hd
 | ixAp h1 h2 h3 h4 h5 h6 => exact (ok_ixAp hT r (o := ⟨dst, _, type, pos, after, guard⟩) rfl h1 h2 h3 h4 h5 h6).done r hd
 | ixAi h1 h2 h3 h4 h5 h6 => exact (ok_ixAi hT r (o := ⟨dst, _, type, pos, after, guard⟩) rfl h1 h2 h3 h4 h5 h6).done r hd
 | ixAe h1 h2 h3 h4 h5 h6 => exact (ok_ixAe hT r (o := ⟨dst, _, type, pos, after, guard⟩) rfl h1 h2 h3 h4 h5 h6).done r hd
 | ixS h0 h1 h2 h3 h4 => exact (ok_ixS hT r h0 (o := ⟨dst, _, type, pos, after, guard⟩) rfl h1 h2 h3 h4).done r hd
 | ixA h1 h2 h3 h4 h5 h6 h7 => exact (ok_ixV hT r (o := ⟨dst, _, type, pos, after, guard⟩) rfl h1 h2 h3 h4 h5 h6 h7).done r hd
 | slS h1 h2 h3 h4 h5 h6 => exact (ok_slS hT r (o := ⟨dst, _, type, pos, after, guard⟩) rfl h1 h2 h3 h4 h5 h6).done r hd
 | slT h1 h2 h3 h4 h5 h6 h7 h8 => exact (ok_slT hT r (o := ⟨dst, _, type, pos, after, guard⟩) rfl h1 h2 h3 h4 h5 h6 h7 h8).done r hd
 | bsl h1 h2 h3 h4 h5 h6 => exact done_bsl hT r (o := ⟨dst, _, type, pos, after, guard⟩) hd hf (by omega) rfl h1 h2 h3 h4 h5 h6
 | call h1 h2 h3 h4 => exact done_call r (o := ⟨dst, _, type, pos, after, guard⟩) hd hf hm rfl h1 h2 h3 h4
 | appN h1 h2 h3 h4 h5 h6 h7 h8 => exact done_appN hT r (o := ⟨dst, _, type, pos, after, guard⟩) hd hf (by omega) rfl h1 h2 h3 h4 h5 h6 h7 h8
 | appR h1 h2 h3 h4 h5 h6 h7 h8 h9 h10 h11 h12 => exact done_appR hT r (o := ⟨dst, _, type, pos, after, guard⟩) hd rfl h1 h2 h3 h4 h5 h6 h7 h8 h9 h10 h11 h12
end Cg
end
section
namespace Cg
open Go Go.RowKit Go.Sort Go.Lib
variable {P : Program} {T : Nat → Option Ty} {O : Nat → Prop}
/-- What an operation writes: new variables and rows, or, where it is a store or an append, old ones. -/
theorem stp_keys {st : St} {id : Nat} {op : Op} {d : Dl} (h : Stp P T st id op d) :
  (∀ b cs, lk d.bs b = some cs → (mods op = true ∧ ∃ c0, lk st.bx b = some c0) ∨ (id ≤ b ∧ b < id + 128)) ∧ (∀ τ R, lk d.rs τ = some R → (mods op = true ∧ ∃ R0, lk st.rw τ = some R0) ∨ (id ≤ τ ∧ τ < id + 128)) ∧ (heapy op = false → d.bs = [] ∧ d.rs = []) := by
 have one : ∀ {α : Type} {i : Nat} {x y : α} {j : Nat}, lk [(i, x)] j = some y → j = i := fun {α i x y j} h => by
  rw [lk_cons] at h
  split at h
  ·rename_i e; exact e.symm
  ·cases h
 cases h with
 | storeB h1 h2 h3 h4 h5 h6 => exact ⟨fun b cs h => .inl ⟨rfl, (by rw [one h]; exact ⟨_, h5⟩)⟩, fun _ _ h => (by cases h), fun h => (by cases h)⟩
 | storeE h1 h2 h3 h4 h5 h6 h7 h8 h9 h10 => exact ⟨fun _ _ h => (by cases h), fun τ R h => .inl ⟨rfl, (by rw [one h]; exact ⟨_, h5⟩)⟩, fun h => (by cases h)⟩
 | appR h1 h2 h3 h4 h5 => exact ⟨fun _ _ h => (by cases h), fun τ R h => .inl ⟨rfl, (by rw [one h]; exact ⟨_, h5⟩)⟩, fun h => (by cases h)⟩
 | alloc h1 => exact ⟨fun b cs h => .inr (by rw [one h]; omega), fun _ _ h => (by cases h), fun h => (by cases h)⟩
 | box h1 => exact ⟨fun b cs h => .inr (by rw [one h]; omega), fun _ _ h => (by cases h), fun h => (by cases h)⟩
 | bsl h1 => exact ⟨fun _ _ h => (by cases h), fun b cs h => .inr (by rw [one h]; omega), fun h => by cases h⟩
 | appN h1 => exact ⟨fun _ _ h => (by cases h), fun b cs h => .inr (by rw [one h]; omega), fun h => by cases h⟩
 | call h1 h2 h3 h4 =>
  refine ⟨fun _ _ h => (by cases h), fun τ R h => .inr ?_, fun h => by cases h⟩
  rw [lk_numR] at h
  split at h
  ·have h5 := (List.getElem?_eq_some_iff.1 h).1
   have := h3.few
   omega
  ·cases h
 | pure h1 => exact ⟨fun _ _ h => (by cases h), fun _ _ h => (by cases h), fun _ => ⟨rfl, rfl⟩⟩
 | pick h1 => exact ⟨fun _ _ h => (by cases h), fun _ _ h => (by cases h), fun _ => ⟨rfl, rfl⟩⟩
 | loadE h1 => exact ⟨fun _ _ h => (by cases h), fun _ _ h => (by cases h), fun _ => ⟨rfl, rfl⟩⟩
 | ixT h1 => exact ⟨fun _ _ h => (by cases h), fun _ _ h => (by cases h), fun _ => ⟨rfl, rfl⟩⟩
 | ixR h1 => exact ⟨fun _ _ h => (by cases h), fun _ _ h => (by cases h), fun _ => ⟨rfl, rfl⟩⟩
 | ixAp h1 => exact ⟨fun _ _ h => (by cases h), fun _ _ h => (by cases h), fun _ => ⟨rfl, rfl⟩⟩
 | ixAi h1 => exact ⟨fun _ _ h => (by cases h), fun _ _ h => (by cases h), fun _ => ⟨rfl, rfl⟩⟩
 | ixAe h1 => exact ⟨fun _ _ h => (by cases h), fun _ _ h => (by cases h), fun _ => ⟨rfl, rfl⟩⟩
 | ixS h0 h1 => exact ⟨fun _ _ h => (by cases h), fun _ _ h => (by cases h), fun _ => ⟨rfl, rfl⟩⟩
 | ixA h1 => exact ⟨fun _ _ h => (by cases h), fun _ _ h => (by cases h), fun _ => ⟨rfl, rfl⟩⟩
 | slS h1 => exact ⟨fun _ _ h => (by cases h), fun _ _ h => (by cases h), fun _ => ⟨rfl, rfl⟩⟩
 | slT h1 => exact ⟨fun _ _ h => (by cases h), fun _ _ h => (by cases h), fun _ => ⟨rfl, rfl⟩⟩
/-- Of a value's names, st' has what st has. -/
def AgV (st st' : St) (v : AV) : Prop := (∀ b ∈ v.bids, ∀ cs, lk st.bx b = some cs → lk st'.bx b = some cs) ∧ (∀ p ∈ v.rids, ∀ R, lk st.rw p.1 = some R → lk st'.rw p.1 = some R)
theorem treeC_ag {st st' : St} {c : Ce} {x : Tr} (h : treeC st c = some x) (ha : ∀ p ∈ c.rids, ∀ R, lk st.rw p.1 = some R → lk st'.rw p.1 = some R) : treeC st' c = some x := by
 cases c with
 | row τ ver =>
  show (match lk st'.rw τ with
   | some R => bif Nat.beq R.ver ver then some (Tr.sl R.k R.xs) else none
   | none => none) = some x
  have h : (match lk st.rw τ with
   | some R => bif Nat.beq R.ver ver then some (Tr.sl R.k R.xs) else none
   | none => none) = some x := h
  split at h
  ·rename_i R hR
   rw [ha (τ, ver) List.mem_cons_self R hR]
   exact h
  ·cases h
 | _ => exact h
theorem elemsA_ag {st st' : St} {v : AV} {k : Nat} {xs : List (List Tr)} (h : elemsA st v = some (k, xs)) (ha : AgV st st' v) : elemsA st' v = some (k, xs) := by
 unfold elemsA at h ⊢
 split at h
 ·rename_i c
  split at h
  ·rename_i k' xs' hc
   simp only [treeC_ag hc ha.2]
   exact h
  ·cases h
 ·cases h
theorem fitC_ag {st st' : St} {x y : Ce} (h : FitC st x y) (ha : ∀ p ∈ x.rids, ∀ R, lk st.rw p.1 = some R → lk st'.rw p.1 = some R) : FitC st' x y := by
 unfold FitC at h
 split at h
 ·exact h
 ·exact h
 ·exact h
 ·rename_i τ ver y
  split at h
  ·rename_i R hR
   unfold FitC
   simp only [ha (τ, ver) List.mem_cons_self R hR]
   exact h
  ·exact h.elim
 ·exact h.elim
theorem fitL_ag {st st' : St} : ∀ {xs ys : List Ce}, FitL st xs ys → (∀ p ∈ xs.flatMap Ce.rids, ∀ R, lk st.rw p.1 = some R → lk st'.rw p.1 = some R) → FitL st' xs ys
 | [], [], _, _ => trivial
 | x :: xs, y :: ys, h, ha => by
  rw [List.flatMap_cons] at ha
  exact ⟨fitC_ag h.1 fun p hp => ha p (List.mem_append_left _ hp), fitL_ag h.2 fun p hp => ha p (List.mem_append_right _ hp)⟩
 | [], _ :: _, h, _ => h.elim
 | _ :: _, [], h, _ => h.elim
theorem fit_ag {st st' : St} {x y : AV} (h : Fit st x y) (ha : AgV st st' x) : Fit st' x y := by
 unfold Fit at h
 split at h
 ·exact fitC_ag h ha.2
 ·exact fitL_ag h ha.2
 ·exact h
 ·exact h.elim
theorem fits_ag {st st' : St} : ∀ {xs ys : List AV}, Fits st xs ys → (∀ x ∈ xs, AgV st st' x) → Fits st' xs ys
 | [], [], _, _ => trivial
 | x :: xs, y :: ys, h, ha => ⟨fit_ag h.1 (ha x List.mem_cons_self), fits_ag h.2 fun z hz => ha z (List.mem_cons_of_mem _ hz)⟩
 | [], _ :: _, h, _ => h.elim
 | _ :: _, [], h, _ => h.elim
theorem partsC_ag {st st' : St} {pl : Nat → Option (Nat × Nat)} : ∀ {parts : List (Nat × Operand)} {cs : List Ce}, (∀ p ∈ parts, ev st' p.2 = ev st p.2) → partsC st' pl parts cs = partsC st pl parts cs
 | [], _, _ => rfl
 | (j, x) :: parts, cs, h => by
  have ih : ∀ cs, partsC st' pl parts cs = partsC st pl parts cs := fun cs => partsC_ag fun p hp => h p (List.mem_cons_of_mem _ hp)
  have hx : ev st' x = ev st x := h (j, x) List.mem_cons_self
  unfold partsC
  simp only [hx, ih]
theorem partsT_ag {st st' : St} {sz : Nat} : ∀ {parts : List (Nat × Operand)} {i : Nat}, (∀ p ∈ parts, ev st' p.2 = ev st p.2) → partsT st' sz i parts = partsT st sz i parts
 | [], _, _ => rfl
 | (j, x) :: parts, i, h => by
  have ih : ∀ i, partsT st' sz i parts = partsT st sz i parts := fun i => partsT_ag fun p hp => h p (List.mem_cons_of_mem _ hp)
  have hx : ev st' x = ev st x := h (j, x) List.mem_cons_self
  unfold partsT
  simp only [hx, ih]
theorem bound_ag {st st' : St} {x : Option Operand} {z n : Nat} (h : bound st x z n) (ha : ∀ o, x = some o → ev st' o = ev st o) : bound st' x z n := by
 cases x with
 | none => exact h
 | some x =>
  unfold bound at h ⊢
  simp only at h ⊢
  rw [ha x rfl]
  exact h
theorem pureS_ag {st st' : St} {op : Op} {v : AV} (h : pureS T st op = some v) (he : ∀ x ∈ op.operands, ev st' x = ev st x) (ha : heapy op = true → ∀ x ∈ op.operands, AgV st st' (ev st x)) : pureS T st' op = some v := by
 cases op with
 | load t x =>
  have h1 := he x (by simp [Op.operands])
  have h2 := ha rfl x (by simp [Op.operands])
  unfold pureS at h ⊢
  simp only at h ⊢
  rw [h1]
  split at h
  ·split at h
   ·rename_i y hy b o e
    rw [e] at h2
    split at h
    ·rename_i cs hcs
     rw [h2.1 b List.mem_cons_self cs hcs]
     exact h
    ·cases h
   ·exact h
   ·cases h
  ·cases h
 | call c =>
  obtain ⟨cl, args, tys⟩ := c
  unfold pureS at h ⊢
  simp only at h ⊢
  split at h
  ·rename_i x t e1 e2
   obtain rfl : args = #[x] := Array.toList_inj.1 e1
   have h1 := he x (by simp [Op.operands, Call.operands])
   have h2 := ha rfl x (by simp [Op.operands, Call.operands])
   rw [h1]
   split at h
   ·exact h
   ·split at h
    ·rename_i k xs e
     rw [elemsA_ag e h2]
     exact h
    ·cases h
   ·cases h
  ·cases h
 | build t ps =>
  have h1 : ∀ p ∈ ps.toList, ev st' p.2 = ev st p.2 := fun p hp => he p.2 (by simp only [Op.operands, List.mem_toArray]; exact List.mem_map.2 ⟨p, hp, rfl⟩)
  unfold pureS at h ⊢
  simp only [partsC_ag h1] at h ⊢
  exact h
 | move x =>
  have h1 := he x (by simp [Op.operands])
  unfold pureS at h ⊢
  simp only [h1] at h ⊢
  exact h
 | assign x =>
  have h1 := he x (by simp [Op.operands])
  unfold pureS at h ⊢
  simp only [h1] at h ⊢
  exact h
 | nilCheck x =>
  have h1 := he x (by simp [Op.operands])
  unfold pureS at h ⊢
  simp only [h1] at h ⊢
  exact h
 | binOp op t x y t' =>
  have h1 := he x (by simp [Op.operands])
  have h2 := he y (by simp [Op.operands])
  unfold pureS at h ⊢
  simp only [h1, h2] at h ⊢
  exact h
 | unOp op t x =>
  have h1 := he x (by simp [Op.operands])
  unfold pureS at h ⊢
  simp only [h1] at h ⊢
  exact h
 | convert s t x =>
  have h1 := he x (by simp [Op.operands])
  unfold pureS at h ⊢
  simp only [h1] at h ⊢
  exact h
 | field t x f =>
  have h1 := he x (by simp [Op.operands])
  unfold pureS at h ⊢
  simp only [h1] at h ⊢
  exact h
 | fieldAddr t x f =>
  have h1 := he x (by simp [Op.operands])
  unfold pureS at h ⊢
  simp only [h1] at h ⊢
  exact h
 | extract x i =>
  have h1 := he x (by simp [Op.operands])
  unfold pureS at h ⊢
  simp only [h1] at h ⊢
  exact h
 | _ => cases h
theorem stp_ag {st st' : St} {id : Nat} {op : Op} {d : Dl} (h : Stp P T st id op d) (he : ∀ x ∈ op.operands, ev st' x = ev st x) (ha : heapy op = true → ∀ x ∈ op.operands, AgV st st' (ev st x)) : Stp P T st' id op d := by
 cases h with
 | pure h1 => exact .pure (pureS_ag h1 he ha)
 | @pick c a b t h1 =>
  rw [← he a (by simp [Op.operands]), ← he b (by simp [Op.operands])]
  exact .pick (by rw [he c (by simp [Op.operands])]; exact h1)
 | alloc h1 => exact .alloc h1
 | @box e x cs h1 => exact .box (by rw [he x (by simp [Op.operands])]; exact h1)
 | @storeB t a x y us b o cs h1 h2 h3 h4 h5 h6 =>
  have q := ha rfl a (by simp [Op.operands])
  rw [h4] at q
  exact .storeB h1 (by rw [he x (by simp [Op.operands])]; exact h2) h3 (by rw [he a (by simp [Op.operands])]; exact h4) (q.1 b List.mem_cons_self cs h5) h6
 | @storeE t a x y us ts τ ver k i o R xs h1 h2 h3 h4 h5 h6 h7 h8 h9 h10 =>
  have q := ha rfl a (by simp [Op.operands])
  rw [h4] at q
  exact .storeE h1 (by rw [he x (by simp [Op.operands])]; exact h2) h3 (by rw [he a (by simp [Op.operands])]; exact h4) (q.2 (τ, ver) List.mem_cons_self R h5) h6 h7 h8 h9 h10
 | @loadE t a y τ ver k i o R xs v h1 h2 h3 h4 h5 h6 h7 =>
  have q := ha rfl a (by simp [Op.operands])
  rw [h1] at q
  exact .loadE (by rw [he a (by simp [Op.operands])]; exact h1) h2 (q.2 (τ, ver) List.mem_cons_self R h3) h4 h5 h6 h7
 | @ixT t e x ix s b z q kk n y k xs j ts h1 h2 h3 h4 h5 h6 h7 => exact .ixT h1 (by rw [he ix (by simp [Op.operands])]; exact h2) h3 (by rw [he x (by simp [Op.operands])]; exact h4) h5 h6 h7
 | @ixR t e x ix s b z q kk n y τ ver R j h1 h2 h3 h4 h5 h6 h7 h8 h9 =>
  have g := ha rfl x (by simp [Op.operands])
  rw [h4] at g
  exact .ixR h1 (by rw [he ix (by simp [Op.operands])]; exact h2) h3 (by rw [he x (by simp [Op.operands])]; exact h4) (g.2 (τ, ver) List.mem_cons_self R h5) h6 h7 h8 h9
 | @ixAp t m e x ix s b z q kk n y g o j h1 h2 h3 h4 h5 h6 => exact .ixAp h1 (by rw [he ix (by simp [Op.operands])]; exact h2) h3 (by rw [he x (by simp [Op.operands])]; exact h4) h5 h6
 | @ixAi t m e x ix s b z q kk n y xs o j h1 h2 h3 h4 h5 h6 => exact .ixAi h1 (by rw [he ix (by simp [Op.operands])]; exact h2) h3 (by rw [he x (by simp [Op.operands])]; exact h4) h5 h6
 | @ixAe t m e x ix s b z q kk n y τ ver k i o j h1 h2 h3 h4 h5 h6 => exact .ixAe h1 (by rw [he ix (by simp [Op.operands])]; exact h2) h3 (by rw [he x (by simp [Op.operands])]; exact h4) h5 h6
 | @ixS t x ix s b z q kk n str j h0 h1 h2 h3 h4 => exact .ixS h0 h1 (by rw [he x (by simp [Op.operands])]; exact h2) (by rw [he ix (by simp [Op.operands])]; exact h3) h4
 | @ixA t m e x ix s b z q kk n y cs j v h1 h2 h3 h4 h5 h6 h7 => exact .ixA h1 (by rw [he x (by simp [Op.operands])]; exact h2) (by rw [he ix (by simp [Op.operands])]; exact h3) h4 h5 h6 h7
 | @slS t x lo hi s b z q str l h h1 h2 h3 h4 h5 h6 => exact .slS h1 (by rw [he x (by simp [Op.operands])]; exact h2) (bound_ag h3 fun o e => he o (by simp [Op.operands, e])) (bound_ag h4 fun o e => he o (by simp [Op.operands, e])) h5 h6
 | @slT t e x lo hi s b z q y k xs l h h1 h2 h3 h4 h5 h6 h7 h8 => exact .slT h1 (by rw [he x (by simp [Op.operands])]; exact h2) h3 h4 (bound_ag h5 fun o e => he o (by simp [Op.operands, e])) (bound_ag h6 fun o e => he o (by simp [Op.operands, e])) h7 h8
 | @bsl t e len parts s b z q y xs h1 h2 h3 h4 h5 h6 =>
  have g : ∀ p ∈ parts.toList, ev st' p.2 = ev st p.2 := fun p hp => he p.2 (by simp only [Op.operands, List.mem_toArray]; exact List.mem_map.2 ⟨p, hp, rfl⟩)
  exact .bsl h1 h2 (by rw [partsT_ag g]; exact h3) h4 h5 h6
 | @call f args tys g ars r rs fresh h1 h2 h3 h4 =>
  have e1 : args.toList.map (ev st') = args.toList.map (ev st) := List.map_congr_left fun x hx => he x (by simp only [Op.operands, Call.operands]; exact Array.mem_append.2 (.inr (Array.mem_toList_iff.1 hx)))
  refine .call (by rw [he f (by simp [Op.operands, Call.operands])]; exact h1) ?_ h3 (by rw [e1]; exact h4)
  rw [e1]
  refine fits_ag h2 fun v hv => ?_
  obtain ⟨x, hx, rfl⟩ := List.mem_map.1 hv
  exact ha rfl x (by simp only [Op.operands, Call.operands]; exact Array.mem_append.2 (.inr (Array.mem_toList_iff.1 hx)))
 | @appN s x t e sz b z q y k ys h1 h2 h3 h4 h5 h6 h7 h8 => exact .appN h1 h2 (by rw [he x (by simp [Op.operands, Call.operands])]; exact elemsA_ag h3 (ha rfl x (by simp [Op.operands, Call.operands]))) (by rw [he s (by simp [Op.operands, Call.operands])]; exact h4) h5 h6 h7 h8
 | @appR s x t e sz b z q y k ys τ ver R h1 h2 h3 h4 h5 h6 h7 h8 h9 h10 h11 h12 =>
  have g := ha rfl s (by simp [Op.operands, Call.operands])
  rw [h4] at g
  exact .appR h1 h2 (by rw [he x (by simp [Op.operands, Call.operands])]; exact elemsA_ag h3 (ha rfl x (by simp [Op.operands, Call.operands]))) (by rw [he s (by simp [Op.operands, Call.operands])]; exact h4) (g.2 (τ, ver) List.mem_cons_self R h5) h6 h7 h8 h9 h10 h11 h12
end Cg
end
section
namespace Cg
open Go Go.RowKit Go.Sort Go.Lib
variable {P : Program} {T : Nat → Option Ty} {O : Nat → Prop}
/-- States that nobody can tell apart. -/
structure Eqv (s s' : St) : Prop where
 sl : ∀ t, s'.get t = s.get t
 bx : ∀ b, lk s'.bx b = lk s.bx b
 rw : ∀ τ, lk s'.rw τ = lk s.rw τ
theorem Eqv.refl (s : St) : Eqv s s := ⟨fun _ => rfl, fun _ => rfl, fun _ => rfl⟩
theorem Eqv.symm {s s' : St} (h : Eqv s s') : Eqv s' s := ⟨fun t => (h.sl t).symm, fun t => (h.bx t).symm, fun t => (h.rw t).symm⟩
theorem Eqv.trans {s s' s2 : St} (h : Eqv s s') (k : Eqv s' s2) : Eqv s s2 := ⟨fun t => (k.sl t).trans (h.sl t), fun t => (k.bx t).trans (h.bx t), fun t => (k.rw t).trans (h.rw t)⟩
theorem Eqv.app {s s' : St} (h : Eqv s s') (t : Option Nat) (d : Dl) : Eqv (s.app t d) (s'.app t d) := by
 refine ⟨fun t' => ?_, fun b => ?_, fun τ => ?_⟩
 ·rw [St.get_app, St.get_app, h.sl]
 ·rw [St.app_bx, St.app_bx, lk_append, lk_append, h.bx]
 ·rw [St.app_rw, St.app_rw, lk_append, lk_append, h.rw]
theorem Eqv.ev {s s' : St} (h : Eqv s s') (x : Operand) : ev s' x = ev s x := by
 cases x with
 | tmp t => exact h.sl t
 | _ => rfl
theorem Eqv.stp {s s' : St} (h : Eqv s s') {id : Nat} {op : Op} {d : Dl} (k : Stp P T s id op d) : Stp P T s' id op d :=
 stp_ag k (fun x _ => h.ev x) (fun _ x _ => ⟨fun b _ cs hcs => (h.bx b).trans hcs, fun p _ R hR => (h.rw p.1).trans hR⟩)
theorem Eqv.rep {s s' : St} (h : Eqv s s') {E : Env} {w : World} {n0 N m : Nat} {a : Act} (r : RepM O E w n0 N m s a) : RepM O E w n0 N m s' a := by
 refine ⟨r.dfr, r.sz, fun t => by rw [h.sl]; exact r.slt t, fun i cs hi => r.box i cs (by rw [← h.bx]; exact hi), fun τ R hR => r.row τ R (by rw [← h.rw]; exact hR), ⟨fun t b hb => ?_, fun t p hp => ?_, fun b cs hcs p hp => ?_, fun b cs hcs => r.sc.fb b cs (by rw [← h.bx]; exact hcs), fun τ R hR => r.sc.fr τ R (by rw [← h.rw]; exact hR)⟩, r.hi, r.old⟩
 ·rw [h.sl] at hb
  obtain ⟨cs, hcs⟩ := r.sc.sb t b hb
  exact ⟨cs, by rw [h.bx]; exact hcs⟩
 ·rw [h.sl] at hp
  obtain ⟨R, hR, hv⟩ := r.sc.sr t p hp
  exact ⟨R, by rw [h.rw]; exact hR, hv⟩
 ·obtain ⟨R, hR, hv⟩ := r.sc.br b cs (by rw [← h.bx]; exact hcs) p hp
  exact ⟨R, by rw [h.rw]; exact hR, hv⟩
theorem Eqv.put {s : St} {t : Nat} {v : AV} (h : s.get t = v) : Eqv s (s.put t v) := by
 refine ⟨fun t' => ?_, fun b => by cases s; rfl, fun τ => by cases s; rfl⟩
 rw [St.get_put]
 split
 ·rename_i e
  rw [← e, h]
 ·rfl
theorem put_app (s : St) (t : Option Nat) (v : AV) : Eqv (s.app t (.val v)) (s.put? t v) := by
 cases s
 cases t <;> exact Eqv.refl _
def appAll (s : St) (L : List (Oper × Dl)) : St := L.foldl (fun s p => s.app p.1.dst p.2) s
theorem appAll_snoc (s : St) (L : List (Oper × Dl)) (o : Oper) (d : Dl) : appAll s (L ++ [(o, d)]) = (appAll s L).app o.dst d := by simp [appAll]
/-- Is the operation wanted in state s? -/
def Wnt (ops : Array Oper) (s : St) (o : Oper) (b : Bool) : Prop := match o.guard with
 | none => b = true
 | some (g, want) => ∃ t, (ops[g]?).bind (·.dst) = some t ∧ ((∃ v, s.get t = .c (.t (.lit (.bool v))) ∧ b = (v == want)) ∨ (s.get t = .tup [] ∧ b = false))
theorem Wnt.eqv {ops : Array Oper} {s s' : St} {o : Oper} {b : Bool} (h : Wnt ops s o b) (e : Eqv s s') : Wnt ops s' o b := by
 unfold Wnt at *
 split
 ·rename_i hg
  rw [hg] at h
  exact h
 ·rename_i g want hg
  rw [hg] at h
  obtain ⟨t, h1, h2⟩ := h
  refine ⟨t, h1, ?_⟩
  rw [e.sl]
  exact h2
def StepOk (P : Program) (T : Nat → Option Ty) (ops : Array Oper) (id j : Nat) (s : St) (o : Oper) (d : Dl) : Prop := ∃ b, Wnt ops s o b ∧ (b = true → Stp P T s (id + 128 * j) o.op d) ∧ (b = false → d = .val (.tup []))
theorem StepOk.eqv {ops : Array Oper} {id j : Nat} {s s' : St} {o : Oper} {d : Dl} (h : StepOk P T ops id j s o d) (e : Eqv s s') : StepOk P T ops id j s' o d := by
 obtain ⟨b, h1, h2, h3⟩ := h
 exact ⟨b, h1.eqv e, fun hb => e.stp (h2 hb), h3⟩
/-- The way through a region, operation by operation. -/
def PathOk (P : Program) (T : Nat → Option Ty) (ops : Array Oper) (id : Nat) (s0 : St) (L : List (Oper × Dl)) : Prop := ∀ j o d, L[j]? = some (o, d) → StepOk P T ops id j (appAll s0 (L.take j)) o d
theorem PathOk.snoc {ops : Array Oper} {id : Nat} {s0 : St} {L : List (Oper × Dl)} (h : PathOk P T ops id s0 L) {o : Oper} {d : Dl} (k : StepOk P T ops id L.length (appAll s0 L) o d) : PathOk P T ops id s0 (L ++ [(o, d)]) := by
 intro j o' d' hj
 by_cases hl : j < L.length
 ·rw [List.getElem?_append_left hl] at hj
  rw [List.take_append_of_le_length (by omega)]
  exact h j o' d' hj
 ·rw [List.getElem?_append_right (by omega)] at hj
  have : j - L.length = 0 := by
   have := (List.getElem?_eq_some_iff.1 hj).1
   simp at this
   omega
  rw [this] at hj
  cases hj
  have hjl : j = L.length := by omega
  subst hjl
  rw [List.take_left']
  ·exact k
  ·rfl
theorem ops_path {ops : Array Oper} {id : Nat} {s0 : St} : ∀ (rest : List Oper) (L0 : List (Oper × Dl)) (st : St) (K : St → Prop), Eqv (appAll s0 L0) st → PathOk P T ops id s0 L0 → WPops P T ops id L0.length rest st K →
  ∃ L1, L1.map (·.1) = rest ∧ PathOk P T ops id s0 (L0 ++ L1) ∧ ∃ st', K st' ∧ Eqv (appAll s0 (L0 ++ L1)) st'
 | [], L0, st, K, he, hp, h => ⟨[], rfl, by rw [List.append_nil]; exact hp, st, h, by rw [List.append_nil]; exact he⟩
 | o :: r, L0, st, K, he, hp, h => by
  have next : ∀ d st1, StepOk P T ops id L0.length (appAll s0 L0) o d → Eqv ((appAll s0 L0).app o.dst d) st1 → WPops P T ops id (L0.length + 1) r st1 K → ∃ L1, L1.map (·.1) = o :: r ∧ PathOk P T ops id s0 (L0 ++ L1) ∧ ∃ st', K st' ∧ Eqv (appAll s0 (L0 ++ L1)) st' := fun d st1 h1 h2 h3 => by
   obtain ⟨L1, h4, h5, h6⟩ := ops_path r (L0 ++ [(o, d)]) st1 K (by rw [appAll_snoc]; exact h2) (hp.snoc h1) (by rw [List.length_append]; exact h3)
   refine ⟨(o, d) :: L1, by rw [List.map_cons, h4], ?_, ?_⟩
   ·rw [show L0 ++ (o, d) :: L1 = L0 ++ [(o, d)] ++ L1 by simp]
    exact h5
   ·rw [show L0 ++ (o, d) :: L1 = L0 ++ [(o, d)] ++ L1 by simp]
    exact h6
  have goW : ∀ st0, Eqv (appAll s0 L0) st0 → Wnt ops (appAll s0 L0) o true → WPo P T st0 (id + 128 * L0.length) o (fun d => WPops P T ops id (L0.length + 1) r (st0.app o.dst d) K) → ∃ L1, L1.map (·.1) = o :: r ∧ PathOk P T ops id s0 (L0 ++ L1) ∧ ∃ st', K st' ∧ Eqv (appAll s0 (L0 ++ L1)) st' := fun st0 he0 hw h => by
   obtain ⟨d, h1, h2⟩ := wpo_stp h
   exact next d _ ⟨true, hw, fun _ => he0.symm.stp h1, fun h => by cases h⟩ (he0.app _ _) h2
  have goS : ∀ st0, Eqv (appAll s0 L0) st0 → Wnt ops (appAll s0 L0) o false → WPops P T ops id (L0.length + 1) r (st0.put? o.dst (.tup [])) K → ∃ L1, L1.map (·.1) = o :: r ∧ PathOk P T ops id s0 (L0 ++ L1) ∧ ∃ st', K st' ∧ Eqv (appAll s0 (L0 ++ L1)) st' := fun st0 he0 hw h => by
   exact next (.val (.tup [])) _ ⟨false, hw, fun h => (by cases h), fun _ => rfl⟩ ((he0.app o.dst (.val (.tup []))).trans (put_app _ _ _)) h
  have h : WPg P T ops id L0.length o st (fun st' => WPops P T ops id (L0.length + 1) r st' K) := h
  unfold WPg at h
  simp only [WPh, St.open_eq] at h
  split at h
  ·rename_i hg
   exact goW st he (by unfold Wnt; rw [hg]) h
  ·rename_i g want hg
   split at h
   ·exact h.elim
   ·rename_i t ht
    split at h
    ·rename_i b hb
     have hb' : (appAll s0 L0).get t = .c (.t (.lit (.bool b))) := by rw [← he.sl]; exact hb
     have wn : ∀ b', b' = (b == want) → Wnt ops (appAll s0 L0) o b' := fun b' e => by
      unfold Wnt
      rw [hg]
      exact ⟨t, ht, .inl ⟨b, hb', e⟩⟩
     cases b with
     | true =>
      simp only [cond_true] at h
      have he1 : Eqv (appAll s0 L0) (st.put t (AV.b true)) := he.trans (Eqv.put hb)
      cases want with
      | true => exact goW _ he1 (wn true rfl) h
      | false => exact goS _ he1 (wn false rfl) h
     | false =>
      simp only [cond_false] at h
      have he1 : Eqv (appAll s0 L0) (st.put t (AV.b false)) := he.trans (Eqv.put hb)
      cases want with
      | true => exact goS _ he1 (wn false rfl) h
      | false => exact goW _ he1 (wn true rfl) h
    ·rename_i hb
     refine goS _ he ?_ h
     unfold Wnt
     rw [hg]
     exact ⟨t, ht, .inr ⟨by rw [← he.sl]; exact hb, rfl⟩⟩
    ·exact h.elim
section
variable {E : Env} {w : World} {n0 N m : Nat} {a : Act}
theorem wnt_wanted {ops : Array Oper} {s : St} {o : Oper} {b : Bool} (h : Wnt ops s o b) (r : RepM O E w n0 N m s a) : Region.wanted o (yielded ops a.tmps) = b := by
 unfold Wnt at h
 unfold Region.wanted
 split at h
 ·rename_i hg
  simp only [hg]
  exact h.symm
 ·rename_i g want hg
  obtain ⟨t, ht, h⟩ := h
  simp only [hg]
  unfold yielded
  rw [ht]
  have hr := r.slt t
  rw [Array.getD_eq_getD_getElem?] at hr
  rcases h with ⟨v, hv, rfl⟩ | ⟨hv, rfl⟩
  ·rw [hv] at hr
   have hr := rv_lit hr
   cases hq : a.tmps[t]? with
   | none => rw [hq] at hr; cases hr
   | some x =>
    rw [hq] at hr
    obtain rfl : x = .bool v := hr
    simp only [Option.bind_some, hq]
    cases v <;> cases want <;> rfl
  ·rw [hv] at hr
   obtain ⟨vs, hr, _⟩ := hr
   cases hq : a.tmps[t]? with
   | none => simp [hq]
   | some x =>
    rw [hq] at hr
    obtain rfl : x = .tuple vs.toArray := hr
    simp [hq]
/-- One operation of a region. -/
theorem run_step (hT : TabOk P T) {ops : Array Oper} {s : St} {id j : Nat} {o : Oper} {d : Dl} {K : Act → World → Prop} {Q : Exit → Act → World → Prop} (r : RepM O E w n0 N m s a) (hj : ops[j]? = some o) (hd : ∀ x, o.dst = some x → x < N) (hf : Fresh s (id + 128 * j)) (hm : id + 128 * j + 128 ≤ m) (h : StepOk P T ops id j s o d)
  (hK : ∀ E' v w', RepM O E' w' n0 N m (s.app o.dst d) (a.put o.dst v) → Below n0 w w' → K (a.put o.dst v) w') : wpOp P ops Q j K a w := by
 obtain ⟨b, h1, h2, h3⟩ := h
 unfold wpOp
 simp only [hj]
 rw [wnt_wanted h1 r]
 cases b with
 | true =>
  rw [if_pos rfl]
  exact .inl (stp_sound hT r hd hf hm (h2 rfl) K Q hK)
 | false =>
  rw [if_neg (by simp)]
  rw [h3 rfl] at hK
  exact hK E undef w (r.app hd (Mv.refl _ _ _ _ _) (dlsc_val ⟨fun b hb => (by cases hb), fun p hp => (by cases hp)⟩) ⟨[], rfl, .nil⟩ (fun _ _ h => by cases h) (fun _ _ h => by cases h)) (Below.refl _ _)
end
/-- Keys below n. -/
def Kb (s : St) (n : Nat) : Prop := (∀ b cs, lk s.bx b = some cs → b < n) ∧ ∀ τ R, lk s.rw τ = some R → τ < n
theorem Kb.fresh {s : St} {n : Nat} (h : Kb s n) : Fresh s n := fun i h1 _ => by
 refine ⟨?_, ?_⟩
 ·cases hq : lk s.bx i with
  | none => rfl
  | some cs => have := h.1 i cs hq; omega
 ·cases hq : lk s.rw i with
  | none => rfl
  | some cs => have := h.2 i cs hq; omega
theorem stepOk_keys {ops : Array Oper} {id j : Nat} {s : St} {o : Oper} {d : Dl} (h : StepOk P T ops id j s o d) :
  (∀ b cs, lk d.bs b = some cs → (mods o.op = true ∧ ∃ c0, lk s.bx b = some c0) ∨ (id + 128 * j ≤ b ∧ b < id + 128 * j + 128)) ∧ (∀ τ R, lk d.rs τ = some R → (mods o.op = true ∧ ∃ R0, lk s.rw τ = some R0) ∨ (id + 128 * j ≤ τ ∧ τ < id + 128 * j + 128)) ∧ (heapy o.op = false → d.bs = [] ∧ d.rs = []) := by
 obtain ⟨b, _, h2, h3⟩ := h
 cases b with
 | true => exact stp_keys (h2 rfl)
 | false =>
  rw [h3 rfl]
  exact ⟨fun _ _ h => (by cases h), fun _ _ h => (by cases h), fun _ => ⟨rfl, rfl⟩⟩
theorem Kb.app {ops : Array Oper} {id j : Nat} {s : St} {o : Oper} {d : Dl} (h : StepOk P T ops id j s o d) (k : Kb s (id + 128 * j)) : Kb (s.app o.dst d) (id + 128 * (j + 1)) := by
 obtain ⟨h1, h2, _⟩ := stepOk_keys h
 refine ⟨fun b cs hb => ?_, fun τ R hτ => ?_⟩
 ·rw [St.app_bx, lk_append] at hb
  cases hq : lk d.bs b with
  | some x =>
   rcases h1 b x hq with ⟨_, c0, hc⟩ | h
   ·have := k.1 b c0 hc; omega
   ·omega
  | none =>
   rw [hq] at hb
   have := k.1 b cs hb; omega
 ·rw [St.app_rw, lk_append] at hτ
  cases hq : lk d.rs τ with
  | some x =>
   rcases h2 τ x hq with ⟨_, c0, hc⟩ | h
   ·have := k.2 τ c0 hc; omega
   ·omega
  | none =>
   rw [hq] at hτ
   have := k.2 τ R hτ; omega
theorem path_kb {ops : Array Oper} {id : Nat} {s0 : St} {L : List (Oper × Dl)} (h : PathOk P T ops id s0 L) (k : Kb s0 id) : ∀ j, j ≤ L.length → Kb (appAll s0 (L.take j)) (id + 128 * j)
 | 0, _ => by simpa [appAll] using k
 | j + 1, hj => by
  have ih := path_kb h k j (by omega)
  obtain ⟨o, d, hL'⟩ : ∃ o d, L[j]? = some (o, d) := ⟨(L[j]'(by omega)).1, (L[j]'(by omega)).2, by rw [List.getElem?_eq_getElem]⟩
  rw [List.take_add_one, hL', Option.toList_some, appAll_snoc]
  exact Kb.app (h j o d hL') ih
theorem RepM.kb {E : Env} {w : World} {n0 N : Nat} {st : St} {a : Act} (r : RepM O E w n0 N st.nx st a) : Kb st st.nx := ⟨r.sc.fb, r.sc.fr⟩
theorem Sc.mono {m m' : Nat} {st : St} (h : Sc m st) (hm : m ≤ m') : Sc m' st := ⟨h.sb, h.sr, h.br, fun b cs hb => Nat.lt_of_lt_of_le (h.fb b cs hb) hm, fun τ R hR => Nat.lt_of_lt_of_le (h.fr τ R hR) hm⟩
theorem RepM.mono {E : Env} {w : World} {n0 N m m' : Nat} {st : St} {a : Act} (r : RepM O E w n0 N m st a) (hm : m ≤ m') : RepM O E w n0 N m' st a := ⟨r.dfr, r.sz, r.slt, r.box, r.row, r.sc.mono hm, r.hi, r.old⟩
/-- Dsts of a region's operations. -/
theorem regOk_dst {N : Nat} {ops : Array Oper} {draw : Bool} (h : regOk N ops draw = true) {j : Nat} {o : Oper} (hj : ops[j]? = some o) : ∀ x, o.dst = some x → x < N := fun x hx => by
 unfold regOk at h
 rw [Bool.and_eq_true] at h
 have h1 := List.all_eq_true.1 h.1 o (by rw [← Array.getElem?_toList] at hj; exact List.mem_of_getElem? hj)
 rw [hx] at h1
 exact Nat.le_of_ble_eq_true h1
/-- A region whose operations come in their order. -/
theorem listed_sound (hT : TabOk P T) {ops : Array Oper} {N n0 id m : Nat} {s0 : St} {L : List (Oper × Dl)} (hreg : regOk N ops false = true) (hL : L.map (·.1) = ops.toList) (hp : PathOk P T ops id s0 L) (k : Kb s0 id) (hm : id + 128 * ops.size ≤ m) {Q : Exit → Act → World → Prop} :
  ∀ (n j : Nat) (E : Env) (w : World) (a : Act), j + n = ops.size → RepM O E w n0 N m (appAll s0 (L.take j)) a → (∀ E' w' a', RepM O E' w' n0 N m (appAll s0 L) a' → Below n0 w w' → Q .normal a' w') → wpOps P ops Q (List.range' j n) a w := by
 have hlen : L.length = ops.size := by rw [← List.length_map (f := (·.1)), hL, Array.length_toList]
 intro n
 induction n with
 | zero =>
  intro j E w a hj r hQ
  have hjl : j = L.length := by omega
  subst hjl
  rw [List.take_length] at r
  exact hQ E w a r (Below.refl _ _)
 | succ n ih =>
  intro j E w a hj r hQ
  have hlt : j < L.length := by omega
  obtain ⟨o, d, hL'⟩ : ∃ o d, L[j]? = some (o, d) := ⟨(L[j]'hlt).1, (L[j]'hlt).2, by rw [List.getElem?_eq_getElem]⟩
  have hoj : ops[j]? = some o := by
   rw [← Array.getElem?_toList, ← hL, List.getElem?_map, hL']
   rfl
  rw [List.range'_succ, wpOps_cons]
  refine run_step hT r hoj (regOk_dst hreg hoj) (path_kb hp k j (by omega)).fresh (by omega) (hp j o d hL') fun E' v w' r' hb => ?_
  refine ih (j + 1) E' w' _ (by omega) ?_ fun E2 w2 a2 r2 hb2 => hQ E2 w2 a2 r2 (hb.trans hb2)
  rw [List.take_add_one, hL', Option.toList_some, appAll_snoc]
  exact r'
end Cg
end
section
namespace Cg
open Go Go.RowKit Go.Sort Go.Lib
variable {P : Program} {T : Nat → Option Ty} {O : Nat → Prop}
def sel {α : Type} (D : Nat → Bool) : Nat → List α → List α
 | _, [] => []
 | i, p :: r => bif D i then p :: sel D (i + 1) r else sel D (i + 1) r
theorem sel_filter {α : Type} {D D' : Nat → Bool} {f : α → Bool} : ∀ {L : List α} {i : Nat}, (∀ k p, L[k]? = some p → f p = true → D (i + k) = D' (i + k)) → (sel D i L).filter f = (sel D' i L).filter f
 | [], _, _ => rfl
 | p :: r, i, h => by
  have ih : (sel D (i + 1) r).filter f = (sel D' (i + 1) r).filter f := sel_filter fun k q hk hf => by
   have := h (k + 1) q (by simpa using hk) hf
   rwa [show i + (k + 1) = i + 1 + k by omega] at this
  unfold sel
  by_cases hf : f p = true
  ·have := h 0 p rfl hf
   rw [Nat.add_zero] at this
   rw [this]
   cases D' i
   ·exact ih
   ·simp only [cond_true]
    rw [List.filter_cons_of_pos hf, List.filter_cons_of_pos hf, ih]
  ·cases D i <;> cases D' i <;> simp only [cond_true, cond_false] <;> simp [List.filter_cons, hf, ih]
theorem sel_all {α : Type} {D : Nat → Bool} : ∀ {L : List α} {i : Nat}, (∀ k, k < L.length → D (i + k) = true) → sel D i L = L
 | [], _, _ => rfl
 | p :: r, i, h => by
  unfold sel
  have := h 0 (by simp)
  rw [Nat.add_zero] at this
  rw [this, sel_all fun k hk => by
   have := h (k + 1) (by simp; omega)
   rwa [show i + (k + 1) = i + 1 + k by omega] at this]
  rfl
theorem sel_none {α : Type} {D : Nat → Bool} : ∀ {L : List α} {i : Nat}, (∀ k, k < L.length → D (i + k) = false) → sel D i L = []
 | [], _, _ => rfl
 | p :: r, i, h => by
  unfold sel
  have := h 0 (by simp)
  rw [Nat.add_zero] at this
  rw [this, sel_none fun k hk => by
   have := h (k + 1) (by simp; omega)
   rwa [show i + (k + 1) = i + 1 + k by omega] at this]
  rfl
theorem sel_append {α : Type} {D : Nat → Bool} : ∀ {L M : List α} {i : Nat}, sel D i (L ++ M) = sel D i L ++ sel D (i + L.length) M
 | [], M, i => by simp [sel]
 | p :: r, M, i => by
  show (bif D i then p :: sel D (i + 1) (r ++ M) else sel D (i + 1) (r ++ M)) = (bif D i then p :: sel D (i + 1) r else sel D (i + 1) r) ++ sel D (i + (p :: r).length) M
  rw [sel_append (L := r), List.length_cons, show i + 1 + r.length = i + (r.length + 1) by omega]
  cases D i <;> rfl
theorem sel_take {α : Type} (L : List α) (j : Nat) : sel (fun k => decide (k < j)) 0 L = L.take j := by
 rw [← List.take_append_drop j L, sel_append, sel_all, sel_none]
 ·rw [List.append_nil]
  by_cases h : j ≤ L.length
  ·rw [List.take_left']
   rw [List.length_take]; omega
  ·rw [List.drop_of_length_le (by omega), List.append_nil, List.take_take, Nat.min_self]
 ·intro k hk
  rw [List.length_drop] at hk
  rw [List.length_take]
  simp
  omega
 ·intro k hk
  rw [List.length_take] at hk
  simp
  omega
/-- The last of the chosen is number j. -/
theorem sel_last {α : Type} {D : Nat → Bool} {L : List α} {j : Nat} {p : α} (hj : L[j]? = some p) (h1 : D j = true) (h2 : ∀ k, j < k → D k = false) : sel D 0 L = sel D 0 (L.take j) ++ [p] := by
 have hl := (List.getElem?_eq_some_iff.1 hj).1
 have e : L = L.take j ++ (p :: L.drop (j + 1)) := by
  rw [← (List.getElem?_eq_some_iff.1 hj).2, ← List.drop_eq_getElem_cons hl, List.take_append_drop]
 conv => lhs; rw [e]
 rw [sel_append]
 congr 1
 have hlt : 0 + (L.take j).length = j := by rw [List.length_take]; omega
 rw [hlt]
 unfold sel
 rw [h1, sel_none fun k _ => h2 _ (by omega)]
 rfl
theorem get_filter (t : Nat) : ∀ (M : List (Oper × Dl)) (s s' : St), s.get t = s'.get t → (appAll s M).get t = (appAll s' (M.filter fun p => p.1.dst == some t)).get t
 | [], _, _, h => h
 | (o, d) :: M, s, s', h => by
  show (appAll (s.app o.dst d) M).get t = _
  by_cases hd : o.dst = some t
  ·rw [List.filter_cons_of_pos (by simp [hd])]
   exact get_filter t M _ _ (by rw [St.get_app, St.get_app, if_pos hd, if_pos hd])
  ·rw [List.filter_cons_of_neg (by simp [hd])]
   exact get_filter t M _ _ (by rw [St.get_app, if_neg hd, h])
theorem bx_filter (b : Nat) : ∀ (M : List (Oper × Dl)) (s s' : St), lk s.bx b = lk s'.bx b → lk (appAll s M).bx b = lk (appAll s' (M.filter fun p => (lk p.2.bs b).isSome)).bx b
 | [], _, _, h => h
 | (o, d) :: M, s, s', h => by
  show lk (appAll (s.app o.dst d) M).bx b = _
  cases hd : lk d.bs b with
  | some x =>
   rw [List.filter_cons_of_pos (by simp [hd])]
   exact bx_filter b M _ _ (by rw [St.app_bx, St.app_bx, lk_append, lk_append, hd])
  | none =>
   rw [List.filter_cons_of_neg (by simp [hd])]
   exact bx_filter b M _ _ (by rw [St.app_bx, lk_append, hd]; exact h)
theorem rw_filter (b : Nat) : ∀ (M : List (Oper × Dl)) (s s' : St), lk s.rw b = lk s'.rw b → lk (appAll s M).rw b = lk (appAll s' (M.filter fun p => (lk p.2.rs b).isSome)).rw b
 | [], _, _, h => h
 | (o, d) :: M, s, s', h => by
  show lk (appAll (s.app o.dst d) M).rw b = _
  cases hd : lk d.rs b with
  | some x =>
   rw [List.filter_cons_of_pos (by simp [hd])]
   exact rw_filter b M _ _ (by rw [St.app_rw, St.app_rw, lk_append, lk_append, hd])
  | none =>
   rw [List.filter_cons_of_neg (by simp [hd])]
   exact rw_filter b M _ _ (by rw [St.app_rw, lk_append, hd]; exact h)
abbrev stD (s0 : St) (L : List (Oper × Dl)) (D : Nat → Bool) : St := appAll s0 (sel D 0 L)
theorem get_agree {s0 : St} {L : List (Oper × Dl)} {D D' : Nat → Bool} {t : Nat} (h : ∀ k o d, L[k]? = some (o, d) → o.dst = some t → D k = D' k) : (stD s0 L D).get t = (stD s0 L D').get t := by
 unfold stD
 rw [get_filter t _ s0 s0 rfl, get_filter t (sel D' 0 L) s0 s0 rfl, sel_filter]
 intro k p hk hf
 rw [Nat.zero_add]
 exact h k p.1 p.2 hk (by simpa using hf)
theorem bx_agree {s0 : St} {L : List (Oper × Dl)} {D D' : Nat → Bool} {b : Nat} (h : ∀ k o d cs, L[k]? = some (o, d) → lk d.bs b = some cs → D k = D' k) : lk (stD s0 L D).bx b = lk (stD s0 L D').bx b := by
 unfold stD
 rw [bx_filter b _ s0 s0 rfl, bx_filter b (sel D' 0 L) s0 s0 rfl, sel_filter]
 intro k p hk hf
 rw [Nat.zero_add]
 obtain ⟨cs, hcs⟩ := Option.isSome_iff_exists.1 hf
 exact h k p.1 p.2 cs hk hcs
theorem rw_agree {s0 : St} {L : List (Oper × Dl)} {D D' : Nat → Bool} {b : Nat} (h : ∀ k o d cs, L[k]? = some (o, d) → lk d.rs b = some cs → D k = D' k) : lk (stD s0 L D).rw b = lk (stD s0 L D').rw b := by
 unfold stD
 rw [rw_filter b _ s0 s0 rfl, rw_filter b (sel D' 0 L) s0 s0 rfl, sel_filter]
 intro k p hk hf
 rw [Nat.zero_add]
 obtain ⟨cs, hcs⟩ := Option.isSome_iff_exists.1 hf
 exact h k p.1 p.2 cs hk hcs
/-- What comes ahead, as bits. -/
theorem anc_bit {acc : List Nat} {o : Oper} {i : Nat} (h : (anc acc o).testBit i = true) : ∃ e ∈ o.after, Region.binds .any e = true ∧ (e.on = i ∨ (acc.getD e.on 0).testBit i = true) := by
 have key : ∀ (es : List Edge) (s : Nat), (es.foldl (fun s e => bif Region.binds .any e then s ||| 2 ^ e.on ||| acc.getD e.on 0 else s) s).testBit i = true → s.testBit i = true ∨ ∃ e ∈ es, Region.binds .any e = true ∧ (e.on = i ∨ (acc.getD e.on 0).testBit i = true) := by
  intro es
  induction es with
  | nil => intro s h; exact .inl h
  | cons e es ih =>
   intro s h
   rw [List.foldl_cons] at h
   rcases ih _ h with h | ⟨e', h1, h2⟩
   ·cases hb : Region.binds .any e with
    | false => rw [hb] at h; exact .inl h
    | true =>
     rw [hb] at h
     simp only [cond_true, Nat.testBit_or, Bool.or_eq_true, Nat.testBit_two_pow, decide_eq_true_eq] at h
     rcases h with (h | h) | h
     ·exact .inl h
     ·exact .inr ⟨e, List.mem_cons_self, hb, .inl h⟩
     ·exact .inr ⟨e, List.mem_cons_self, hb, .inr h⟩
   ·exact .inr ⟨e', List.mem_cons_of_mem _ h1, h2⟩
 rcases key o.after.toList 0 h with h | ⟨e, h1, h2⟩
 ·simp at h
 ·exact ⟨e, Array.mem_toList_iff.1 h1, h2⟩
/-- A set of operations that holds whatever its members wait for. -/
def Clo (ops : List Oper) (D : Nat → Bool) : Prop := ∀ j o, ops[j]? = some o → D j = true → ∀ e ∈ o.after, Region.binds .any e = true → D e.on = true
theorem befs_clo {ops : List Oper} {D : Nat → Bool} (hc : Clo ops D) : ∀ (r : List Oper) (acc : List Nat), (∀ k, (r[k]? : Option Oper) = ops[acc.length + k]?) → (∀ j i, D j = true → (acc.getD j 0).testBit i = true → D i = true) → ∀ j i, D j = true → ((befs r acc).getD j 0).testBit i = true → D i = true
 | [], acc, _, ha => ha
 | o :: r, acc, hr, ha => by
  refine befs_clo hc r (acc ++ [anc acc o]) (fun k => ?_) (fun j i hj hb => ?_)
  ·have := hr (k + 1)
   rw [List.getElem?_cons_succ] at this
   rw [this, List.length_append]
   congr 1
   simp only [List.length_cons, List.length_nil]
   omega
  ·rw [List.getD_eq_getElem?_getD] at hb
   by_cases hl : j < acc.length
   ·rw [List.getElem?_append_left hl, ← List.getD_eq_getElem?_getD] at hb
    exact ha j i hj hb
   ·rw [List.getElem?_append_right (by omega)] at hb
    by_cases hz : j = acc.length
    ·rw [hz, Nat.sub_self] at hb
     obtain ⟨e, he, h1, h2⟩ := anc_bit (o := o) (acc := acc) (by simpa using hb)
     have ho : ops[j]? = some o := by
      have := hr 0
      rw [Nat.add_zero, ← hz] at this
      exact this.symm
     have hd := hc j o ho hj e he h1
     rcases h2 with h2 | h2
     ·rw [← h2]; exact hd
     ·exact ha e.on i hd h2
    ·rw [List.getElem?_eq_none (by simp only [List.length_cons, List.length_nil]; omega)] at hb
     simp at hb
theorem clo_bit {ops : List Oper} {D : Nat → Bool} (hc : Clo ops D) {j i : Nat} (hj : D j = true) (hb : ((befs ops []).getD j 0).testBit i = true) : D i = true :=
 befs_clo hc ops [] (fun k => by simp) (fun j i _ h => by simp at h) j i hj hb
def addD (D : Nat → Bool) (j : Nat) : Nat → Bool := fun k => D k || Nat.beq k j
/-- Where i and j are ordered, and j may come next: i has come exactly if it stands in front of j. -/
theorem ord_next {ops : List Oper} {D : Nat → Bool} {j i : Nat} (hc : Clo ops D) (hc2 : Clo ops (addD D j)) (hj : D j = false) (hne : i ≠ j) (ho : ordered (befs ops []) i j = true ∨ ordered (befs ops []) j i = true) : D i = decide (i < j) := by
 have ho : (((befs ops []).getD (max i j) 0).testBit (min i j)) = true := by
  rcases ho with h | h
  ·exact h
  ·unfold ordered at h
   rwa [Nat.max_comm, Nat.min_comm] at h
 by_cases hlt : i < j
 ·rw [Nat.max_eq_right (by omega), Nat.min_eq_left (by omega)] at ho
  have h1 := clo_bit hc2 (j := j) (by simp [addD]) ho
  simp only [addD, Bool.or_eq_true] at h1
  rcases h1 with h1 | h1
  ·rw [h1]; simp [hlt]
  ·exact absurd (Nat.eq_of_beq_eq_true h1) hne
 ·rw [Nat.max_eq_left (by omega), Nat.min_eq_right (by omega)] at ho
  cases hq : D i with
  | false => simp [hlt]
  | true =>
   rw [clo_bit hc hq ho] at hj
   cases hj
theorem zip_all {α : Type} {f : α × Nat → Bool} {l : List α} (h : l.zipIdx.all f = true) {j : Nat} {x : α} (hj : l[j]? = some x) : f (x, j) = true := by
 refine List.all_eq_true.1 h (x, j) ?_
 rw [List.mem_zipIdx_iff_getElem?]
 exact hj
theorem dsts_nodup : ∀ {ops : List Oper}, (dsts ops).Nodup → ∀ (i j : Nat) (x y : Oper) t, ops[i]? = some x → ops[j]? = some y → x.dst = some t → y.dst = some t → i = j
 | [], _, i, j, x, y, t, h, _, _, _ => by simp at h
 | o :: r, hn, i, j, x, y, t, hi, hj, hx, hy => by
  have mem : ∀ (k : Nat) (z : Oper), r[k]? = some z → z.dst = some t → t ∈ dsts r := fun k z hk hz => List.mem_filterMap.2 ⟨z, List.mem_of_getElem? hk, hz⟩
  have hn2 : (dsts r).Nodup ∧ (∀ d, o.dst = some d → d ∉ dsts r) := by
   unfold dsts at hn ⊢
   cases hd : o.dst with
   | none =>
    rw [List.filterMap_cons_none hd] at hn
    exact ⟨hn, fun _ h => by cases h⟩
   | some d =>
    rw [List.filterMap_cons_some hd, List.nodup_cons] at hn
    exact ⟨hn.2, fun _ h => by cases h; exact hn.1⟩
  rcases i with _ | i <;> rcases j with _ | j
  ·rfl
  ·cases hi
   exact absurd (mem j y (by simpa using hj) hy) (hn2.2 t hx)
  ·cases hj
   exact absurd (mem i x (by simpa using hi) hx) (hn2.2 t hy)
  ·have := dsts_nodup hn2.1 i j x y t (by simpa using hi) (by simpa using hj) hx hy
   omega
def cnt (D : Nat → Bool) : Nat → Nat
 | 0 => 0
 | n + 1 => cnt D n + (bif D n then 0 else 1)
theorem cnt_add {D : Nat → Bool} {j : Nat} (hj : D j = false) : ∀ n, cnt (addD D j) n + (if j < n then 1 else 0) = cnt D n
 | 0 => by simp [cnt]
 | n + 1 => by
  have ih := cnt_add hj n
  unfold cnt
  by_cases h : j = n
  ·subst h
   have e : addD D j j = true := by simp [addD]
   rw [e, hj]
   simp at ih ⊢
   exact ih
  ·have e : addD D j n = D n := by
    have : Nat.beq n j = false := by
     cases hb : Nat.beq n j
     ·rfl
     ·exact absurd (Nat.eq_of_beq_eq_true hb).symm h
    simp [addD, this]
   rw [e]
   by_cases hl : j < n
   ·rw [if_pos hl] at ih
    rw [if_pos (by omega)]
    omega
   ·rw [if_neg hl] at ih
    rw [if_neg (by omega)]
    omega
theorem cnt_zero {D : Nat → Bool} : ∀ n, cnt D n = 0 → ∀ i, i < n → D i = true
 | 0, _, i, hi => by omega
 | n + 1, h, i, hi => by
  unfold cnt at h
  cases hd : D n with
  | false => rw [hd] at h; simp at h
  | true =>
   rw [hd] at h
   by_cases e : i = n
   ·rw [e]; exact hd
   ·exact cnt_zero n (by simpa using h) i (by omega)
section
variable {ops : Array Oper} {N n0 id m : Nat} {s0 : St} {L : List (Oper × Dl)}
theorem L_op (hL : L.map (·.1) = ops.toList) {j : Nat} {o : Oper} {d : Dl} (h : L[j]? = some (o, d)) : ops.toList[j]? = some o := by
 rw [← hL, List.getElem?_map, h]
 rfl
/-- Where one of two operations writes what the other touches, they are ordered, or they are a store and a load of different boxes. -/
theorem keys_ord (hL : L.map (·.1) = ops.toList) (hmods : modsD s0 (befs ops.toList []) ops.toList = true) {i j : Nat} {oi oj : Oper} {di dj : Dl} (hi : L[i]? = some (oi, di)) (hj : L[j]? = some (oj, dj)) (hij : i ≠ j) (hhi : heapy oi.op = true) (hhj : heapy oj.op = true) (hm : mods oi.op = true ∨ mods oj.op = true) :
  ordered (befs ops.toList []) i j = true ∨ sep1 s0 ops.toList oi.op i oj.op j = true ∨ sep1 s0 ops.toList oj.op j oi.op i = true := by
 have h := zip_all hmods (L_op hL hi)
 simp only [hhi, Bool.not_true, Bool.false_or] at h
 have h2 := zip_all h (L_op hL hj)
 simp only [hhj, Bool.not_true, Bool.false_or, Bool.or_eq_true, Bool.not_eq_true'] at h2
 rcases h2 with ((h2 | h2) | h2) | h2
 ·rcases hm with hm | hm <;> rw [hm] at h2 <;> simp at h2
 ·exact absurd (Nat.eq_of_beq_eq_true h2) hij
 ·exact .inl h2
 ·exact .inr h2
theorem root_ptr (hL : L.map (·.1) = ops.toList) (hp : PathOk P T ops id s0 L) : ∀ (j : Nat), j ≤ L.length → ∀ (t r b o0 : Nat), root (ops.toList.take j).reverse t = some r → s0.get r = .ptr b o0 → ∃ o', (appAll s0 (L.take j)).get t = .ptr b o'
 | 0, _, t, r, b, o0, h, hr => by
  obtain rfl : t = r := by simpa [root] using h
  exact ⟨o0, hr⟩
 | j + 1, hj, t, r, b, o0, h, hr => by
  obtain ⟨o, d, hLj⟩ : ∃ o d, L[j]? = some (o, d) := ⟨(L[j]'(by omega)).1, (L[j]'(by omega)).2, by rw [List.getElem?_eq_getElem]⟩
  have hoj := L_op hL hLj
  rw [List.take_add_one, hoj] at h
  simp only [Option.toList_some, List.reverse_append, List.reverse_cons, List.reverse_nil, List.nil_append, List.cons_append] at h
  rw [List.take_add_one, hLj]
  simp only [Option.toList_some]
  rw [appAll_snoc, St.get_app]
  have step := hp j o d hLj
  unfold root at h
  by_cases hd : o.dst = some t
  ·rw [if_pos hd]
   rw [hd] at h
   simp only [isDst, Nat.beq_refl] at h
   split at h
   ·rename_i ty u f hop hg
    obtain ⟨o', ih⟩ := root_ptr hL hp j (by omega) u r b o0 h hr
    obtain ⟨bb, h1, h2, _⟩ := step
    unfold Wnt at h1
    rw [hg] at h1
    have hs := h2 h1
    rw [hop] at hs
    cases hs with
    | pure hv =>
     unfold pureS at hv
     simp only [ev, ih] at hv
     split at hv
     ·split at hv
      ·split at hv
       ·rename_i y _
        cases hb : Nat.blt 0 y.sz with
        | false => rw [hb] at hv; cases hv
        | true =>
         rw [hb] at hv
         cases hv
         exact ⟨_, rfl⟩
       ·cases hv
      ·cases hv
     ·cases hv
   ·cases h
  ·rw [if_neg hd]
   have hb : isDst t o.dst = false := by
    cases hq : o.dst with
    | none => rfl
    | some t' =>
     cases hb : Nat.beq t' t
     ·exact hb
     ·exact absurd (by rw [hq, Nat.eq_of_beq_eq_true hb]) hd
   rw [hb] at h
   exact root_ptr hL hp j (by omega) t r b o0 h hr
theorem load_none {j : Nat} {s : St} {o : Oper} {d : Dl} {t : Nat} {x : Operand} (h : StepOk P T ops id j s o d) (ho : o.op = .load t x) : d.bs = [] ∧ d.rs = [] := by
 obtain ⟨b, _, h2, h3⟩ := h
 cases b with
 | false => rw [h3 rfl]; exact ⟨rfl, rfl⟩
 | true =>
  have := h2 rfl
  rw [ho] at this
  cases this with
  | pure _ => exact ⟨rfl, rfl⟩
  | loadE => exact ⟨rfl, rfl⟩
theorem store_one {j : Nat} {s : St} {o : Oper} {d : Dl} {t b0 o0 : Nat} {a x : Operand} (h : StepOk P T ops id j s o d) (ho : o.op = .store t a x) (ha : ev s a = .ptr b0 o0) : (∀ b cs, lk d.bs b = some cs → b = b0) ∧ d.rs = [] := by
 obtain ⟨b, _, h2, h3⟩ := h
 cases b with
 | false => rw [h3 rfl]; exact ⟨fun _ _ h => (by cases h), rfl⟩
 | true =>
  have := h2 rfl
  rw [ho] at this
  cases this with
  | pure hv => cases hv
  | storeB _ _ _ h4 _ _ =>
   rw [ha] at h4
   cases h4
   refine ⟨fun b cs hb => ?_, rfl⟩
   by_cases e : b0 = b
   ·exact e.symm
   ·rw [lk_cons, if_neg e] at hb
    cases hb
  | storeE _ _ _ h4 => rw [ha] at h4; cases h4
/-- A store and a load of different boxes: what the one writes the other does not touch. -/
theorem sep_keys (hL : L.map (·.1) = ops.toList) (hp : PathOk P T ops id s0 L) {i j : Nat} {oi oj : Oper} {di dj : Dl} (hi : L[i]? = some (oi, di)) (hj : L[j]? = some (oj, dj)) (h : sep1 s0 ops.toList oi.op i oj.op j = true) :
  di.rs = [] ∧ dj.bs = [] ∧ dj.rs = [] ∧ ∀ b cs, lk di.bs b = some cs → ∀ x ∈ oj.op.operands, b ∉ (ev (appAll s0 (L.take j)) x).bids := by
 unfold sep1 at h
 split at h
 ·rename_i t a x t' c e1 e2
  split at h
  ·rename_i r r' hr hr'
   split at h
   ·rename_i b1 p1 b2 p2 g1 g2
    have hil := (List.getElem?_eq_some_iff.1 hi).1
    have hjl := (List.getElem?_eq_some_iff.1 hj).1
    obtain ⟨q1, k1⟩ := root_ptr hL hp i (by omega) a r b1 p1 hr g1
    obtain ⟨q2, k2⟩ := root_ptr hL hp j (by omega) c r' b2 p2 hr' g2
    obtain ⟨s1, s2⟩ := store_one (hp i oi di hi) e1 (show ev _ (.tmp a) = _ from k1)
    obtain ⟨l1, l2⟩ := load_none (hp j oj dj hj) e2
    refine ⟨s2, l1, l2, fun b cs hb x hx hm => ?_⟩
    rw [e2] at hx
    have hx2 : x = .tmp c := by simpa [Op.operands] using hx
    subst hx2
    rw [show ev (appAll s0 (L.take j)) (.tmp c) = .ptr b2 q2 from k2] at hm
    have : b = b2 := by simpa [AV.bids, AV.bid1] using hm
    have h3 := s1 b cs hb
    rw [show b1 = b2 by omega] at h
    simp at h
   ·cases h
  ·cases h
 ·cases h
structure DInv (P : Program) (T : Nat → Option Ty) (O : Nat → Prop) (ops : Array Oper) (N n0 id m : Nat) (s0 : St) (L : List (Oper × Dl)) (D : Nat → Bool) (E : Env) (w : World) (a : Act) : Prop where
 rep : RepM O E w n0 N m (stD s0 L D) a
 clo : Clo ops.toList D
 bx : ∀ b cs, lk (stD s0 L D).bx b = some cs → b < id ∨ ∃ i, D i = true ∧ id + 128 * i ≤ b ∧ b < id + 128 * i + 128
 rw : ∀ b cs, lk (stD s0 L D).rw b = some cs → b < id ∨ ∃ i, D i = true ∧ id + 128 * i ≤ b ∧ b < id + 128 * i + 128
theorem d_step (hT : TabOk P T) (hreg : regOk N ops true = true) (hmods : modsD s0 (befs ops.toList []) ops.toList = true) (hL : L.map (·.1) = ops.toList) (hp : PathOk P T ops id s0 L) (k0 : Kb s0 id) (hm : id + 128 * ops.size ≤ m) {Q : Exit → Act → World → Prop} {D : Nat → Bool} {E : Env} {w : World} {a : Act} (inv : DInv P T O ops N n0 id m s0 L D E w a) {j : Nat} {o : Oper} (hoj : ops[j]? = some o) (hDj : D j = false) (hready : ∀ e ∈ o.after, Region.binds .any e = true → D e.on = true) {K : Act → World → Prop}
  (hK : ∀ E' w' a', DInv P T O ops N n0 id m s0 L (addD D j) E' w' a' → Below n0 w w' → K a' w') : wpOp P ops Q j K a w := by
 have hlen : L.length = ops.size := by rw [← List.length_map (f := (·.1)), hL, Array.length_toList]
 have hjl : j < ops.size := (Array.getElem?_eq_some_iff.1 hoj).1
 unfold regOk at hreg
 simp only [Bool.not_true, Bool.false_or, Bool.and_eq_true, decide_eq_true_eq] at hreg
 obtain ⟨hN, ⟨⟨htmp, hedge⟩, hgrd⟩, hnd⟩ := hreg
 obtain ⟨o', d, hLj⟩ : ∃ o d, L[j]? = some (o, d) := ⟨(L[j]'(by omega)).1, (L[j]'(by omega)).2, by rw [List.getElem?_eq_getElem]⟩
 have hoj' : ops.toList[j]? = some o := by rw [Array.getElem?_toList]; exact hoj
 obtain rfl : o' = o := by
  have := L_op hL hLj
  rw [hoj'] at this
  exact (Option.some.inj this).symm
 have hstep := hp j o' d hLj
 have hclo2 : Clo ops.toList (addD D j) := fun i x hx hDi e he hb => by
  simp only [addD, Bool.or_eq_true] at hDi ⊢
  rcases hDi with hDi | hDi
  ·exact .inl (inv.clo i x hx hDi e he hb)
  ·obtain rfl := Nat.eq_of_beq_eq_true hDi
   rw [hoj'] at hx
   cases hx
   exact .inl (hready e he hb)
 have sj : appAll s0 (L.take j) = stD s0 L (fun k => decide (k < j)) := by unfold stD; rw [sel_take]
 -- slots that are used
 have hget : ∀ t, (∀ i oi di, L[i]? = some (oi, di) → oi.dst = some t → D i = decide (i < j)) → (stD s0 L D).get t = (appAll s0 (L.take j)).get t := fun t h => by
  rw [sj]
  exact get_agree h
 have hev : ∀ x ∈ o'.op.operands, ev (stD s0 L D) x = ev (appAll s0 (L.take j)) x := fun x hx => by
  cases x with
  | tmp t =>
   refine hget t fun i oi di hi hd => ?_
   by_cases hij : i = j
   ·subst hij
    rw [hDj]; simp
   ·have h := zip_all htmp (L_op hL hi)
    simp only [hd] at h
    have h2 := zip_all h hoj'
    have hany : o'.op.operands.toList.any (isTmp t) = true := List.any_eq_true.2 ⟨.tmp t, Array.mem_toList_iff.2 hx, by simp [isTmp]⟩
    simp only [hany, Bool.not_true, Bool.false_or, Bool.or_eq_true] at h2
    rcases h2 with h2 | h2
    ·exact absurd (Nat.eq_of_beq_eq_true h2) hij
    ·exact ord_next inv.clo hclo2 hDj hij (.inl h2)
  | _ => rfl
 have hwnt : ∀ b, Wnt ops (appAll s0 (L.take j)) o' b → Wnt ops (stD s0 L D) o' b := fun b h => by
  unfold Wnt at h ⊢
  split
  ·rename_i hg
   rw [hg] at h
   exact h
  ·rename_i g want hg
   rw [hg] at h
   obtain ⟨t, ht, h⟩ := h
   refine ⟨t, ht, ?_⟩
   rw [hget t fun i oi di hi hd => ?_]
   ·exact h
   ·have h1 := List.all_eq_true.1 hgrd o' (List.mem_of_getElem? hoj')
    rw [hg] at h1
    obtain ⟨e, he, hb⟩ := List.any_eq_true.1 h1
    simp only [Bool.and_eq_true] at hb
    have heg := Nat.eq_of_beq_eq_true hb.1
    have hDg := hready e (Array.mem_toList_iff.1 he) hb.2
    have hlt := List.all_eq_true.1 (zip_all hedge hoj') e he
    rw [hb.2, Bool.not_true, Bool.false_or] at hlt
    have hlt : e.on < j := Nat.le_of_ble_eq_true hlt
    cases hog : ops[g]? with
    | none => rw [hog] at ht; cases ht
    | some og =>
     rw [hog] at ht
     have hog' : ops.toList[g]? = some og := by rw [Array.getElem?_toList]; exact hog
     have : i = g := dsts_nodup hnd i g oi og t (L_op hL hi) hog' hd ht
     rw [this, ← heg, hDg]
     simp [hlt]
 -- what the operation touches in memory
 have hkeys := fun i oi di hi => stepOk_keys (hp i oi di hi)
 have hheap : ∀ (i : Nat) (oi : Oper) (di : Dl), L[i]? = some (oi, di) → ((∃ b cs, lk di.bs b = some cs) ∨ (∃ b R, lk di.rs b = some R)) → heapy oi.op = true := fun i oi di hi h => by
  cases hh : heapy oi.op with
  | true => rfl
  | false =>
   obtain ⟨h1, h2⟩ := (hkeys i oi di hi).2.2 hh
   rcases h with ⟨b, cs, h⟩ | ⟨b, cs, h⟩
   ·rw [h1] at h; cases h
   ·rw [h2] at h; cases h
 have kbj := path_kb hp k0 j (by omega)
 have agB : heapy o'.op = true → ∀ x ∈ o'.op.operands, ∀ b ∈ (ev (appAll s0 (L.take j)) x).bids, (stD s0 L D).hasB b → ∀ cs, lk (appAll s0 (L.take j)).bx b = some cs → lk (stD s0 L D).bx b = some cs := fun hh x hx b hbx hb cs hcs => by
  rw [← hcs, sj]
  refine bx_agree fun i oi di cs' hi hc => ?_
  by_cases hij : i = j
  ·subst hij
   rw [hDj]; simp
  ·rcases (hkeys i oi di hi).1 b cs' hc with ⟨hmd, _⟩ | hfr
   ·rcases keys_ord hL hmods hi hLj hij (hheap i oi di hi (.inl ⟨b, cs', hc⟩)) hh (.inl hmd) with ho | ho | ho
    ·exact ord_next inv.clo hclo2 hDj hij (.inl ho)
    ·exact absurd hbx ((sep_keys hL hp hi hLj ho).2.2.2 b cs' hc x hx)
    ·rw [(sep_keys hL hp hLj hi ho).2.1] at hc
     cases hc
   ·have h1 := kbj.1 b cs hcs
    obtain ⟨c2, hc2⟩ := hb
    rcases inv.bx b c2 hc2 with h2 | ⟨i2, h2, h3, h4⟩
    ·omega
    ·obtain rfl : i2 = i := by omega
     rw [h2]
     simp
     omega
 have agR : heapy o'.op = true → ∀ b, (∃ R0, lk (stD s0 L D).rw b = some R0) → ∀ cs, lk (appAll s0 (L.take j)).rw b = some cs → lk (stD s0 L D).rw b = some cs := fun hh b hb cs hcs => by
  rw [← hcs, sj]
  refine rw_agree fun i oi di cs' hi hc => ?_
  by_cases hij : i = j
  ·subst hij
   rw [hDj]; simp
  ·rcases (hkeys i oi di hi).2.1 b cs' hc with ⟨hmd, _⟩ | hfr
   ·rcases keys_ord hL hmods hi hLj hij (hheap i oi di hi (.inr ⟨b, cs', hc⟩)) hh (.inl hmd) with ho | ho | ho
    ·exact ord_next inv.clo hclo2 hDj hij (.inl ho)
    ·rw [(sep_keys hL hp hi hLj ho).1] at hc
     cases hc
    ·rw [(sep_keys hL hp hLj hi ho).2.2.1] at hc
     cases hc
   ·have h1 := kbj.2 b cs hcs
    obtain ⟨c2, hc2⟩ := hb
    rcases inv.rw b c2 hc2 with h2 | ⟨i2, h2, h3, h4⟩
    ·omega
    ·obtain rfl : i2 = i := by omega
     rw [h2]
     simp
     omega
 have hstepD : StepOk P T ops id j (stD s0 L D) o' d := by
  obtain ⟨b, h1, h2, h3⟩ := hstep
  refine ⟨b, hwnt b h1, fun hb => stp_ag (h2 hb) hev (fun hh x hx => ?_), h3⟩
  have hn := ev_nm inv.rep.sc x
  rw [hev x hx] at hn
  exact ⟨fun b hb cs hcs => agB hh x hx b hb (hn.1 b hb) cs hcs, fun p hp R hR => agR hh p.1 (by
   obtain ⟨R0, h, _⟩ := hn.2 p hp
   exact ⟨R0, h⟩) R hR⟩
 have hfresh : Fresh (stD s0 L D) (id + 128 * j) := fun i h1 h2 => by
  refine ⟨?_, ?_⟩
  ·cases hq : lk (stD s0 L D).bx i with
   | none => rfl
   | some cs =>
    rcases inv.bx i cs hq with h | ⟨i2, h3, h4, h5⟩
    ·omega
    ·obtain rfl : i2 = j := by omega
     rw [hDj] at h3; cases h3
  ·cases hq : lk (stD s0 L D).rw i with
   | none => rfl
   | some cs =>
    rcases inv.rw i cs hq with h | ⟨i2, h3, h4, h5⟩
    ·omega
    ·obtain rfl : i2 = j := by omega
     rw [hDj] at h3; cases h3
 have hd : ∀ x, o'.dst = some x → x < N := fun x hx => by
  have h1 := List.all_eq_true.1 hN o' (List.mem_of_getElem? hoj')
  rw [hx] at h1
  exact Nat.le_of_ble_eq_true h1
 -- the state behind the operation
 have addj : addD D j j = true := by simp [addD]
 have addo : ∀ k, k ≠ j → addD D j k = D k := fun k hk => by
  have : Nat.beq k j = false := by
   cases hb : Nat.beq k j
   ·rfl
   ·exact absurd (Nat.eq_of_beq_eq_true hb) hk
  simp [addD, this]
 -- who writes the same key comes in front
 have before : ∀ (b : Nat), (∃ x, lk d.bs b = some x) ∨ (∃ x, lk d.rs b = some x) → ∀ (i : Nat) (oi : Oper) (di : Dl), L[i]? = some (oi, di) → ((∃ x, lk d.bs b = some x) ∧ (∃ x, lk di.bs b = some x)) ∨ ((∃ x, lk d.rs b = some x) ∧ (∃ x, lk di.rs b = some x)) → addD D j i = true → i ≤ j := fun b hb i oi di hi hkey hDi => by
  by_cases hij : i = j
  ·omega
  ·rw [addo i hij] at hDi
   have hhj : heapy o'.op = true := hheap j o' d hLj (by
    rcases hb with ⟨x, hx⟩ | ⟨x, hx⟩
    ·exact .inl ⟨b, x, hx⟩
    ·exact .inr ⟨b, x, hx⟩)
   have hhi : heapy oi.op = true := hheap i oi di hi (by
    rcases hkey with ⟨_, x, hx⟩ | ⟨_, x, hx⟩
    ·exact .inl ⟨b, x, hx⟩
    ·exact .inr ⟨b, x, hx⟩)
   have go : mods oi.op = true ∨ mods o'.op = true → i ≤ j := fun hmd => by
    rcases keys_ord hL hmods hi hLj hij hhi hhj hmd with ho | ho | ho
    ·have := ord_next inv.clo hclo2 hDj hij (.inl ho)
     rw [hDi] at this
     have := of_decide_eq_true this.symm
     omega
    ·have s := sep_keys hL hp hi hLj ho
     rcases hb with ⟨x, hx⟩ | ⟨x, hx⟩
     ·rw [s.2.1] at hx; cases hx
     ·rw [s.2.2.1] at hx; cases hx
    ·have s := sep_keys hL hp hLj hi ho
     rcases hkey with ⟨_, x, hx⟩ | ⟨_, x, hx⟩
     ·rw [s.2.1] at hx; cases hx
     ·rw [s.2.2.1] at hx; cases hx
   rcases hkey with ⟨⟨x, hx⟩, y, hy⟩ | ⟨⟨x, hx⟩, y, hy⟩
   ·rcases (hkeys i oi di hi).1 b y hy with ⟨h, _⟩ | h1
    ·exact go (.inl h)
    ·rcases (hkeys j o' d hLj).1 b x hx with ⟨h, _⟩ | h2
     ·exact go (.inr h)
     ·exact absurd (by omega : i = j) hij
   ·rcases (hkeys i oi di hi).2.1 b y hy with ⟨h, _⟩ | h1
    ·exact go (.inl h)
    ·rcases (hkeys j o' d hLj).2.1 b x hx with ⟨h, _⟩ | h2
     ·exact go (.inr h)
     ·exact absurd (by omega : i = j) hij
 have last : ∀ (D2 : Nat → Bool), D2 j = true → (∀ k, j < k → D2 k = false) → stD s0 L D2 = (appAll s0 (sel D2 0 (L.take j))).app o'.dst d := fun D2 h1 h2 => by
  unfold stD
  rw [sel_last hLj h1 h2, appAll_snoc]
 have heqv : Eqv ((stD s0 L D).app o'.dst d) (stD s0 L (addD D j)) := by
  refine ⟨fun t => ?_, fun b => ?_, fun τ => ?_⟩
  ·rw [St.get_app]
   by_cases ht : o'.dst = some t
   ·rw [if_pos ht]
    have : (stD s0 L (addD D j)).get t = (stD s0 L (fun k => Nat.beq k j)).get t := get_agree fun k ok dk hk hdk => by
     have : k = j := dsts_nodup hnd k j ok o' t (L_op hL hk) hoj' hdk ht
     rw [this, addj]; simp
    rw [this, last _ (by simp) (fun k hk => by
     cases hb : Nat.beq k j
     ·rfl
     ·have := Nat.eq_of_beq_eq_true hb; omega), St.get_app, if_pos ht]
   ·rw [if_neg ht]
    exact get_agree fun k ok dk hk hdk => by
     by_cases hkj : k = j
     ·subst hkj
      rw [hLj] at hk
      cases hk
      exact absurd hdk ht
     ·rw [addo k hkj]
  ·rw [St.app_bx, lk_append]
   cases hq : lk d.bs b with
   | some x =>
    have : lk (stD s0 L (addD D j)).bx b = lk (stD s0 L (fun k => addD D j k && decide (k ≤ j))).bx b := bx_agree fun k ok dk cs hk hc => by
     cases hDk : addD D j k with
     | false => rfl
     | true =>
      have := before b (.inl ⟨x, hq⟩) k ok dk hk (.inl ⟨⟨x, hq⟩, cs, hc⟩) hDk
      simp [this]
    rw [this, last _ (by simp [addj]) (fun k hk => by simp; intro; omega), St.app_bx, lk_append, hq]
   | none =>
    exact bx_agree fun k ok dk cs hk hc => by
     by_cases hkj : k = j
     ·subst hkj
      rw [hLj] at hk
      cases hk
      rw [hq] at hc
      cases hc
     ·rw [addo k hkj]
  ·rw [St.app_rw, lk_append]
   cases hq : lk d.rs τ with
   | some x =>
    have : lk (stD s0 L (addD D j)).rw τ = lk (stD s0 L (fun k => addD D j k && decide (k ≤ j))).rw τ := rw_agree fun k ok dk cs hk hc => by
     cases hDk : addD D j k with
     | false => rfl
     | true =>
      have := before τ (.inr ⟨x, hq⟩) k ok dk hk (.inr ⟨⟨x, hq⟩, cs, hc⟩) hDk
      simp [this]
    rw [this, last _ (by simp [addj]) (fun k hk => by simp; intro; omega), St.app_rw, lk_append, hq]
   | none =>
    exact rw_agree fun k ok dk cs hk hc => by
     by_cases hkj : k = j
     ·subst hkj
      rw [hLj] at hk
      cases hk
      rw [hq] at hc
      cases hc
     ·rw [addo k hkj]
 obtain ⟨ky1, ky2, _⟩ := stepOk_keys hstepD
 refine run_step hT inv.rep hoj hd hfresh (by omega) hstepD fun E' v w' r' hb => hK E' w' _ ⟨heqv.rep r', hclo2, fun b cs hcs => ?_, fun b cs hcs => ?_⟩ hb
 ·rw [heqv.bx, St.app_bx, lk_append] at hcs
  cases hq : lk d.bs b with
  | some x =>
   rcases ky1 b x hq with ⟨_, c0, hc0⟩ | h
   ·rcases inv.bx b c0 hc0 with h | ⟨i, h1, h2⟩
    ·exact .inl h
    ·exact .inr ⟨i, by simp [addD, h1], h2⟩
   ·exact .inr ⟨j, addj, h⟩
  | none =>
   rw [hq] at hcs
   rcases inv.bx b cs hcs with h | ⟨i, h1, h2⟩
   ·exact .inl h
   ·exact .inr ⟨i, by simp [addD, h1], h2⟩
 ·rw [heqv.rw, St.app_rw, lk_append] at hcs
  cases hq : lk d.rs b with
  | some x =>
   rcases ky2 b x hq with ⟨_, c0, hc0⟩ | h
   ·rcases inv.rw b c0 hc0 with h | ⟨i, h1, h2⟩
    ·exact .inl h
    ·exact .inr ⟨i, by simp [addD, h1], h2⟩
   ·exact .inr ⟨j, addj, h⟩
  | none =>
   rw [hq] at hcs
   rcases inv.rw b cs hcs with h | ⟨i, h1, h2⟩
   ·exact .inl h
   ·exact .inr ⟨i, by simp [addD, h1], h2⟩
theorem drawn_sound (hT : TabOk P T) (hreg : regOk N ops true = true) (hmods : modsD s0 (befs ops.toList []) ops.toList = true) (hL : L.map (·.1) = ops.toList) (hp : PathOk P T ops id s0 L) (k0 : Kb s0 id) (hm : id + 128 * ops.size ≤ m) {Q : Exit → Act → World → Prop} :
  ∀ (fuel : Nat) (listed : Array Bool) (E : Env) (w : World) (a : Act), listed.size = ops.size → cnt (fun i => listed.getD i false) ops.size ≤ fuel → DInv P T O ops N n0 id m s0 L (fun i => listed.getD i false) E w a → (∀ E' w' a', RepM O E' w' n0 N m (appAll s0 L) a' → Below n0 w w' → Q .normal a' w') → wpAny P .any ops Q fuel listed a w := by
 have hlen : L.length = ops.size := by rw [← List.length_map (f := (·.1)), hL, Array.length_toList]
 have hedge : edgesOk ops.toList = true := by
  unfold regOk at hreg
  simp only [Bool.not_true, Bool.false_or, Bool.and_eq_true, decide_eq_true_eq] at hreg
  exact hreg.2.1.1.2
 have fin : ∀ (listed : Array Bool) (E : Env) (w : World) (a : Act), (∀ i, i < ops.size → listed.getD i false = true) → DInv P T O ops N n0 id m s0 L (fun i => listed.getD i false) E w a → RepM O E w n0 N m (appAll s0 L) a := fun listed E w a h inv => by
  have := inv.rep
  unfold stD at this
  rwa [sel_all fun k hk => by rw [Nat.zero_add]; exact h k (by omega)] at this
 intro fuel
 induction fuel with
 | zero =>
  intro listed E w a hs hc inv hQ
  have hall := cnt_zero ops.size (Nat.le_zero.1 hc)
  refine ⟨?_, hQ E w a (fin listed E w a hall inv) (Below.refl _ _)⟩
  cases hr : Region.ready .any ops listed with
  | nil => rfl
  | cons j r =>
   have hj : j ∈ Region.ready .any ops listed := by rw [hr]; exact List.mem_cons_self
   obtain ⟨h1, o, ho, _⟩ := mem_ready.1 hj
   have hjl := (Array.getElem?_eq_some_iff.1 ho).1
   have := hall j hjl
   rw [Array.getD_eq_getD_getElem?, Array.getElem?_eq_getElem (by omega)] at h1 this
   simp at h1 this
   rw [h1] at this
   cases this
 | succ fuel ih =>
  intro listed E w a hs hc inv hQ
  refine ⟨fun hr => ?_, fun j hj => ?_⟩
  ·-- nothing may come: all have come
   have hall : ∀ n, n ≤ ops.size → ∀ i, i < n → listed.getD i false = true := by
    intro n
    induction n with
    | zero => intro _ i hi; omega
    | succ n ihn =>
     intro hn i hi
     by_cases h : i = n
     ·subst h
      cases hd : listed.getD i false with
      | true => rfl
      | false =>
       exfalso
       obtain ⟨o, ho⟩ : ∃ o, ops[i]? = some o := ⟨_, Array.getElem?_eq_getElem (by omega)⟩
       have : i ∈ Region.ready .any ops listed := by
        refine mem_ready.2 ⟨?_, o, ho, fun e he hb => ?_⟩
        ·rw [Array.getD_eq_getD_getElem?, Array.getElem?_eq_getElem (by omega)] at hd ⊢
         exact hd
        ·have hlt := List.all_eq_true.1 (zip_all hedge (show ops.toList[i]? = some o by rw [Array.getElem?_toList]; exact ho)) e (Array.mem_toList_iff.2 he)
         rw [hb, Bool.not_true, Bool.false_or] at hlt
         exact ihn (by omega) e.on (Nat.le_of_ble_eq_true hlt)
       rw [hr] at this
       cases this
     ·exact ihn (by omega) i (by omega)
   exact hQ E w a (fin listed E w a (hall ops.size (Nat.le_refl _)) inv) (Below.refl _ _)
  ·obtain ⟨h1, o, ho, hready⟩ := mem_ready.1 hj
   have hjl := (Array.getElem?_eq_some_iff.1 ho).1
   have hDj : (fun i => listed.getD i false) j = false := by
    show listed.getD j false = false
    rw [Array.getD_eq_getD_getElem?, Array.getElem?_eq_getElem (by omega)] at h1 ⊢
    exact h1
   have hfun : (fun i => (listed.setIfInBounds j true).getD i false) = addD (fun i => listed.getD i false) j := by
    funext i
    by_cases hi : i = j
    ·subst hi
     simp [addD, Array.getElem?_setIfInBounds, hs, hjl]
    ·have : Nat.beq i j = false := by
      cases hb : Nat.beq i j
      ·rfl
      ·exact absurd (Nat.eq_of_beq_eq_true hb) hi
     rw [getD_set_ne false (fun e => hi e.symm)]
     simp [addD, this]
   refine d_step hT hreg hmods hL hp k0 hm inv ho hDj hready fun E' w' a' inv' hb => ?_
   refine ih _ E' w' a' (by simp [hs]) ?_ (by rw [hfun]; exact inv') fun E2 w2 a2 r2 hb2 => hQ E2 w2 a2 r2 (hb.trans hb2)
   rw [hfun]
   have := cnt_add (D := fun i => listed.getD i false) hDj ops.size
   rw [if_pos hjl] at this
   omega
end
end Cg
end
section
namespace Cg
open Go Go.RowKit Go.Sort Go.Lib
variable {P : Program} {T : Nat → Option Ty} {O : Nat → Prop}
theorem RepM.mv {E E' : Env} {w w' : World} {n0 N m : Nat} {st : St} {a : Act} (h : RepM O E w n0 N m st a) (mv : Mv st E w E' w' (fun _ => False) (fun _ => False)) : RepM O E' w' n0 N m st a :=
  ⟨h.dfr, h.sz, fun t => mv.slt h.sc t (h.slt t), fun i cs hi => mv.box h.sc hi (fun h => h) (h.box i cs hi), fun τ R hR => mv.row hR (fun h => h) (h.row τ R hR), h.sc, Nat.le_trans h.hi mv.size, fun b hb => by rw [mv.lo b (Nat.lt_of_lt_of_le hb h.hi)]; exact h.old b hb⟩
theorem RepM.heap {E : Env} {w w' : World} {n0 N m : Nat} {st : St} {a : Act} (h : RepM O E w n0 N m st a) (hw : w'.heap = w.heap) : RepM O E w' n0 N m st a :=
  h.mv ⟨by rw [hw]; exact Nat.le_refl _, fun _ _ => rfl, fun _ hb _ => ⟨by rw [hw], hb⟩, fun _ _ _ => rfl, fun _ _ _ _ _ hr => ⟨by rw [hw], hr⟩, fun _ _ _ _ _ => rfl, fun _ _ _ _ _ _ _ hr => ⟨by rw [hw], hr⟩⟩
section
variable {N : Nat} {w0 : World}
theorem cpost_nrm {Q : Ex → St → Prop} {st : St} {E : Env} {a : Act} {w : World} (hq : Q .nrm st) (r : RepS O E w w0.heap.size N st a) (hb : Below w0.heap.size w0 w) : cpost w0 N O Q .normal a w := ⟨st, E, hq, r, hb⟩
theorem Tp.region (id : Nat) (ops : Array Oper) (d : Bool) (st : St) (Q : Ex → St → Prop) (hmods : (!d || modsD st (befs ops.toList []) ops.toList) = true) (h : WPops P T ops st.nx 0 ops.toList st fun st' => match st' with
    | ⟨sl, bx, rw, _⟩ => forceN (st.nx + 128 * ops.size) fun nx => Q .nrm ⟨sl, bx, rw, nx⟩) : Tp P T N w0 O (.region id ops d) st Q := by
  intro hT hc E a w r hb
  obtain ⟨L, hL, hp, st', hK, he⟩ := ops_path ops.toList [] st _ (Eqv.refl _) (fun j o d hj => by simp at hj) h
  rw [List.nil_append] at hp he
  have hreg : regOk N ops d = true := hc
  have k0 := r.kb
  have r0 : RepM O E w w0.heap.size N (st.nx + 128 * ops.size) st a := r.mono (by omega)
  have fin : ∀ E' w' a', RepM O E' w' w0.heap.size N (st.nx + 128 * ops.size) (appAll st L) a' → Below w0.heap.size w0 w' → cpost w0 N O Q .normal a' w' := fun E' w' a' r' hb' => by
    obtain ⟨sl, bx, rw', nx⟩ := st'
    simp only [forceN_eq] at hK
    refine ⟨_, E', hK, ?_, hb'⟩
    have he' : Eqv (appAll st L) ⟨sl, bx, rw', st.nx + 128 * ops.size⟩ := ⟨he.sl, he.bx, he.rw⟩
    exact he'.rep r'
  cases d with
  | false =>
    refine wp_region ?_
    rw [List.range_eq_range']
    exact listed_sound hT hreg hL hp k0 (Nat.le_refl _) ops.size 0 E w a (by omega) (by simpa [appAll] using r0) fun E' w' a' r' hb' => fin E' w' a' r' (hb.trans hb')
  | true =>
    refine wp_region_any hT.mixed ?_
    have hrep : ∀ i, (Array.replicate ops.size false).getD i false = false := fun i => by
      rw [Array.getD_eq_getD_getElem?]
      cases hq : (Array.replicate ops.size false)[i]? with
      | none => rfl
      | some x =>
        rw [Array.getElem?_replicate] at hq
        split at hq
        · cases hq; rfl
        · cases hq
    have hsel : stD st L (fun i => (Array.replicate ops.size false).getD i false) = st := by
      unfold stD
      rw [sel_none fun k _ => hrep _]
      rfl
    have hw : ({ w with drawn := w.drawn + 1 } : World).heap = w.heap := rfl
    refine drawn_sound hT hreg (by simpa using hmods) hL hp k0 (Nat.le_refl _) ops.size _ E _ a (by simp) ?_ ⟨?_, ?_, ?_, ?_⟩ fun E' w' a' r' hb' => fin E' w' a' r' (hb.trans ⟨hb'.os, hb'.tape, hb'.output, hb'.size, hb'.block⟩)
    · have : ∀ n, cnt (fun i => (Array.replicate ops.size false).getD i false) n ≤ n := fun n => by
        induction n with
        | zero => exact Nat.le_refl _
        | succ n ih =>
          unfold cnt
          rw [hrep n]
          simp only [cond_false]
          omega
      exact this _
    · rw [hsel]
      exact r0.heap hw
    · intro j o hj hD
      have hD : (Array.replicate ops.size false).getD j false = true := hD
      rw [hrep] at hD
      cases hD
    · intro b cs hcs
      rw [hsel] at hcs
      exact .inl (k0.1 b cs hcs)
    · intro b cs hcs
      rw [hsel] at hcs
      exact .inl (k0.2 b cs hcs)
theorem cpost_map {Q Q' : Ex → St → Prop} {e : Exit} {a : Act} {w : World} (h : cpost w0 N O Q e a w) (hq : ∀ e st, Q e st → Q' e st) : cpost w0 N O Q' e a w := by
  cases e <;> first
    | exact h.elim
    | (obtain ⟨st, E, h1, h2⟩ := h; exact ⟨st, E, hq _ _ h1, h2⟩)
theorem Tp.mono {c : Code} {st : St} {Q Q' : Ex → St → Prop} (h : Tp P T N w0 O c st Q) (hq : ∀ e st, Q e st → Q' e st) : Tp P T N w0 O c st Q' := fun hT hc E a w r hb => wp_mono (h hT hc E a w r hb) fun e a w hp => cpost_map hp hq
theorem Tp.run (cs : List Nat) : ∀ {c : Code} {st : St} {Q : Ex → St → Prop}, WP P T N w0 O cs c st Q → Tp P T N w0 O c st Q
  | .skip, st, Q, h => fun _ _ E a w r hb => wp_skip ⟨st, E, h, r, hb⟩
  | .region id ops d, ⟨sl0, bx0, rw0, nx0⟩, Q, h => by
    have h : WPr P T N w0 O cs id ops d ⟨sl0, bx0, rw0, nx0⟩ Q := h
    unfold WPr at h
    simp only at h
    cases hc : cs.contains id with
    | true => rw [hc] at h; exact h
    | false =>
      rw [hc] at h
      simp only at h
      split at h
      · rename_i hm
        exact Tp.region id ops d ⟨sl0, bx0, rw0, nx0⟩ Q hm h
      · exact h.elim
  | .seq x y, st, Q, h => fun hT hc E a w r hb => by
    unfold codeOk at hc
    rw [Bool.and_eq_true] at hc
    have h : WP P T N w0 O cs x st (nextQ (fun st' => WP P T N w0 O cs y st' Q) Q) := h
    refine wp_seq (wp_mono (Tp.run cs h hT hc.1 E a w r hb) fun e a' w' hp => ?_)
    cases e with
    | normal =>
      obtain ⟨st', E', hq, r', hb'⟩ := hp
      exact Tp.run cs hq hT hc.2 E' a' w' r' hb'
    | exit id =>
      obtain ⟨st', E', hq, r', hb'⟩ := hp
      exact ⟨st', E', hq, r', hb'⟩
    | ret =>
      obtain ⟨st', E', hq, r', hb'⟩ := hp
      exact ⟨st', E', hq, r', hb'⟩
    | goto l => exact hp.elim
    | panic ch => exact hp.elim
    | outgrown => exact hp.elim
  | .cond c x y, st, Q, h => fun hT hc E a w r hb => by
    unfold codeOk at hc
    rw [Bool.and_eq_true] at hc
    have h : WPc c st (WP P T N w0 O cs x st Q) (WP P T N w0 O cs y st Q) := h
    unfold WPc at h
    have hv := ev_rv r c
    split at h
    · rename_i t ht
      rw [ht] at hv
      refine wp_cond_split (rv_lit hv) (fun e => ?_) (fun e => ?_)
      · subst e
        exact Tp.run cs h hT hc.1 E a w r hb
      · subst e
        exact Tp.run cs h hT hc.2 E a w r hb
    · exact h.elim
  | .block id c, st, Q, h => fun hT hc E a w r hb => by
    unfold codeOk at hc
    have h : WP P T N w0 O cs c st (blkQ id Q) := h
    refine wp_block (wp_mono (Tp.run cs h hT hc E a w r hb) fun e a' w' hp => ?_)
    cases e with
    | normal =>
      obtain ⟨st', E', hq, r', hb'⟩ := hp
      exact ⟨st', E', hq, r', hb'⟩
    | exit i =>
      obtain ⟨st', E', hq, r', hb'⟩ := hp
      unfold blkQ at hq
      simp only at hq
      show (if i = id then cpost w0 N O Q .normal a' w' else cpost w0 N O Q (.exit i) a' w')
      by_cases e : i = id
      · subst e
        rw [show Nat.beq i i = true by simp] at hq
        rw [if_pos rfl]
        exact ⟨st', E', hq, r', hb'⟩
      · have : Nat.beq i id = false := by
          cases hb : Nat.beq i id
          · rfl
          · exact absurd (Nat.eq_of_beq_eq_true hb) e
        rw [this] at hq
        rw [if_neg e]
        exact ⟨st', E', hq, r', hb'⟩
    | ret =>
      obtain ⟨st', E', hq, r', hb'⟩ := hp
      exact ⟨st', E', hq, r', hb'⟩
    | goto l => exact hp.elim
    | panic ch => exact hp.elim
    | outgrown => exact hp.elim
  | .loop c, st, Q, h => h
  | .exit id, st, Q, h => fun _ _ E a w r hb => wp_exit ⟨st, E, h, r, hb⟩
  | .ret, st, Q, h => fun _ _ E a w r hb => wp_ret ⟨st, E, h, r, hb⟩
  | .label _, _, _, h => h.elim
  | .goto _, _, _, h => h.elim
  | .rangeFunc .., _, _, h => h.elim
  | .refuse _, _, _, h => h.elim
/-- From the one state to the other. -/
def Wk (st st' : St) : Prop := ∀ (O : Nat → Prop) (E : Env) (w : World) (n0 N : Nat) (a : Act), RepS O E w n0 N st a → ∃ E', RepS O E' w n0 N st' a
theorem Wk.refl (st : St) : Wk st st := fun _ E _ _ _ _ r => ⟨E, r⟩
theorem Wk.trans {s s' s2 : St} (h : Wk s s') (k : Wk s' s2) : Wk s s2 := fun O E w n0 N a r => by
  obtain ⟨E', r'⟩ := h O E w n0 N a r
  exact k O E' w n0 N a r'
theorem Tp.wk {c : Code} {st st' : St} {Q : Ex → St → Prop} (hw : Wk st st') (h : Tp P T N w0 O c st' Q) : Tp P T N w0 O c st Q := fun hT hc E a w r hb => by
  obtain ⟨E', r'⟩ := hw O E w _ N a r
  exact h hT hc E' a w r' hb
theorem wp_loop_n {c : Code} {Q : Exit → Act → World → Prop} (I : Nat → Act → World → Prop) {n : Nat} {a : Act} {w : World} (h0 : I n a w)
    (round : ∀ n a w, I n a w → c.wp P (Exit.then (fun a' w' => ∃ n', n' < n ∧ I n' a' w') Q) a w) : (Code.loop c).wp P Q a w := by
  intro b k cs
  have key : ∀ n a w, I n a w → ∃ e a' w', Q e a' w' ∧ Arrives P (lone (b.at a (.code c :: .inLoop c :: k)) cs w) b k cs e a' w' := by
    intro n
    induction n using Nat.strongRecOn with
    | _ n ih =>
      intro a w hI
      obtain ⟨e, a₁, w₁, hq, harr⟩ := round n a w hI b (.inLoop c :: k) cs
      cases e with
      | normal =>
        obtain ⟨n', hlt, hI₁⟩ := hq
        obtain ⟨e₂, a₂, w₂, hq₂, harr₂⟩ := ih n' hlt a₁ w₁ hI₁
        exact ⟨e₂, a₂, w₂, hq₂, .of_steps (Steps.trans harr (.one step_inLoop)) harr₂⟩
      | exit id => exact ⟨_, a₁, w₁, hq, .pass (x := .inLoop c) rfl (fun _ _ => .inl (by simp)) harr⟩
      | goto l => exact ⟨_, a₁, w₁, hq, .pass (x := .inLoop c) rfl (fun _ _ => .inl (by simp)) harr⟩
      | ret => exact ⟨_, a₁, w₁, hq, .pass (x := .inLoop c) rfl (fun _ _ => .inl (by simp)) harr⟩
      | panic ch => exact ⟨_, a₁, w₁, hq, .pass (x := .inLoop c) rfl (fun _ _ => .inl (by simp)) harr⟩
      | outgrown => exact ⟨_, a₁, w₁, hq, .pass (x := .inLoop c) rfl (fun _ _ => .inl (by simp)) harr⟩
  obtain ⟨e, a', w', hq, harr⟩ := key n a w h0
  exact ⟨e, a', w', hq, .of_steps (.one step_loop) harr⟩
theorem Tp.loop {c : Code} {st : St} {Q : Ex → St → Prop} {α : Type} (I : α → St) (ok : α → Prop) (μ : α → Nat) (x0 : α) (h0 : Wk st (I x0)) (hok : ok x0)
   (round : ∀ x, ok x → Tp P T N w0 O c (I x) (fun e st' => match e with
     | .nrm => ∃ y, ok y ∧ μ y < μ x ∧ Wk st' (I y)
     | e => Q e st')) : Tp P T N w0 O (.loop c) st Q := fun hT hc E a w r hb => by
  unfold codeOk at hc
  obtain ⟨E0, r0⟩ := h0 O E w _ N a r
  refine wp_loop_n (fun n a w => ∃ x E, ok x ∧ μ x = n ∧ RepS O E w w0.heap.size N (I x) a ∧ Below w0.heap.size w0 w) (n := μ x0) ⟨x0, E0, hok, rfl, r0, hb⟩ ?_
  rintro n a w ⟨x, E, hx, rfl, r, hb⟩
  refine wp_mono (round x hx hT hc E a w r hb) fun e a' w' hp => ?_
  cases e with
  | normal =>
    obtain ⟨st', E', ⟨y, h1, h2, h3⟩, r', hb'⟩ := hp
    obtain ⟨E2, r2⟩ := h3 O E' w' _ N a' r'
    exact ⟨μ y, h2, y, E2, h1, rfl, r2, hb'⟩
  | exit id =>
    obtain ⟨st', E', hq, r', hb'⟩ := hp
    exact ⟨st', E', hq, r', hb'⟩
  | ret =>
    obtain ⟨st', E', hq, r', hb'⟩ := hp
    exact ⟨st', E', hq, r', hb'⟩
  | goto l => exact hp.elim
  | panic ch => exact hp.elim
  | outgrown => exact hp.elim
end
end Cg
end
section
namespace Cg
open Go Go.RowKit Go.Sort Go.Lib
variable {P : Program} {T : Nat → Option Ty} {O : Nat → Prop}
def sw (m : List (Nat × Nat)) : List (Nat × Nat) := m.map fun p => (p.2, p.1)
/-- m: which row of the new state is which row of the old one, both ways alike. -/
def mOk (m : List (Nat × Nat)) : Bool := m.all fun p => (match lk m p.1 with
 | some x => Nat.beq x p.2
 | none => false) && (match lk (sw m) p.2 with
 | some x => Nat.beq x p.1
 | none => false)
section
variable (st : St) (m : List (Nat × Nat)) (rw' : List (Nat × Row)) (bx' : List (Nat × List Ce))
/-- A cell of the old state, seen as a cell of the new one. -/
def CeM (c c' : Ce) : Prop := match c' with
 | .bot => True
 | .nil => (match c with
  | .nil => True
  | _ => False)
 | .t y => (match c with
  | .t x => x = y
  | .nil => ∃ k, y = .sl k []
  | .row τ ver => (match lk st.rw τ with
   | some R => R.ver = ver ∧ lk (sw m) τ = none ∧ y = .sl R.k R.xs
   | none => False)
  | .bot => False)
 | .row τ' ver' => (match lk rw' τ' with
  | some R' => R'.ver = ver' ∧ (match c with
   | .nil => lk m τ' = none
   | .row τ ver => lk m τ' = some τ ∧ (match lk st.rw τ with
    | some R => R.ver = ver
    | none => False)
   | _ => False)
  | none => False)
def CesM : List Ce → List Ce → Prop
 | [], [] => True
 | c :: cs, c' :: cs' => CeM st m rw' c c' ∧ CesM cs cs'
 | _, _ => False
def hasK (b : Nat) : Bool := match lk bx' b with
 | some _ => true
 | none => false
def AvM (v v' : AV) : Prop := match v' with
 | .bot => True
 | .c c' => (match v with
  | .c c => CeM st m rw' c c'
  | _ => False)
 | .agg cs' => (match v with
  | .agg cs => CesM st m rw' cs cs'
  | _ => False)
 | .ptr b' o' => (match v with
  | .ptr b o => b = b' ∧ o = o' ∧ hasK bx' b' = true
  | _ => False)
 | .iptr xs' o' => (match v with
  | .iptr xs o => xs = xs' ∧ o = o'
  | _ => False)
 | .nilp => (match v with
  | .nilp => True
  | _ => False)
 | .fn f' caps' => (match v with
  | .fn f caps => f = f' ∧ caps = caps' ∧ caps'.all (fun p => hasK bx' p.1) = true
  | _ => False)
 | .eptr _ _ _ _ _ => False
 | .tup _ => False
def AvsM : List AV → List AV → Prop
 | [], [] => True
 | c :: cs, c' :: cs' => AvM st m rw' bx' c c' ∧ AvsM cs cs'
 | _, _ => False
def SlM : List (Nat × AV) → Prop
 | [] => True
 | (t, v') :: r => AvM st m rw' bx' (st.get t) v' ∧ SlM r
def BxM : List (Nat × List Ce) → Prop
 | [] => True
 | (b, cs') :: r => (match lk st.bx b with
  | some cs => CesM st m rw' cs cs'
  | none => False) ∧ BxM r
def RwM : List (Nat × Row) → Prop
 | [] => True
 | (τ', R') :: r => (match lk m τ' with
  | some τ => (match lk st.rw τ with
   | some R => R.ty = R'.ty ∧ R.k = R'.k ∧ R.xs = R'.xs
   | none => False)
  | none => R'.xs = []) ∧ RwM r
end
def below (n : Nat) (bx' : List (Nat × List Ce)) (rw' : List (Nat × Row)) : Bool := bx'.all (fun p => Nat.blt p.1 n) && rw'.all fun p => Nat.blt p.1 n
/-- Places as the new state has them. -/
def Env.ma (E : Env) (st : St) (m : List (Nat × Nat)) : Env := ⟨fun b => match E.rl b with
 | .rw τ => (match lk (sw m) τ with
  | some τ' => .rw τ'
  | none => .cold)
 | x => x, E.bk, fun τ' _ => match lk m τ' with
 | some τ => (match lk st.rw τ with
  | some R => E.vl τ R.ver
  | none => .slice none 0 0)
 | none => .slice none 0 0⟩
theorem lk_mem {α : Type} : ∀ {l : List (Nat × α)} {n : Nat} {x : α}, lk l n = some x → (n, x) ∈ l
 | (m, y) :: r, n, x, h => by
  rw [lk_cons] at h
  split at h
  ·rename_i e
   cases h
   rw [e]
   exact List.mem_cons_self
  ·exact List.mem_cons_of_mem _ (lk_mem h)
 | [], _, _, h => by cases h
theorem sw_mem {m : List (Nat × Nat)} {p : Nat × Nat} (h : p ∈ m) : (p.2, p.1) ∈ sw m := List.mem_map.2 ⟨p, h, rfl⟩
theorem mOk_lk {m : List (Nat × Nat)} (h : mOk m = true) {a b : Nat} (hl : lk m a = some b) : lk (sw m) b = some a := by
 have h1 := List.all_eq_true.1 h (a, b) (lk_mem hl)
 simp only [Bool.and_eq_true] at h1
 have h2 := h1.2
 split at h2
 ·rename_i x hx
  rw [hx, Nat.eq_of_beq_eq_true h2]
 ·cases h2
theorem mOk_sw {m : List (Nat × Nat)} (h : mOk m = true) {a b : Nat} (hl : lk (sw m) b = some a) : lk m a = some b := by
 obtain ⟨p, hp, e⟩ := List.mem_map.1 (lk_mem hl)
 cases e
 have h1 := List.all_eq_true.1 h p hp
 simp only [Bool.and_eq_true] at h1
 have h2 := h1.1
 split at h2
 ·rename_i x hx
  rw [hx, Nat.eq_of_beq_eq_true h2]
 ·cases h2
theorem sw_sw (m : List (Nat × Nat)) : sw (sw m) = m := by
 unfold sw
 rw [List.map_map]
 exact List.map_id' _
theorem hasK_some {bx' : List (Nat × List Ce)} {b : Nat} (h : hasK bx' b = true) : ∃ cs, lk bx' b = some cs := by
 unfold hasK at h
 split at h
 ·rename_i cs hcs
  exact ⟨cs, hcs⟩
 ·cases h
section
variable {E : Env} {w : World} {n0 N n : Nat} {st : St} {a : Act} {m : List (Nat × Nat)} {rw' : List (Nat × Row)} {bx' : List (Nat × List Ce)}
theorem ma_cold (b : Nat) (h : E.rl b = .cold) : (E.ma st m).rl b = .cold := by
 unfold Env.ma
 simp only [h]
theorem ma_rt {v : Value} {t : Tr} (h : RT E.F w v t) : RT (E.ma st m).F w v t := h.frame (Nat.le_refl _) (fun _ _ _ => rfl) (fun b hb _ => ma_cold b hb)
theorem ma_rtl {v : List Value} {t : List Tr} (h : RTL E.F w v t) : RTL (E.ma st m).F w v t := h.frame (Nat.le_refl _) (fun _ _ _ => rfl) (fun b hb _ => ma_cold b hb)
theorem ceM_rc (r : RepM O E w n0 N n st a) {v : Value} {c c' : Ce} (h : CeM st m rw' c c') (hv : RC E w v c) : RC (E.ma st m) w v c' := by
 cases c' with
 | bot => exact hv.one
 | nil =>
  cases c with
  | nil => exact hv
  | _ => exact h.elim
 | t y =>
  cases c with
  | t x =>
   obtain rfl : x = y := h
   exact ma_rt hv
  | nil =>
   obtain ⟨k, rfl⟩ := h
   rw [show v = _ from hv]
   exact .slNil fun _ => rfl
  | row τ ver =>
   have h : (match lk st.rw τ with
    | some R => R.ver = ver ∧ lk (sw m) τ = none ∧ y = .sl R.k R.xs
    | none => False) := h
   split at h
   ·rename_i R hR
    obtain ⟨rfl, h1, rfl⟩ := h
    rw [hv.1]
    refine row_rt (r.row τ R hR) fun b _ hb => ?_
    rcases hb with hb | hb
    ·exact ma_cold b hb
    ·show (E.ma st m).rl b = .cold
     unfold Env.ma
     simp only [hb, h1]
   ·exact h.elim
  | bot => exact h.elim
 | row τ' ver' =>
  unfold CeM at h
  simp only at h
  split at h
  ·rename_i R' hR'
   obtain ⟨_, h⟩ := h
   cases c with
   | nil =>
    have h : lk m τ' = none := h
    refine ⟨?_, by rw [show v = _ from hv]; rfl⟩
    unfold Env.ma
    simp only [h]
    exact hv
   | row τ ver =>
    obtain ⟨h1, h2⟩ := h
    refine ⟨?_, hv.2⟩
    unfold Env.ma
    simp only [h1]
    split at h2
    ·rename_i R hR
     subst h2
     exact hv.1
    ·exact h2.elim
   | _ => exact h.elim
  ·exact h.elim
theorem cesM_a2 (r : RepM O E w n0 N n st a) : ∀ {vs : List Value} {cs cs' : List Ce}, CesM st m rw' cs cs' → A2 (RC E w) vs cs → A2 (RC (E.ma st m) w) vs cs'
 | _, [], [], _, .nil => .nil
 | _, c :: cs, c' :: cs', h, .cons h1 h2 => .cons (ceM_rc r h.1 h1) (cesM_a2 r h.2 h2)
 | _, [], _ :: _, h, _ => h.elim
 | _, _ :: _, [], h, _ => h.elim
theorem avM_r1 (r : RepM O E w n0 N n st a) {u : Value} {v v' : AV} (h : AvM st m rw' bx' v v') (hv : RV E w u v) : R1 (E.ma st m) w u v' := by
 cases v' with
 | bot => exact trivial
 | c c' =>
  cases v with
  | c c => exact ceM_rc r h hv
  | _ => exact h.elim
 | agg cs' =>
  cases v with
  | agg cs =>
   obtain ⟨vs, rfl, ha⟩ := hv
   exact ⟨vs, rfl, cesM_a2 r h ha⟩
  | _ => exact h.elim
 | ptr b' o' =>
  cases v with
  | ptr b o =>
   obtain ⟨rfl, rfl, _⟩ := h
   exact hv
  | _ => exact h.elim
 | iptr xs' o' =>
  cases v with
  | iptr xs o =>
   obtain ⟨rfl, rfl⟩ := h
   obtain ⟨g, p, vs, rfl, h1, h2, h3, h4⟩ := hv
   exact ⟨g, p, vs, rfl, ma_cold g h1, h2, h3, ma_rtl h4⟩
  | _ => exact h.elim
 | nilp =>
  cases v with
  | nilp => exact hv
  | _ => exact h.elim
 | fn f' caps' =>
  cases v with
  | fn f caps =>
   obtain ⟨rfl, rfl, _⟩ := h
   exact hv
  | _ => exact h.elim
 | eptr _ _ _ _ _ => exact h.elim
 | tup _ => exact h.elim
theorem avsM_a2 (r : RepM O E w n0 N n st a) : ∀ {us : List Value} {vs vs' : List AV}, AvsM st m rw' bx' vs vs' → A2 (RV E w) us vs → A2 (R1 (E.ma st m) w) us vs'
 | _, [], [], _, .nil => .nil
 | _, c :: cs, c' :: cs', h, .cons h1 h2 => .cons (avM_r1 r h.1 h1) (avsM_a2 r h.2 h2)
 | _, [], _ :: _, h, _ => h.elim
 | _, _ :: _, [], h, _ => h.elim
theorem ceM_nm {c c' : Ce} (h : CeM st m rw' c c') : ∀ p ∈ c'.rids, ∃ R, lk rw' p.1 = some R ∧ R.ver = p.2 := fun p hp => by
 cases c' with
 | row τ' ver' =>
  have h : (match lk rw' τ' with
   | some R' => R'.ver = ver' ∧ _
   | none => False) := h
  obtain rfl : p = (τ', ver') := by simpa [Ce.rids] using hp
  split at h
  ·rename_i R' hR'
   exact ⟨R', hR', h.1⟩
  ·exact h.elim
 | _ => cases hp
theorem cesM_nm : ∀ {cs cs' : List Ce}, CesM st m rw' cs cs' → ∀ p ∈ cs'.flatMap Ce.rids, ∃ R, lk rw' p.1 = some R ∧ R.ver = p.2
 | [], [], _, p, hp => by cases hp
 | c :: cs, c' :: cs', h, p, hp => by
  rw [List.flatMap_cons] at hp
  rcases List.mem_append.1 hp with hp | hp
  ·exact ceM_nm h.1 p hp
  ·exact cesM_nm h.2 p hp
 | [], _ :: _, h, _, _ => h.elim
 | _ :: _, [], h, _, _ => h.elim
theorem avM_nm {v v' : AV} (h : AvM st m rw' bx' v v') : (∀ b ∈ v'.bids, ∃ cs, lk bx' b = some cs) ∧ ∀ p ∈ v'.rids, ∃ R, lk rw' p.1 = some R ∧ R.ver = p.2 := by
 cases v' with
 | bot => exact ⟨fun _ h => (by cases h), fun _ h => by cases h⟩
 | c c' =>
  cases v with
  | c c => exact ⟨fun _ h => (by cases h), ceM_nm h⟩
  | _ => exact h.elim
 | agg cs' =>
  cases v with
  | agg cs => exact ⟨fun _ h => (by cases h), cesM_nm h⟩
  | _ => exact h.elim
 | ptr b' o' =>
  cases v with
  | ptr b o =>
   refine ⟨fun x hx => ?_, fun _ h => by cases h⟩
   obtain rfl : x = b' := by simpa [AV.bids, AV.bid1] using hx
   exact hasK_some h.2.2
  | _ => exact h.elim
 | iptr xs' o' => exact ⟨fun _ h => (by cases h), fun _ h => by cases h⟩
 | nilp => exact ⟨fun _ h => (by cases h), fun _ h => by cases h⟩
 | fn f' caps' =>
  cases v with
  | fn f caps =>
   refine ⟨fun x hx => ?_, fun _ h => by cases h⟩
   obtain ⟨p, hp, rfl⟩ := List.mem_map.1 (show x ∈ caps'.map (·.1) from hx)
   exact hasK_some (List.all_eq_true.1 h.2.2 p hp)
  | _ => exact h.elim
 | eptr _ _ _ _ _ => exact h.elim
 | tup _ => exact h.elim
theorem slM_mem : ∀ {l : List (Nat × AV)}, SlM st m rw' bx' l → ∀ t v', (t, v') ∈ l → AvM st m rw' bx' (st.get t) v'
 | (t, v) :: r, h, t', v', hm => by
  rcases List.mem_cons.1 hm with e | hm
  ·cases e; exact h.1
  ·exact slM_mem h.2 t' v' hm
 | [], _, _, _, hm => by cases hm
theorem bxM_mem : ∀ {l : List (Nat × List Ce)}, BxM st m rw' l → ∀ b cs', (b, cs') ∈ l → ∃ cs, lk st.bx b = some cs ∧ CesM st m rw' cs cs'
 | (b, cs) :: r, h, b', cs', hm => by
  rcases List.mem_cons.1 hm with e | hm
  ·cases e
   have h := h.1
   split at h
   ·rename_i cs hcs
    exact ⟨cs, hcs, h⟩
   ·exact h.elim
  ·exact bxM_mem h.2 b' cs' hm
 | [], _, _, _, hm => by cases hm
theorem rwM_mem : ∀ {l : List (Nat × Row)}, RwM st m l → ∀ τ' R', (τ', R') ∈ l → (∃ τ R, lk m τ' = some τ ∧ lk st.rw τ = some R ∧ R.ty = R'.ty ∧ R.k = R'.k ∧ R.xs = R'.xs) ∨ (lk m τ' = none ∧ R'.xs = [])
 | (τ, R) :: r, h, τ', R', hm => by
  rcases List.mem_cons.1 hm with e | hm
  ·cases e
   have h := h.1
   split at h
   ·rename_i τ0 h1
    split at h
    ·rename_i R0 h2
     exact .inl ⟨τ0, R0, h1, h2, h⟩
    ·exact h.elim
   ·rename_i h1
    exact .inr ⟨h1, h⟩
  ·exact rwM_mem h.2 τ' R' hm
 | [], _, _, _, hm => by cases hm
theorem row_ma (r : RepM O E w n0 N n st a) (hm : mOk m = true) {τ' : Nat} {R' : Row} (h : (∃ τ R, lk m τ' = some τ ∧ lk st.rw τ = some R ∧ R.ty = R'.ty ∧ R.k = R'.k ∧ R.xs = R'.xs) ∨ (lk m τ' = none ∧ R'.xs = [])) : RR (E.ma st m) w n0 τ' R' := by
 rcases h with ⟨τ, R, h1, h2, h3, h4, h5⟩ | ⟨h1, h2⟩
 ·obtain ⟨ty', k', ver', xs'⟩ := R'
  simp only at h3 h4 h5
  subst h3 h4 h5
  obtain ⟨es, g1, g2, g3⟩ := r.row τ R h2
  have hv : (E.ma st m).vl τ' ver' = E.vl τ R.ver := by
   unfold Env.ma
   simp only [h1, h2]
  refine ⟨es, ?_, ⟨g2.len, fun j vs ts q1 q2 => ma_rtl (g2.at_ j vs ts q1 q2)⟩, fun g hg => ?_⟩
  ·show World.ownsRow _ _ _ _ ((E.ma st m).vl τ' ver') _ _
   rw [hv]
   exact g1
  ·have hg : ((E.ma st m).vl τ' ver').ownBlock = some g := hg
   rw [hv] at hg
   have := g3 g hg
   unfold Env.ma
   simp only [this, mOk_lk hm h1]
 ·obtain ⟨ty', k', ver', xs'⟩ := R'
  simp only at h2
  subst h2
  have hv : (E.ma st m).vl τ' ver' = .slice none 0 0 := by
   unfold Env.ma
   simp only [h1]
  refine ⟨[], ?_, ⟨rfl, fun j vs ts h => by simp at h⟩, fun g hg => ?_⟩
  ·show World.ownsRow _ _ _ _ ((E.ma st m).vl τ' ver') _ _
   rw [hv]
   exact World.ownsRow_nil _ _ _ _
  ·have hg : ((E.ma st m).vl τ' ver').ownBlock = some g := hg
   rw [hv] at hg
   cases hg
end
/-- One state seen as another. -/
theorem wk_of {st : St} (m : List (Nat × Nat)) {sl' : List (Nat × AV)} {bx' : List (Nat × List Ce)} {rw' : List (Nat × Row)} {nx' : Nat} (hm : mOk m = true) (hn : below nx' bx' rw' = true) (hs : SlM st m rw' bx' sl') (hb : BxM st m rw' bx') (hr : RwM st m rw') : Wk st ⟨sl', bx', rw', nx'⟩ := by
 intro O E w n0 N a r
 have get : ∀ t, (St.get ⟨sl', bx', rw', nx'⟩ t) = .bot ∨ AvM st m rw' bx' (st.get t) (St.get ⟨sl', bx', rw', nx'⟩ t) := fun t => by
  show (match lk sl' t with | some v => v | none => .bot) = .bot ∨ AvM st m rw' bx' (st.get t) (match lk sl' t with | some v => v | none => .bot)
  cases hq : lk sl' t with
  | none => exact .inl rfl
  | some v => exact .inr (slM_mem hs t v (lk_mem hq))
 have hn1 := hn
 unfold below at hn1
 rw [Bool.and_eq_true] at hn1
 refine ⟨E.ma st m, ⟨r.dfr, r.sz, fun t => ?_, fun i cs' hi => ?_, fun τ' R' hR => row_ma r hm (rwM_mem hr τ' R' (lk_mem hR)), ⟨fun t b hb => ?_, fun t p hp => ?_, fun b cs hcs p hp => ?_, fun b cs hcs => ?_, fun τ R hR => ?_⟩, r.hi, fun b hb => ?_⟩⟩
 ·rcases get t with h | h
  ·rw [h]; exact trivial
  ·exact (avM_r1 r h (r.slt t)).rv
 ·obtain ⟨cs, h1, h2⟩ := bxM_mem hb i cs' (lk_mem hi)
  obtain ⟨vs, t, g1, g2, g3, g4⟩ := r.box i cs h1
  refine ⟨vs, t, g1, g2, ?_, cesM_a2 r h2 g4⟩
  unfold Env.ma
  simp only [g3]
 ·rcases get t with h | h
  ·rw [h] at hb; cases hb
  ·exact (avM_nm h).1 b hb
 ·rcases get t with h | h
  ·rw [h] at hp; cases hp
  ·obtain ⟨R, h1, h2⟩ := (avM_nm h).2 p hp
   exact ⟨R, h1, Nat.le_of_eq h2.symm⟩
 ·obtain ⟨cs0, h1, h2⟩ := bxM_mem hb b cs (lk_mem hcs)
  obtain ⟨R, h3, h4⟩ := cesM_nm h2 p hp
  exact ⟨R, h3, Nat.le_of_eq h4.symm⟩
 ·exact Nat.le_of_ble_eq_true (List.all_eq_true.1 hn1.1 (b, cs) (lk_mem hcs))
 ·exact Nat.le_of_ble_eq_true (List.all_eq_true.1 hn1.2 (τ, R) (lk_mem hR))
 ·obtain ⟨h1, h2⟩ := r.old b hb
  refine ⟨fun h => h1 ?_, fun τ h => ?_⟩
  ·unfold Env.ma at h
   simp only at h
   exact h
  ·unfold Env.ma at h
   simp only at h
   exact h2 τ h
/-- Arguments in their slots. -/
def numA : Nat → List AV → List (Nat × AV)
 | _, [] => []
 | i, a :: ars => (i, a) :: numA (i + 1) ars
theorem lk_numA : ∀ (ars : List AV) (i t : Nat), lk (numA i ars) t = if i ≤ t then ars[t - i]? else none
 | [], i, t => by simp [numA, lk]
 | a :: ars, i, t => by
  rw [numA, lk_cons, lk_numA ars (i + 1) t]
  by_cases h : i = t
  ·subst h
   simp
  ·rw [if_neg h]
   by_cases h2 : i ≤ t
   ·rw [if_pos h2, if_pos (by omega), show t - i = t - (i + 1) + 1 by omega, List.getElem?_cons_succ]
   ·rw [if_neg h2, if_neg (by omega)]
/-- A result variable's value. -/
def resA (T : Nat → Option Ty) (st : St) : ResultVar → Option AV
 | .tmp t => some (st.get t)
 | .cell a t => match T t, st.get a with
  | some y, .ptr b o => (match lk st.bx b with
   | some cs => cut y cs o
   | none => none)
  | _, _ => none
def ResM (T : Nat → Option Ty) (st : St) (m : List (Nat × Nat)) (rw' : List (Nat × Row)) : List ResultVar → List AV → Prop
 | [], [] => True
 | x :: xs, r :: rs => (match resA T st x with
  | some v => AvM st m rw' [] v r
  | none => False) ∧ ResM T st m rw' xs rs
 | _, _ => False
/-- What a function returns in a state. -/
def Fin (T : Nat → Option Ty) (fn : Func) (st : St) (m : List (Nat × Nat)) (r : AV) (rs : List Row) : Prop := mOk m = true ∧ RwM st m (numR 0 0 rs) ∧ (match fn.results.toList with
 | [x] => (match resA T st x with
  | some v => AvM st m (numR 0 0 rs) [] v r
  | none => False)
 | xs => (match r with
  | .tup ys => ResM T st m (numR 0 0 rs) xs ys
  | _ => False))
def FinE (T : Nat → Option Ty) (fn : Func) (r : AV) (rs : List Row) (e : Ex) (st : St) : Prop := match e with
 | .exit _ => False
 | _ => ∃ m, Fin T fn st m r rs
end Cg
end
section
namespace Cg
open Go Go.RowKit Go.Sort Go.Lib
variable {P : Program} {T : Nat → Option Ty}
theorem A2.rv {E : Env} {w : World} : ∀ {vs : List Value} {ars : List AV}, A2 (R1 E w) vs ars → A2 (RV E w) vs ars
 | _, _, .nil => .nil
 | _, _, .cons h1 h2 => .cons h1.rv (A2.rv h2)
theorem plain_nm {a : AV} (h : a.plain = true) : a.bids = [] ∧ a.rids = [] := by
 cases a with
 | c x => cases x <;> first | exact ⟨rfl, rfl⟩ | (cases h; done)
 | agg xs =>
  refine ⟨rfl, ?_⟩
  show xs.flatMap Ce.rids = []
  have h : xs.all Ce.plain = true := h
  rw [List.flatMap_eq_nil_iff]
  intro c hc
  have := List.all_eq_true.1 h c hc
  cases c <;> first | rfl | (cases this; done)
 | nilp => exact ⟨rfl, rfl⟩
 | _ => cases h
def resSem (a : Act) : ResultVar → Sem Value
 | .tmp t => Pure.pure (a.tmps.getD t undef)
 | .cell b t => do loadVar t (← asAddr (a.tmps.getD b undef))
theorem results_rv {E : Env} {w : World} {n0 N n : Nat} {O : Nat → Prop} {st : St} {a : Act} (hT : TabOk P T) (r : RepM O E w n0 N n st a) {x : ResultVar} {v : AV} (h : resA T st x = some v) : ∃ u, (resSem a x).run P w = .ok u w ∧ RV E w u v := by
 cases x with
 | tmp t =>
  cases h
  exact ⟨_, rfl, r.slt t⟩
 | cell b t =>
  unfold resA at h
  simp only at h
  split at h
  ·rename_i y b' o hy hb
   split at h
   ·rename_i cs hcs
    have hv := r.slt b
    rw [hb] at hv
    have hv : a.tmps.getD b undef = .pointer (some ⟨E.bk b', o, none⟩) := hv
    obtain ⟨vs, h1, h2⟩ := (r.box b' cs hcs).cells
    obtain ⟨u, hu, hr⟩ := load_rv (P := P) (hT.ty t y hy) h1 h2 h
    refine ⟨u, ?_, hr.rv⟩
    rw [Nat.zero_add] at hu
    simp only [resSem, hv, asAddr, Sem.run_bind, Sem.run_pure, Result.andThen_ok]
    simpa [Instr.loadAt, Instr.sureAddr] using hu
   ·cases h
  ·cases h
theorem resM_run {E : Env} {w : World} {n0 N n : Nat} {O : Nat → Prop} {st : St} {a : Act} {m : List (Nat × Nat)} {rw' : List (Nat × Row)} (hT : TabOk P T) (r : RepM O E w n0 N n st a) : ∀ {xs : List ResultVar} {rs : List AV}, ResM T st m rw' xs rs → ∃ us : List Value, (xs.mapM (resSem a)).run P w = .ok us w ∧ A2 (R1 (E.ma st m) w) us rs
 | [], [], _ => ⟨[], by simp, .nil⟩
 | x :: xs, y :: ys, h => by
  obtain ⟨h1, h2⟩ := h
  split at h1
  ·rename_i v hv
   obtain ⟨u, hu, hr⟩ := results_rv hT r hv
   obtain ⟨us, hus, ha⟩ := resM_run hT r h2
   refine ⟨u :: us, ?_, .cons (avM_r1 r h1 hr) ha⟩
   rw [List.mapM_cons, Sem.run_bind, hu]
   simp only [Result.andThen_ok, Sem.run_bind, hus, Sem.run_pure]
  ·exact h1.elim
 | [], _ :: _, h => h.elim
 | _ :: _, [], h => h.elim
theorem resM_len {st : St} {m : List (Nat × Nat)} {rw' : List (Nat × Row)} : ∀ {xs : List ResultVar} {rs : List AV}, ResM T st m rw' xs rs → xs.length = rs.length
 | [], [], _ => rfl
 | _ :: _, _ :: _, h => by simp [resM_len h.2]
 | [], _ :: _, h => h.elim
 | _ :: _, [], h => h.elim
theorem fin_run {E : Env} {w : World} {n0 N n : Nat} {O : Nat → Prop} {st : St} {a : Act} {m : List (Nat × Nat)} {fn : Func} {rv : AV} {rs : List Row} (hT : TabOk P T) (r : RepM O E w n0 N n st a) (h : Fin T fn st m rv rs) : ∃ u, (results fn a.tmps).run P w = .ok u w ∧ RV (E.ma st m) w u rv := by
 obtain ⟨_, _, h⟩ := h
 have e : (results fn a.tmps).run P w = ((fn.results.toList.mapM (resSem a)).run P w).andThen fun vs w' => .ok (if h : vs.toArray.size = 1 then vs.toArray[0] else .tuple vs.toArray) w' := by
  have e3 : results fn a.tmps = (do
    let vs ← fn.results.mapM (resSem a)
    Pure.pure (if h : vs.size = 1 then vs[0] else .tuple vs)) := by
   unfold results
   exact congrArg (fun g : ResultVar → Sem Value => (do
    let vs ← fn.results.mapM g
    Pure.pure (if h : vs.size = 1 then vs[0] else .tuple vs) : Sem Value)) (funext fun x => by cases x <;> rfl)
  rw [e3, Array.mapM_eq_mapM_toList]
  simp only [Sem.run_bind, Sem.run_map, Sem.run_pure]
  cases ((fn.results.toList.mapM (resSem a)).run P w) <;> rfl
 rw [e]
 split at h
 ·rename_i x hx
  rw [hx]
  split at h
  ·rename_i v hv
   obtain ⟨u, hu, hr⟩ := results_rv hT r hv
   refine ⟨u, ?_, (avM_r1 r h hr).rv⟩
   rw [List.mapM_cons, List.mapM_nil, Sem.run_bind, hu]
   simp
  ·exact h.elim
 ·rename_i xs hne
  split at h
  ·rename_i ys
   obtain ⟨us, hus, ha⟩ := resM_run hT r h
   have hl := resM_len h
   refine ⟨.tuple us.toArray, ?_, ⟨us, rfl, ha⟩⟩
   rw [hus]
   have : ¬ us.toArray.size = 1 := fun h1 => by
    have h2 := ha.len
    rw [List.size_toArray] at h1
    rw [h1, ← hl] at h2
    cases hq : fn.results.toList with
    | nil => rw [hq] at h2; cases h2
    | cons x l =>
     cases l with
     | nil => exact hne x hq
     | cons _ _ => rw [hq] at h2; simp at h2
   simp only [Result.andThen_ok, dif_neg this]
  ·exact h.elim
theorem avM_res {st : St} {m : List (Nat × Nat)} {rw' : List (Nat × Row)} {v r : AV} (h : AvM st m rw' [] v r) : (∀ b ∈ r.bids, False) ∧ ∀ p ∈ r.rids, ∃ R, lk rw' p.1 = some R ∧ R.ver = p.2 := by
 obtain ⟨h1, h2⟩ := avM_nm h
 refine ⟨fun b hb => ?_, h2⟩
 obtain ⟨cs, hcs⟩ := h1 b hb
 cases hcs
theorem resM_res {st : St} {m : List (Nat × Nat)} {rw' : List (Nat × Row)} : ∀ {xs : List ResultVar} {rs : List AV}, ResM T st m rw' xs rs → (∀ b ∈ rs.flatMap AV.bid1, False) ∧ ∀ p ∈ rs.flatMap AV.rid1, ∃ R, lk rw' p.1 = some R ∧ R.ver = p.2
 | [], [], _ => ⟨fun _ h => (by cases h), fun _ h => by cases h⟩
 | x :: xs, y :: ys, h => by
  obtain ⟨h1, h2⟩ := h
  split at h1
  ·obtain ⟨g1, g2⟩ := resM_res h2
   obtain ⟨g3, g4⟩ := avM_res h1
   have e : y.bids = y.bid1 ∧ y.rids = y.rid1 := by
    cases y <;> first | exact ⟨rfl, rfl⟩ | exact h1.elim
   rw [e.1] at g3
   rw [e.2] at g4
   refine ⟨fun b hb => ?_, fun p hp => ?_⟩
   ·rw [List.flatMap_cons] at hb
    rcases List.mem_append.1 hb with hb | hb
    ·exact g3 b hb
    ·exact g1 b hb
   ·rw [List.flatMap_cons] at hp
    rcases List.mem_append.1 hp with hp | hp
    ·exact g4 p hp
    ·exact g2 p hp
  ·exact h1.elim
 | [], _ :: _, h => h.elim
 | _ :: _, [], h => h.elim
theorem fin_res {st : St} {m : List (Nat × Nat)} {fn : Func} {rv : AV} {rs : List Row} (h : Fin T fn st m rv rs) : (∀ b ∈ rv.bids, False) ∧ ∀ p ∈ rv.rids, ∃ R, rs[p.1]? = some R ∧ p.2 ≤ R.ver := by
 have key : (∀ b ∈ rv.bids, False) ∧ ∀ p ∈ rv.rids, ∃ R, lk (numR 0 0 rs) p.1 = some R ∧ R.ver = p.2 := by
  obtain ⟨_, _, h⟩ := h
  split at h
  ·split at h
   ·exact avM_res h
   ·exact h.elim
  ·split at h
   ·exact resM_res h
   ·exact h.elim
 refine ⟨key.1, fun p hp => ?_⟩
 obtain ⟨R, h1, h2⟩ := key.2 p hp
 rw [lk_numR] at h1
 rw [if_pos (by omega)] at h1
 exact ⟨R, by simpa using h1, Nat.le_of_eq h2.symm⟩
/-- What a result names: rows of the contract alone. -/
def resB (rv : AV) (rs : List Row) : Bool := rv.bids.isEmpty && rv.rids.all fun p => match rs[p.1]? with
 | some R => Nat.ble p.2 R.ver
 | none => false
theorem resB_ok {rv : AV} {rs : List Row} (h : resB rv rs = true) : (∀ x ∈ rv.bids, False) ∧ ∀ x ∈ rv.rids, ∃ R, rs[x.1]? = some R ∧ x.2 ≤ R.ver := by
 unfold resB at h
 rw [Bool.and_eq_true, List.isEmpty_iff] at h
 refine ⟨fun x hx => (by rw [h.1] at hx; cases hx), fun x hx => ?_⟩
 have h2 := List.all_eq_true.1 h.2 x hx
 split at h2
 ·rename_i R hR
  exact ⟨R, hR, Nat.le_of_ble_eq_true h2⟩
 ·cases h2
/-- A contract out of the code. -/
theorem ct_of {f : FuncId} {fn : Func} {c : Code} {ars : List AV} {rv : AV} {rs : List Row} (hf : P.funcs[f]? = some fn) (hb : fn.body = some c) (he : Ent P f) (hT : TabOk P T) (hc : codeOk fn.ntmps c = true) (hn : Nat.ble ars.length fn.ntmps = true) (hpl : ars.all AV.plain = true) (hfew : Nat.ble rs.length 128 = true) (hres : resB rv rs = true)
  (h : ∀ w0 O, Tp P T fn.ntmps w0 O c ⟨numA 0 ars, [], [], 0⟩ (FinE T fn rv rs)) : Ct P f ars rv rs false := by
 have hres := resB_ok hres
 refine ⟨he, Nat.le_of_ble_eq_true hfew, hpl, hres.1, hres.2, fun w vs E0 ha => ?_⟩
 have hlen := ha.len
 have hn := Nat.le_of_ble_eq_true hn
 refine calls_of_wp hf hb ?_
 obtain ⟨E, hE1, hE2, hE3⟩ : ∃ E : Env, (∀ b, b < w.heap.size → E0.rl b = .cold → E.rl b = .cold) ∧ (∀ b, E.rl b = .cold → E0.rl b = .cold) ∧ (∀ b, E.rl b = .cold ∨ E.rl b = .non) := by
  refine ⟨⟨fun b => match E0.rl b with
   | .cold => .cold
   | _ => .non, fun _ => 0, fun _ _ => undef⟩, fun b _ h => by simp only [h], fun b h => ?_, fun b => ?_⟩
  ·simp only at h
   split at h
   ·rename_i e; exact e
   ·cases h
  ·simp only
   split
   ·exact .inl rfl
   ·exact .inr rfl
 have rt : ∀ {v t}, RT E0.F w v t → RT E.F w v t := fun h => by
  refine h.frame (Nat.le_refl _) (fun _ _ _ => rfl) (fun b hb hlt => hE1 b hlt hb)
 have rtl : ∀ {v t}, RTL E0.F w v t → RTL E.F w v t := fun h => by
  refine h.frame (Nat.le_refl _) (fun _ _ _ => rfl) (fun b hb hlt => hE1 b hlt hb)
 have rc : ∀ {v c}, Ce.plain c = true → RC E0 w v c → RC E w v c := fun {v c} hp h => by
  cases c with
  | t x => exact rt h
  | nil => exact h
  | _ => cases hp
 have a2 : ∀ {vs cs}, cs.all Ce.plain = true → A2 (RC E0 w) vs cs → A2 (RC E w) vs cs := fun {vs cs} hp h => by
  induction h with
  | nil => exact .nil
  | cons h1 _ ih =>
   rw [List.all_cons, Bool.and_eq_true] at hp
   exact .cons (rc hp.1 h1) (ih hp.2)
 have r1 : ∀ {v a}, AV.plain a = true → R1 E0 w v a → R1 E w v a := fun {v a} hp h => by
  cases a with
  | c x => exact rc hp h
  | agg xs =>
   obtain ⟨vs, rfl, h⟩ := h
   exact ⟨vs, rfl, a2 hp h⟩
  | nilp => exact h
  | _ => cases hp
 have hinit : RepS (fun b => E0.rl b = .cold) E w w.heap.size fn.ntmps ⟨numA 0 ars, [], [], 0⟩ { tmps := vs.toArray ++ Array.replicate (fn.ntmps - vs.toArray.size) undef, defers := [] } := by
  have slot : ∀ t, ∀ a, ars[t]? = some a → AV.plain a = true := fun t a ht => List.all_eq_true.1 hpl a (List.mem_of_getElem? ht)
  refine ⟨rfl, by simp only [Array.size_append, List.size_toArray, Array.size_replicate]; omega, fun t => ?_, fun _ _ h => (by cases h), fun _ _ h => (by cases h), ⟨fun t b hb => ?_, fun t p hp => ?_, fun _ _ h => (by cases h), fun _ _ h => (by cases h), fun _ _ h => (by cases h)⟩, Nat.le_refl _, fun b _ => ⟨fun h => hE2 b h, fun τ h => by rcases hE3 b with e | e <;> rw [e] at h <;> cases h⟩⟩
  ·show RV E w _ (match lk (numA 0 ars) t with | some v => v | none => .bot)
   rw [lk_numA, if_pos (Nat.zero_le _), Nat.sub_zero]
   cases ht : ars[t]? with
   | none => exact trivial
   | some a =>
    obtain ⟨u, hu, hr⟩ := ha.get t a ht
    have hlt := (List.getElem?_eq_some_iff.1 hu).1
    rw [Array.getD_eq_getD_getElem?, Array.getElem?_append_left (by simpa using hlt), List.getElem?_toArray, hu]
    exact (r1 (slot t a ht) hr).rv
  ·have hb : b ∈ (match lk (numA 0 ars) t with | some v => v | none => AV.bot).bids := hb
   rw [lk_numA, if_pos (Nat.zero_le _), Nat.sub_zero] at hb
   cases ht : ars[t]? with
   | none => rw [ht] at hb; cases hb
   | some a =>
    rw [ht] at hb
    have hb : b ∈ a.bids := hb
    rw [(plain_nm (slot t a ht)).1] at hb
    cases hb
  ·have hp : p ∈ (match lk (numA 0 ars) t with | some v => v | none => AV.bot).rids := hp
   rw [lk_numA, if_pos (Nat.zero_le _), Nat.sub_zero] at hp
   cases ht : ars[t]? with
   | none => rw [ht] at hp; cases hp
   | some a =>
    rw [ht] at hp
    have hp : p ∈ a.rids := hp
    rw [(plain_nm (slot t a ht)).2] at hp
    cases hp
 refine wp_mono (h w (fun b => E0.rl b = .cold) hT hc E _ w hinit (Below.refl _ _)) fun e a' w' hp => ?_
 have fin : ∀ st E', (∃ m, Fin T fn st m rv rs) → RepS (fun b => E0.rl b = .cold) E' w' w.heap.size fn.ntmps st a' → Below w.heap.size w w' → a'.defers = [] ∧ ∃ v, (results fn a'.tmps).run P w' = .ok v w' ∧ ∃ v', Ending.returned v = .returned v' ∧ Below w.heap.size w w' ∧ ∃ E, RV E w' v' rv ∧ (∀ j R, rs[j]? = some R → RR E w' w.heap.size j R) ∧ (∀ b, b < w.heap.size → E.rl b = .cold → false = false ∧ E0.rl b = .cold) := fun st E' hm r hb => by
  obtain ⟨m, hfin⟩ := hm
  obtain ⟨u, hu, hr⟩ := fin_run hT r hfin
  refine ⟨r.dfr, u, hu, u, rfl, hb, E'.ma st m, hr, fun j R hj => ?_, fun b hb hc => ⟨rfl, ?_⟩⟩
  ·refine row_ma r hfin.1 (rwM_mem hfin.2.1 j R (lk_mem ?_))
   rw [lk_numR, if_pos (by omega)]
   simpa using hj
  ·obtain ⟨h1, h2⟩ := r.old b hb
   refine h1 ?_
   unfold Env.ma at hc
   simp only at hc
   exact hc
 cases e with
 | normal =>
  obtain ⟨st, E', hq, r, hb'⟩ := hp
  exact fin st E' hq r hb'
 | ret =>
  obtain ⟨st, E', hq, r, hb'⟩ := hp
  exact fin st E' hq r hb'
 | exit id =>
  obtain ⟨st, E', hq, r, hb'⟩ := hp
  exact hq.elim
 | goto l => exact hp.elim
 | panic ch => exact hp.elim
 | outgrown => exact hp.elim
/-- The program's table of types. -/
theorem tabOk_of (P : Program) (tab : List (Nat × Ty)) (h1 : tab.all (fun p => tyOkB P p.1 p.2) = true) (h2 : P.follows .mixedOrders = true) : TabOk P (lk tab) :=
 ⟨fun t y h => List.all_eq_true.1 h1 (t, y) (lk_mem h), h2⟩
theorem cond_split {t : Bool} {A B : Prop} (h1 : t = true → A) (h2 : t = false → B) : cond t A B := by
 cases t
 ·exact h2 rfl
 ·exact h1 rfl
theorem cond_t {t : Bool} {A B : Prop} (ht : t = true) (h : A) : cond t A B := by rw [ht]; exact h
theorem cond_f {t : Bool} {A B : Prop} (ht : t = false) (h : B) : cond t A B := by rw [ht]; exact h
theorem cesM_refl {st : St} {m : List (Nat × Nat)} {rw' : List (Nat × Row)} : ∀ (cs : List Ce), cs.all Ce.plain = true → CesM st m rw' cs cs
 | [], _ => trivial
 | c :: cs, h => by
  rw [List.all_cons, Bool.and_eq_true] at h
  refine ⟨?_, cesM_refl cs h.2⟩
  cases c with
  | t x => exact rfl
  | nil => exact trivial
  | row _ _ => cases h.1
  | bot => cases h.1
theorem wrap_nat (n : Nat) (h : n < 9223372036854775808) : IntKind.i64.wrap (n : Int) = n := by rw [IntKind.wrap_i64]; omega
theorem wrap_succ (n : Nat) (h : n + 1 < 9223372036854775808) : IntKind.i64.wrap ((n : Int) + 1) = ((n + 1 : Nat) : Int) := by rw [IntKind.wrap_i64]; omega
end Cg
end
