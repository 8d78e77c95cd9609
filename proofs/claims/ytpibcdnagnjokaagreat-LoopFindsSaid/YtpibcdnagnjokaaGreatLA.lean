/- Parts of the proof, joined: Small lemmas that every walk of this seat uses: equations of endings, append of one new element to a slice that the call owns, bits of an int. They hold for any program; A slice whose elements take one cell each, as a list, wherever it lies; what the call owns read so. They hold for any program; A slice whose elements take k cells each (structs), as a list, wherever it lies; rows in a known block, one element written. They hold for any program; Nested structs and slices, read out of memory as trees, by the shape of the type; no program in sight; The shape of a type, reckoned from the program's table of types; an argument that came in reads by its type's shape; Equality of structs and arrays without slices, by the shape of the type. It holds for any program; Elements as lists of cells: from the reading by shape to rows of cells and back; no program in sight; Evaluation of Go code on trees: values, states, one step of each operation. No program in sight; Evaluation on trees: when a memory holds what a state says. No program in sight; Maps from numbers to numbers: what the operations on a map's block answer. No program in sight; Evaluation on trees: contracts of functions, what must hold ahead of an operation, of a region, of code; Evaluation on trees: what stays when memory grows, when a variable or a row is written. No program in sight; Evaluation on trees: operations that only reckon do what they say. No program in sight; Evaluation on trees: operations that make or write mem. -/
import Derived.WalkKit
import Derived.Lib.Hide
import Derived.Maps.AppendAt
import Derived.Laws.Strings
import Derived.Lib.OwnBridge
import Derived.Sort.OwnSortedInts
import Derived.WalkSmall
import Derived.Laws.AppendOwnNone
import Derived.Deep.Fields
import Derived.Deep.Slices
import Derived.OpenShut
import Derived.DeepKeys
import Derived.Orders
import Derived.Deep.MidRow
import Derived.Laws.Slices
import Derived.Laws.StructEq
import Derived.Laws.Tables
import Derived.Lib.AppendZeros
import Derived.Great.BuildSlice
open Go
theorem Ai {a b : Prop} (x : a) (y : b) : a ∧ b := ⟨x, y⟩
theorem Ei.{u} {α : Sort u} {p : α → Prop} (w : α) (h : p w) : Exists p := ⟨w, h⟩
theorem Lm.{u, v} {α : Type u} {β : Type v} {ls : List α} (f : α → β) : (ls.map f).length = ls.length := List.length_map f
theorem Nb {a b : Nat} (h : Nat.ble a b = true) : a ≤ b := Nat.le_of_ble_eq_true h
set_option maxRecDepth 100000
set_option maxHeartbeats 4000000
section
namespace Cg
open Go Go.RowKit
def ElemIs (P:Program) (t e:TypeId) (z:Value) (size bytes:Nat):Prop:=
 P.underlying t=some (.slice e)∧z.cells.size=size∧0 < size∧∃ i,P.info? e=some i∧i.zero=some z∧i.size=size∧i.bytes=bytes

end Cg
end
section
namespace Cg
open Go Go.RowKit Go.Sort Go.Lib
section
variable {α:Type}
def RowAt (enc:α→Value) (w:World) (v:Value) (xs:List α):Prop:=
 ∃ ao cap,v=.slice ao xs.length cap∧(xs.length≤cap∧(ao=none→cap=0))∧(xs=[]∨∃ b o,ao=some ⟨b,o,none⟩∧b < w.heap.size∧∀ (j:Nat) x,xs[j]? = some x→w.cell? ⟨b,o+j,none⟩=some (enc x))
theorem RowAt.cases {enc:α→Value} {w:World} {v:Value} {xs:List α} (h:RowAt enc w v xs):(xs=[]∧∃ ao cap,v=.slice ao 0 cap)∨
  (¬ xs=[]∧∃ b o cap,v=.slice (some ⟨b,o,none⟩) xs.length cap∧xs.length≤cap∧b < w.heap.size∧∀ (j:Nat) x,xs[j]? = some x→w.cell? ⟨b,o+j,none⟩=some (enc x)):=by
 obtain ⟨ao,cap,rfl,hc,h⟩:=h
 by_cases hx:xs=[]
 ·subst hx
  exact .inl ⟨rfl,ao,cap,rfl⟩
 ·rcases h with h|⟨b,o,rfl,hlt,hcell⟩
  ·exact absurd h hx
  ·exact .inr ⟨hx,b,o,cap,rfl,hc.1,hlt,hcell⟩
theorem cells_getD {enc:α→Value} {w:World} {b o:Nat} {xs:List α} (z:α) (h:∀ (j:Nat) x,xs[j]? = some x→w.cell? ⟨b,o+j,none⟩=some (enc x)):∀ j,j < xs.length→w.cell? ⟨b,o+j,none⟩=some (enc (xs.getD j z)):=by
 intro j hj
 rw [List.getD_eq_getElem?_getD,List.getElem?_eq_getElem hj]
 exact h j _ (List.getElem?_eq_getElem hj)
theorem own_block {w w':World} {B e size n:Nat} {v:Value} {xs:List Value} (h:w.ownsRow B e size v n xs) (hb:Below w.heap.size w w'):w'.ownsRow B e size v n xs:=by
 refine ⟨h.1,?_⟩
 rcases h.2 with hn|⟨g,cap,cur,rfl,hg,hgg,rest⟩
 ·exact .inl hn
 ·exact .inr ⟨g,cap,cur,rfl,hg,by rw [hb.block g (Array.getElem?_eq_some_iff.1 hgg).1];exact hgg,rest⟩
theorem below_grow {B:Nat} {w0 w:World} (h:Below B w0 w) (hB:B≤w.heap.size) (os:Array Obj):Below B w0 (grow w os):=
 ⟨h.os,h.tape,h.output,by show w0.heap.size≤(w.heap++os).size;rw [Array.size_append];have:=h.size;omega,fun k hk=>by
  rw [heap_grow_old w os (by omega)];exact h.block k hk⟩
end
section
variable {α:Type}
def RowK (k:Nat) (enc:α→List Value) (w:World) (v:Value) (xs:List α):Prop:=
 ∃ ao cap,v=.slice ao xs.length cap∧(xs.length≤cap∧(ao=none→cap=0))∧(xs=[]∨∃ b o,ao=some ⟨b,o,none⟩∧b < w.heap.size∧∀ (j:Nat) x,xs[j]? = some x→∀ (i:Nat) u,(enc x)[i]? = some u→w.cell? ⟨b,o+j*k+i,none⟩=some u)
theorem RowK.below {k:Nat} {enc:α→List Value} {w w':World} {v:Value} {xs:List α} (h:RowK k enc w v xs) (hb:Below w.heap.size w w'):RowK k enc w' v xs:=by
 obtain ⟨ao,cap,rfl,hc,h⟩:=h
 refine ⟨ao,cap,rfl,hc,?_⟩
 rcases h with h|⟨b,o,rfl,hlt,hx⟩
 ·exact .inl h
 ·exact .inr ⟨b,o,rfl,Nat.lt_of_lt_of_le hlt hb.size,fun j x hj i u hu=>(hb.cell (p:=⟨b,o+j*k+i,none⟩) hlt).trans (hx j x hj i u hu)⟩
theorem flat_get {k:Nat} {enc:α→List Value} (hk:∀ x,(enc x).length=k):∀ (xs:List α) (j:Nat) x,xs[j]? = some x→∀ (i:Nat),i < k→(xs.flatMap enc)[j*k+i]? = (enc x)[i]?
 | [],j,x,h,_,_=>by simp at h
 | y :: xs,0,x,h,i,hi=>by
  obtain rfl:y=x:=by simpa using h
  rw [List.flatMap_cons,Nat.zero_mul,Nat.zero_add,List.getElem?_append_left (by rw [hk];exact hi)]
 | y :: xs,j+1,x,h,i,hi=>by
  have ih:=flat_get hk xs j x (by simpa using h) i hi
  rw [List.flatMap_cons,List.getElem?_append_right (by rw [hk,Nat.add_mul];omega),hk,show (j+1)*k+i - k=j*k+i by rw [Nat.add_mul];omega]
  exact ih
theorem flat_len {k:Nat} {enc:α→List Value} (hk:∀ x,(enc x).length=k) (xs:List α):(xs.flatMap enc).length=xs.length*k:=by
 induction xs with
 | nil=>simp
 | cons x xs ih=>rw [List.flatMap_cons,List.length_append,ih,hk,List.length_cons,Nat.add_mul];omega
theorem wpList_append_rowK {P:Program} {w:World} {ops:Array Oper} {rest:List Oper} {o:Oper} {a:Act} {Q:Exit→Act→World→Prop} (hgd:o.guard=none) (s x:Operand) (t:TypeId)
  (ho:o.op=.call { callee:=.builtin .append,args:=#[s,x],argTypes:=#[t,t] })
  (base:Nat) {e:TypeId} {z:Value} {k bytes:Nat} (hE:ElemIs P t e z k bytes)
  (v:Value) (n:Nat) (xs:List Value) (hs:a.eval s=v) (hown:w.ownsRow base e k v n xs)
  (enc:α→List Value) (hk:∀ x,(enc x).length=k) (h1:∀ y,∀ u∈enc y,u.oneCell'=true) (ys:List α) (vx:Value) (hx:a.eval x=vx) (hr:RowK k enc w vx ys)
  (hn:(n+ys.length)*bytes≤140737488355328) (hn1:n+ys.length < 140737488355328) (hbase:base≤w.heap.size)
  (h:∀ v' w',w'.ownsRow base e k v' (n+ys.length) (xs++ys.flatMap enc)→w.grownBy w' v.ownBlock→Below base w w'→wpList P ops Q rest (a.put o.dst v') w') :
  wpList P ops Q (o :: rest) a w:=by
 obtain ⟨ht,hzs,hsz,i,hi,hz,hsize,hby⟩:=hE
 obtain ⟨ao,cap,rfl,⟨hc,hnil⟩,hr⟩:=hr
 cases ao with
 | none=>
  have hc0:=hnil rfl
  subst hc0
  have hy:ys=[]:=List.eq_nil_of_length_eq_zero (by omega)
  subst hy
  refine wpList_append_own_none hgd s x t ho base e i k ht hi v n xs hs hown hx (h v w ?_ ⟨rfl,rfl,rfl,Nat.le_refl _,fun _ _ _=>rfl⟩ (Below.refl _ _))
  simpa using hown
 | some ad=>
  have hcells:∀ (j:Nat) u,(ys.flatMap enc)[j]? = some u→w.cell? (ad.add j)=some u:=by
   intro j u hj
   rcases hr with rfl|⟨b,oo,hao,_,hcell⟩
   ·simp at hj
   ·cases hao
    have hjl:=(List.getElem?_eq_some_iff.1 hj).1
    rw [flat_len hk] at hjl
    have hq:j / k < ys.length:=Nat.div_lt_of_lt_mul (by rw [Nat.mul_comm];exact hjl)
    have hm:j % k < k:=Nat.mod_lt _ hsz
    have ha:(⟨b,oo,none⟩:Addr).add j=⟨b,oo+j,none⟩:=by unfold Addr.add;split <;> simp_all
    have hj2:j=j / k*k+j % k:=by rw [Nat.mul_comm];exact (Nat.div_add_mod j k).symm
    have hg:=flat_get hk ys (j / k) _ (List.getElem?_eq_getElem hq) (j % k) hm
    rw [← hj2,hj] at hg
    have hadd:(⟨b,oo,none⟩:Addr).add j=⟨b,oo+j / k*k+j % k,none⟩:=by
     rw [ha,Nat.add_assoc,← hj2]
    rw [hadd]
    exact hcell (j / k) _ (List.getElem?_eq_getElem hq) (j % k) u hg.symm
  refine wpList_append_own w hgd s x t ho base e i z k bytes ht hi hz hsize hby hzs hsz v n xs hs hown ad ys.length cap (ys.flatMap enc) hx (flat_len hk ys) hcells (fun u hu=>by
   obtain ⟨y,_,hu⟩:=List.mem_flatMap.1 hu
   exact h1 y u hu) (by simp only [maxLen];omega) hn hbase ?_
  intro v' w' hown' hgrow _
  exact h v' w' hown' hgrow ((Below.refl base w).grown hgrow hbase (fun k hk=>(hown.lt k hk).1))
end
inductive Lk where
 | int
 | u64
 | bool
 | str
deriving DecidableEq
inductive K where
 | lit (k:Lk)
 | sl (e:List K) (bytes:Nat)
inductive D where
 | lit (v:Value)
 | sl (xs:List (List D))
instance:Inhabited D:=⟨.sl []⟩
def isLit:Lk→Value→Prop
 | .int,v=>∃ n,v=.int .i64 n
 | .u64,v=>∃ n,v=.int .u64 n
 | .bool,v=>∃ b,v=.bool b
 | .str,v=>∃ s,v=.string s
mutual
inductive RdC (F:Nat→Prop) (L:Nat) (w:World):K→Value→D→Prop
 | lit {k:Lk} {v:Value}:isLit k v→RdC F L w (.lit k) v (.lit v)
 | slNil {e:List K} {by_:Nat} {ao:Option Addr} {cap:Nat}:(ao=none→cap=0)→RdC F L w (.sl e by_) (.slice ao 0 cap) (.sl [])
 | slSome {e:List K} {by_ b o cap n:Nat} {xs:List (List D)}:n=xs.length→n≤cap→n*by_≤L→F b→b < w.heap.size→RdE F L w e b o xs→RdC F L w (.sl e by_) (.slice (some ⟨b,o,none⟩) n cap) (.sl xs)
inductive RdL (F:Nat→Prop) (L:Nat) (w:World):List K→List Value→List D→Prop
 | nil:RdL F L w [] [] []
 | cons {k:K} {v:Value} {d:D} {ks:List K} {vs:List Value} {ds:List D}:RdC F L w k v d→RdL F L w ks vs ds→RdL F L w (k :: ks) (v :: vs) (d :: ds)
inductive RdE (F:Nat→Prop) (L:Nat) (w:World):List K→Nat→Nat→List (List D)→Prop
 | nil {e:List K} {b o:Nat}:RdE F L w e b o []
 | cons {e:List K} {b o:Nat} {vs:List Value} {ds:List D} {xs:List (List D)}:(∀ (i:Nat) u,vs[i]? = some u→w.cell? ⟨b,o+i,none⟩=some u)→RdL F L w e vs ds→RdE F L w e b (o+e.length) xs→RdE F L w e b o (ds :: xs)
end
theorem RdC.frame {F G:Nat→Prop} {L M:Nat} {w w':World} (hLM:L≤M) (hs:w.heap.size≤w'.heap.size) (hb:∀ b,F b→b < w.heap.size→w'.heap[b]? = w.heap[b]?) (hFG:∀ b,F b→b < w.heap.size→G b) {k:K} {v:Value} {d:D} (h:RdC F L w k v d):RdC G M w' k v d:=by
 refine RdC.rec (motive_1:=fun k v d _=>RdC G M w' k v d) (motive_2:=fun ks vs ds _=>RdL G M w' ks vs ds) (motive_3:=fun e b o xs _=>F b→b < w.heap.size→RdE G M w' e b o xs) ?_ ?_ ?_ ?_ ?_ ?_ ?_ h
 ·exact fun hl=>.lit hl
 ·exact fun hc=>.slNil hc
 ·exact fun h1 h2 h5 h3 h4 _ ih=>.slSome h1 h2 (Nat.le_trans h5 hLM) (hFG _ h3 h4) (Nat.lt_of_lt_of_le h4 hs) (ih h3 h4)
 ·exact .nil
 ·exact fun _ _ ih1 ih2=>.cons ih1 ih2
 ·exact fun _ _=>.nil
 ·exact fun hc _ _ ih1 ih2 hF hlt=>.cons (fun i u hu=>(World.cell?_of_block (a:=⟨_,_,none⟩) (hb _ hF hlt)).trans (hc i u hu)) ih1 (ih2 hF hlt)
theorem RdL.frame {F G:Nat→Prop} {L M:Nat} {w w':World} (hLM:L≤M) (hs:w.heap.size≤w'.heap.size) (hb:∀ b,F b→b < w.heap.size→w'.heap[b]? = w.heap[b]?) (hFG:∀ b,F b→b < w.heap.size→G b):∀ {ks:List K} {vs:List Value} {ds:List D},RdL F L w ks vs ds→RdL G M w' ks vs ds
 | _,_,_,.nil=>.nil
 | _,_,_,.cons h1 h2=>.cons (h1.frame hLM hs hb hFG) (RdL.frame hLM hs hb hFG h2)
theorem RdE.mk {F:Nat→Prop} {L:Nat} {w:World} {e:List K} {b:Nat}:∀ (xs:List (List D)) (o:Nat),(∀ (j:Nat) ds,xs[j]? = some ds→∃ vs,(∀ (i:Nat) u,vs[i]? = some u→w.cell? ⟨b,o+j*e.length+i,none⟩=some u)∧RdL F L w e vs ds)→RdE F L w e b o xs
 | [],_,_=>.nil
 | ds :: xs,o,h=>by
  obtain ⟨vs,h1,h2⟩:=h 0 ds rfl
  refine .cons (fun i u hu=>by have:=h1 i u hu;rwa [Nat.zero_mul,Nat.add_zero] at this) h2 (RdE.mk xs (o+e.length) fun j ds' hj=>?_)
  obtain ⟨vs',h3,h4⟩:=h (j+1) ds' hj
  refine ⟨vs',fun i u hu=>?_,h4⟩
  have:=h3 i u hu
  rwa [show o+(j+1)*e.length+i=o+e.length+j*e.length+i by rw [Nat.add_mul];omega] at this
theorem RdL.append {F:Nat→Prop} {L:Nat} {w:World}:∀ {ks:List K} {vs:List Value} {ds:List D} {ks':List K} {vs':List Value} {ds':List D},RdL F L w ks vs ds→RdL F L w ks' vs' ds'→RdL F L w (ks++ks') (vs++vs') (ds++ds')
 | _,_,_,_,_,_,.nil,h=>h
 | _,_,_,_,_,_,.cons h1 h2,h=>.cons h1 (RdL.append h2 h)
def fidx {α:Type} (p:α→Bool) (xs:List α):Int:=match xs.findIdx? p with
 | some i=>i
 | none=>-1
theorem fidx_hit {α:Type} (p:α→Bool) (xs:List α) (k:Nat) (hk:k < xs.length) (hp:p xs[k]=true) (h:∀ j (hj:j < xs.length),j < k→p xs[j]=false):fidx p xs=k:=by
 unfold fidx
 rw [List.findIdx?_eq_some_iff_getElem.2 ⟨hk,hp,fun j hj=>by rw [h j (by omega) hj];simp⟩]
theorem fidx_miss {α:Type} (p:α→Bool) (xs:List α) (h:∀ j (hj:j < xs.length),p xs[j]=false):fidx p xs = -1:=by
 unfold fidx
 rw [List.findIdx?_eq_none_iff.2 fun x hx=>by
  obtain ⟨j,hj,rfl⟩:=List.getElem_of_mem hx
  rw [h j hj]]
end Cg
end
section
namespace Cg
open Go Go.RowKit Go.Sort Go.Lib Go.ChangeShapes Go.WideShapes Go.Deep
section
def fieldsShape (f:TypeId→Option (List K)) (P:Program):Nat→List Field→Option (List K)
 | _,[]=>some []
 | o,x :: xs=>match f x.type with
  | none=>none
  | some ks=>if x.offset=o∧P.cellsOf x.type=ks.length then (fieldsShape f P (o+ks.length) xs).map (ks++·) else none
def shapeOf (P:Program):Nat→TypeId→Option (List K)
 | 0,_=>none
 | n+1,t=>match P.underlying t with
  | some .bool=>some [.lit .bool]
  | some .string=>some [.lit .str]
  | some (.int .i64)=>some [.lit .int]
  | some (.int .u64)=>some [.lit .u64]
  | some (.slice e)=>match shapeOf P n e with
   | none=>none
   | some ks=>if P.cellsOf e=ks.length∧0 < ks.length then some [.sl ks (P.bytesOf e)] else none
  | some (.array m e)=>match shapeOf P n e with
   | none=>none
   | some ks=>if P.cellsOf e=ks.length∧P.cellsOf t=m*ks.length then some (List.replicate m ks).flatten else none
  | some (.struct fs)=>match fieldsShape (shapeOf P n) P 0 fs.toList with
   | none=>none
   | some ks=>if P.cellsOf t=ks.length then some ks else none
  | _=>none
variable {H:Type} {enc:TypeId × Value→H} {P:Program} {w:World} {base:Nat} {spare:Nat→Bool} {held:Bool}
abbrev Rd (w:World):=RdL (fun _=>True) reachBytes w
def wok (P:Program) (t:TypeId) (d:DataW H):Prop:=(DataW.weights P t d).all (·≤reachBytes)=true
theorem wok_all {e:TypeId}:∀ {l:List (DataW H)},(DataW.weightsAll P e l).all (·≤reachBytes)=true→∀ d∈l,wok P e d
 | [],_,_,hd=>by cases hd
 | x :: l,h,d,hd=>by
  rw [DataW.weightsAll,List.all_append,Bool.and_eq_true] at h
  rcases List.mem_cons.1 hd with rfl|hd
  ·exact h.1
  ·exact wok_all h.2 d hd
theorem wok_each:∀ {ts:List TypeId} {l:List (DataW H)},(DataW.weightsEach P ts l).all (·≤reachBytes)=true→∀ (i:Nat) t d,ts[i]? = some t→l[i]? = some d→wok P t d
 | [],_,_,_,_,_,ht,_=>by simp at ht
 | _ :: _,[],_,_,_,_,_,hd=>by simp at hd
 | t0 :: ts,x :: l,h,0,t,d,ht,hd=>by
  rw [DataW.weightsEach,List.all_append,Bool.and_eq_true] at h
  obtain rfl:=Option.some.inj ht
  obtain rfl:=Option.some.inj hd
  exact h.1
 | t0 :: ts,x :: l,h,i+1,t,d,ht,hd=>by
  rw [DataW.weightsEach,List.all_append,Bool.and_eq_true] at h
  exact wok_each h.2 i t d ht hd
theorem rd_fields {f:TypeId→Option (List K)} {m:Nat} (cs:List Value) (hf:∀ t ks us (y:DataW H × List MemPlace),f t=some ks→DataW.trod enc P w base spare held m t us=some y→wok P t y.1→∃ ds,Rd w ks us ds) :
  ∀ (fs:List Field) (o:Nat) (ks:List K),fieldsShape f P o fs=some ks→(∀ x∈fs,∃ y,DataW.trod enc P w base spare held m x.type ((cs.drop x.offset).take (P.cellsOf x.type))=some y∧wok P x.type y.1)→∃ ds,Rd w ks ((cs.drop o).take ks.length) ds
 | [],o,ks,h,_=>by
  obtain rfl:=Option.some.inj h
  exact ⟨[],by rw [List.length_nil,List.take_zero];exact .nil⟩
 | x :: xs,o,ks,h,hx=>by
  rw [fieldsShape] at h
  cases e:f x.type with
  | none=>rw [e] at h;cases h
  | some k1=>
   rw [e] at h
   simp only at h
   by_cases hc:x.offset=o∧P.cellsOf x.type=k1.length
   ·rw [if_pos hc] at h
    cases e2:fieldsShape f P (o+k1.length) xs with
    | none=>rw [e2] at h;cases h
    | some k2=>
     rw [e2] at h
     obtain rfl:=Option.some.inj h
     obtain ⟨y,hy,hwy⟩:=hx x List.mem_cons_self
     rw [hc.1,hc.2] at hy
     obtain ⟨d1,h1⟩:=hf _ _ _ _ e hy hwy
     obtain ⟨d2,h2⟩:=rd_fields cs hf xs _ k2 e2 (fun z hz=>hx z (List.mem_cons_of_mem _ hz))
     refine ⟨d1++d2,?_⟩
     rw [List.length_append,List.take_add,List.drop_drop]
     exact h1.append h2
   ·rw [if_neg hc] at h;cases h
theorem rd_rep {m k:Nat} {e:TypeId} {ks:List K} (cs:List Value) (hk:ks.length=k) (hf:∀ us (y:DataW H × List MemPlace),DataW.trod enc P w base spare held m e us=some y→wok P e y.1→∃ ds,Rd w ks us ds) :
  ∀ (n i:Nat),(∀ j,i≤j→j < i+n→∃ y,DataW.trod enc P w base spare held m e ((cs.drop (j*k)).take k)=some y∧wok P e y.1)→∃ ds,Rd w (List.replicate n ks).flatten ((cs.drop (i*k)).take (n*k)) ds
 | 0,i,_=>⟨[],by rw [Nat.zero_mul,List.take_zero];exact .nil⟩
 | n+1,i,h=>by
  obtain ⟨y,hy,hwy⟩:=h i (Nat.le_refl _) (by omega)
  obtain ⟨d1,h1⟩:=hf _ _ hy hwy
  obtain ⟨d2,h2⟩:=rd_rep cs hk hf n (i+1) (fun j h1 h2=>h j (by omega) (by omega))
  refine ⟨d1++d2,?_⟩
  rw [List.replicate_succ,List.flatten_cons,Nat.add_mul,Nat.one_mul,Nat.add_comm (n*k) k,List.take_add,List.drop_drop]
  rw [Nat.add_mul,Nat.one_mul] at h2
  exact h1.append h2
theorem rd_of:∀ (n:Nat) (t:TypeId) (ks:List K),shapeOf P n t=some ks→∀ (fuel:Nat) (cs:List Value) (x:DataW H × List MemPlace),DataW.trod enc P w base spare held fuel t cs=some x→wok P t x.1→∃ ds,Rd w ks cs ds
 | 0,_,_,h,_,_,_,_,_=>by cases h
 | n+1,t,ks,h,fuel,cs,x,ht,hw=>by
  rw [shapeOf] at h
  split at h
  ·rename_i hu
   obtain rfl:=Option.some.inj h
   obtain ⟨b,rfl,_⟩:=DataW.trod_bool hu ht
   exact ⟨_,.cons (.lit ⟨b,rfl⟩) .nil⟩
  ·rename_i hu
   obtain rfl:=Option.some.inj h
   obtain ⟨s,rfl,_⟩:=DataW.trod_string hu ht
   exact ⟨_,.cons (.lit ⟨s,rfl⟩) .nil⟩
  ·rename_i hu
   obtain rfl:=Option.some.inj h
   obtain ⟨z,rfl,_⟩:=DataW.trod_int hu ht
   exact ⟨_,.cons (.lit ⟨z,rfl⟩) .nil⟩
  ·rename_i hu
   obtain rfl:=Option.some.inj h
   obtain ⟨z,rfl,_⟩:=DataW.trod_int hu ht
   exact ⟨_,.cons (.lit ⟨z,rfl⟩) .nil⟩
  ·rename_i e hu
   cases he:shapeOf P n e with
   | none=>rw [he] at h;cases h
   | some k1=>
    rw [he] at h
    simp only at h
    by_cases hc:P.cellsOf e=k1.length∧0 < k1.length
    ·rw [if_pos hc] at h
     obtain rfl:=Option.some.inj h
     rcases open_slice hu ht with ⟨rfl,_⟩|⟨a,len,cap,m,q,Da,Pl,rfl,_,hlc,_,hm,rfl,hi⟩
     ·exact ⟨[.sl []],.cons (.slNil (fun _=>rfl)) .nil⟩
     ·have hlm:len≤m:=by rw [hm];split <;> omega
      rw [hc.1] at hi
      unfold wok at hw
      rw [DataW.weights,hu] at hw
      simp only [List.all_cons,List.all_append,Bool.and_eq_true,decide_eq_true_eq,Lm,List.length_range] at hw
      have hby:len*P.bytesOf e≤reachBytes:=Nat.le_trans (Nat.mul_le_mul_right _ (by omega)) hw.1
      have hr:∀ i,i < len→∃ p:List Value × List D,(∀ j,j < k1.length→w.cell? ((a.add (i*k1.length)).add j)=p.1[j]?)∧p.1.length=k1.length∧Rd w k1 p.1 p.2:=fun i hil=>by
       obtain ⟨cs',h1,h2⟩:=hi i (by omega)
       obtain ⟨ds,hd⟩:=rd_of n e k1 he _ _ _ h2 (wok_all hw.2.1 _ (List.mem_map.2 ⟨i,List.mem_range.2 hil,rfl⟩))
       obtain ⟨_,hl,hcell⟩:=World.cells?_some h1
       exact ⟨(cs',ds),hcell,hl,hd⟩
      obtain ⟨f,hf⟩:=choose_lt hr
      by_cases h0:len=0
      ·subst h0
       exact ⟨[.sl []],.cons (.slNil (fun e=>by cases e)) .nil⟩
      ·have hcell0:∃ u,w.cell? a=some u:=by
        obtain ⟨h1,h2,_⟩:=hf 0 (by omega)
        have:=h1 0 hc.2
        rw [show (a.add (0*k1.length)).add 0=a by simp [Addr.add],List.getElem?_eq_getElem (by omega)] at this
        exact ⟨_,this⟩
       obtain ⟨u0,hu0⟩:=hcell0
       obtain ⟨b,o,sp⟩:=a
       have hsp:sp=none:=by simpa using World.cell?_spot hu0
       subst hsp
       refine ⟨[.sl ((List.range len).map fun i=>(f i).2)],.cons (.slSome (by simp) hlc hby trivial (block_lt_of_cell hu0) (RdE.mk _ _ fun j ds hj=>?_)) .nil⟩
       have hjl:j < len:=by
        have:=(List.getElem?_eq_some_iff.1 hj).1
        simpa using this
       rw [List.getElem?_map,List.getElem?_range hjl] at hj
       obtain rfl:(f j).2=ds:=by simpa using hj
       obtain ⟨h1,h2,h3⟩:=hf j hjl
       refine ⟨(f j).1,fun i u hu=>?_,h3⟩
       have hik:i < k1.length:=by
        have:=(List.getElem?_eq_some_iff.1 hu).1
        omega
       have:=h1 i hik
       rw [Addr.add_lit,Addr.add_lit] at this
       rw [this,hu]
    ·rw [if_neg hc] at h;cases h
  ·rename_i m e hu
   cases he:shapeOf P n e with
   | none=>rw [he] at h;cases h
   | some k1=>
    rw [he] at h
    simp only at h
    by_cases hc:P.cellsOf e=k1.length∧P.cellsOf t=m*k1.length
    ·rw [if_pos hc] at h
     obtain rfl:=Option.some.inj h
     obtain ⟨xs,q,_,rfl,hl,hxl,hi⟩:=DataW.trod_array hu ht
     rw [hc.1] at hi
     unfold wok at hw
     rw [DataW.weights,hu] at hw
     simp only at hw
     obtain ⟨ds,hd⟩:=rd_rep (P:=P) (enc:=enc) (base:=base) (spare:=spare) (held:=held) (m:=q) (e:=e) cs rfl (fun us y hy hwy=>rd_of n e k1 he _ _ _ hy hwy) m 0 (fun j _ hj=>⟨xs[j]'(by omega),by rw [hi j (by omega),List.getElem?_eq_getElem (by omega)],wok_all hw _ (List.mem_map.2 ⟨_,List.getElem_mem _,rfl⟩)⟩)
     refine ⟨ds,?_⟩
     rw [Nat.zero_mul,List.drop_zero,List.take_of_length_le (by rw [hl,hc.2];exact Nat.le_refl _)] at hd
     exact hd
    ·rw [if_neg hc] at h;cases h
  ·rename_i fs hu
   cases he:fieldsShape (shapeOf P n) P 0 fs.toList with
   | none=>rw [he] at h;cases h
   | some k1=>
    rw [he] at h
    simp only at h
    by_cases hc:P.cellsOf t=k1.length
    ·rw [if_pos hc] at h
     obtain rfl:=Option.some.inj h
     obtain ⟨xs,q,_,rfl,hl,hxl,hi⟩:=DataW.trod_struct hu ht
     unfold wok at hw
     rw [DataW.weights,hu] at hw
     simp only at hw
     obtain ⟨ds,hd⟩:=rd_fields (P:=P) (enc:=enc) (base:=base) (spare:=spare) (held:=held) (m:=q) cs (fun t ks us y h1 h2 h3=>rd_of n t ks h1 _ _ _ h2 h3) fs.toList 0 _ he (fun z hz=>by
      obtain ⟨i,hil,rfl⟩:=List.getElem_of_mem hz
      rw [Array.length_toList] at hil
      have hg:fs[i]? = some fs.toList[i]:=by rw [Array.getElem?_eq_getElem hil];rfl
      exact ⟨xs[i]'(by omega),by rw [hi i _ hg,List.getElem?_eq_getElem (by omega)],wok_each hw i _ _ (by rw [List.getElem?_map,List.getElem?_eq_getElem (by rw [Array.length_toList];exact hil)];rfl) (by rw [List.getElem?_map,List.getElem?_eq_getElem (by omega)];rfl)⟩)
     refine ⟨ds,?_⟩
     rw [List.drop_zero,List.take_of_length_le (by rw [hl,hc];exact Nat.le_refl _)] at hd
     exact hd
    ·rw [if_neg hc] at h;cases h
  ·cases h
end
end Cg
end
section
namespace Cg
open Go Go.RowKit Go.Sort Go.Lib
section
def eqFieldsShape (f:TypeId→Option (List K)) (P:Program):Nat→List Field→Option (List K)
 | _,[]=>some []
 | o,x :: xs=>match f x.type with
  | none=>none
  | some ks => if x.offset = o ∧ P.cellsOf x.type = ks.length ∧ x.name ≠ "_" ∧ 0 < ks.length then (eqFieldsShape f P (o + ks.length) xs).map (ks ++ ·) else none
def eqShape (P:Program):Nat→TypeId→Option (List K)
 | 0,_=>none
 | n+1,t=>match P.underlying t with
  | some .bool=>some [.lit .bool]
  | some .string=>some [.lit .str]
  | some (.int .i64)=>some [.lit .int]
  | some (.int .u64)=>some [.lit .u64]
  | some (.array m e)=>match eqShape P n e with
   | none=>none
   | some ks=>if P.cellsOf e=ks.length∧0 < ks.length then some (List.replicate m ks).flatten else none
  | some (.struct fs)=>if P.stoodInHeld t then none else eqFieldsShape (eqShape P n) P 0 fs.toList
  | _=>none
inductive Lits:List K→List Value→Prop
 | nil:Lits [] []
 | cons {k:Lk} {v:Value} {ks:List K} {vs:List Value}:isLit k v→Lits ks vs→Lits (.lit k :: ks) (v :: vs)
theorem Lits.len:∀ {ks:List K} {vs:List Value},Lits ks vs→vs.length=ks.length
 | _,_,.nil=>rfl
 | _,_,.cons _ h=>by simp [Lits.len h]
theorem Lits.split:∀ {ks ks':List K} {vs:List Value},Lits (ks++ks') vs→Lits ks (vs.take ks.length)∧Lits ks' (vs.drop ks.length)
 | [],_,_,h=>⟨.nil,h⟩
 | _ :: ks,ks',_,.cons h1 h2=>⟨.cons h1 (Lits.split h2).1,(Lits.split (ks:=ks) h2).2⟩
def lkEq:Value→Value→Bool
 | .int _ a,.int _ b=>a==b
 | .bool a,.bool b=>a==b
 | .string a,.string b=>a.toList==b.toList
 | _,_=>false
def lksEq:List Value→List Value→Bool
 | [],[]=>true
 | x :: xs,y :: ys=>lkEq x y&&lksEq xs ys
 | _,_=>false
theorem lkEq_iff {k:Lk} {x y:Value} (hx:isLit k x) (hy:isLit k y):lkEq x y=true↔x=y:=by
 cases k <;> obtain ⟨a,rfl⟩:=hx <;> obtain ⟨b,rfl⟩:=hy <;> simp [lkEq,ByteArray.toList_eq,ByteArray.ext_iff]
theorem lksEq_append:∀ {xs ys xs' ys':List Value},xs.length=ys.length→lksEq (xs++xs') (ys++ys')=(lksEq xs ys&&lksEq xs' ys')
 | [],[],_,_,_=>by simp [lksEq]
 | x :: xs,y :: ys,_,_,h=>by
  have h:xs.length=ys.length:=by simpa using h
  rw [List.cons_append,List.cons_append,lksEq,lksEq,lksEq_append h,Bool.and_assoc]
 | [],_ :: _,_,_,h=>by simp at h
 | _ :: _,[],_,_,h=>by simp at h
def isAggB (P:Program) (t:TypeId):Bool:=match P.underlying t with
 | some (.struct _) | some (.array _ _)=>true
 | _=>false
def Rep (P:Program) (t:TypeId) (xs:List Value) (v:Value):Prop:=if isAggB P t=true then v=.agg xs.toArray else xs=[v]
variable {P:Program}
theorem eqShape_len:∀ (n:Nat) (t:TypeId) (ks:List K),eqShape P n t=some ks→isAggB P t=false→ks.length=1
 | 0,_,_,h,_=>by cases h
 | n+1,t,ks,h,ha=>by
  rw [eqShape] at h
  unfold isAggB at ha
  split at h
  ·cases h;rfl
  ·cases h;rfl
  ·cases h;rfl
  ·cases h;rfl
  ·rename_i hu;rw [hu] at ha;cases ha
  ·rename_i hu;rw [hu] at ha;cases ha
  ·cases h
theorem part_rep {n:Nat} {t:TypeId} {ks:List K} (hs:eqShape P n t=some ks) (hk:P.cellsOf t=ks.length) (w:World) (xs:List Value) (o:Nat) (ho:o+ks.length≤xs.length) :
  ∃ v,(part t xs.toArray o).run P w=.ok v w∧Rep P t ((xs.drop o).take ks.length) v:=by
 have hu:∃ d,P.underlying t=some d:=by
  cases n with
  | zero=>cases hs
  | succ n=>
   rw [eqShape] at hs
   cases hu:P.underlying t with
   | none=>rw [hu] at hs;cases hs
   | some d=>exact ⟨d,rfl⟩
 obtain ⟨d,hu⟩:=hu
 obtain ⟨i,hi⟩:=info_of_underlying hu
 cases ha:isAggB P t with
 | false=>
  have h1:=eqShape_len n t ks hs ha
  have hx:xs[o]? = some (xs[o]'(by omega)):=List.getElem?_eq_getElem _
  refine ⟨xs[o]'(by omega),?_,?_⟩
  ·unfold isAggB at ha
   rw [hu] at ha
   cases d <;> simp [part,isAgg,run_underlying hu,hx] <;> simp at ha
  ·unfold Rep
   rw [if_neg (by rw [ha];simp),h1,List.drop_eq_getElem_cons (by omega)]
   rfl
 | true=>
  refine ⟨.agg (xs.toArray.extract o (o+P.cellsOf t)),?_,?_⟩
  ·unfold isAggB at ha
   rw [hu] at ha
   cases d <;> simp [part,isAgg,run_underlying hu,run_sizeOf w hi] at ha ⊢
  ·unfold Rep
   rw [if_pos ha,hk]
   congr 1
   apply Array.toList_inj.1
   rw [Array.toList_extract]
   simp [List.extract]
theorem eq_fields {f:TypeId→Option (List K)} {d n:Nat} (hf:∀ t ks,f t=some ks→eqShape P n t=some ks) (IH:∀ t ks,eqShape P n t=some ks→∀ (w:World) (xs ys:List Value),Lits ks xs→Lits ks ys→∀ x y,Rep P t xs x→Rep P t ys y→(Op.equalIn d t x y).run P w=.ok (lksEq xs ys) w) (w:World) (xs ys:List Value) :
  ∀ (fs:List Field) (o:Nat) (ks:List K),eqFieldsShape f P o fs=some ks→Lits ks (xs.drop o)→Lits ks (ys.drop o)→(Op.eqFields d xs.toArray ys.toArray fs).run P w=.ok (lksEq (xs.drop o) (ys.drop o)) w
 | [],o,ks,h,hx,hy=>by
  rw [eqFieldsShape] at h
  cases h
  have e1:xs.drop o=[]:=List.eq_nil_of_length_eq_zero hx.len
  have e2:ys.drop o=[]:=List.eq_nil_of_length_eq_zero hy.len
  rw [e1,e2]
  rfl
 | x :: fs,o,ks,h,hx,hy=>by
  rw [eqFieldsShape] at h
  cases e:f x.type with
  | none=>rw [e] at h;cases h
  | some k1=>
   rw [e] at h
   simp only at h
   split at h
   ·rename_i hc
    cases e2:eqFieldsShape f P (o+k1.length) fs with
    | none=>rw [e2] at h;cases h
    | some k2=>
     rw [e2] at h
     obtain rfl:=Option.some.inj h
     have sx:=hx.split
     have sy:=hy.split
     rw [List.drop_drop] at sx sy
     have lx:=hx.len
     have ly:=hy.len
     rw [List.length_append,List.length_drop] at lx ly
     have ih:=eq_fields hf IH w xs ys fs (o+k1.length) k2 e2 sx.2 sy.2
     obtain ⟨v,hv,rv⟩:=part_rep (hf _ _ e) hc.2.1 w xs o (by omega)
     obtain ⟨u,hu,ru⟩:=part_rep (hf _ _ e) hc.2.1 w ys o (by omega)
     have heq:=IH _ _ (hf _ _ e) w _ _ sx.1 sy.1 v u rv ru
     have ex:xs.drop o=(xs.drop o).take k1.length++xs.drop (o+k1.length):=by rw [← List.drop_drop,List.take_append_drop]
     have ey:ys.drop o=(ys.drop o).take k1.length++ys.drop (o+k1.length):=by rw [← List.drop_drop,List.take_append_drop]
     have es:lksEq (xs.drop o) (ys.drop o)=(lksEq ((xs.drop o).take k1.length) ((ys.drop o).take k1.length)&&lksEq (xs.drop (o+k1.length)) (ys.drop (o+k1.length))):=by
      conv=>lhs;rw [ex,ey]
      exact lksEq_append (by rw [List.length_take,List.length_take,List.length_drop,List.length_drop];omega)
     rw [es]
     simp only [Op.eqFields,hc.2.2.1,ne_eq,not_false_eq_true,if_true,Sem.run_bind,hc.1,hv,hu,Result.andThen_ok,heq]
     cases hq:lksEq ((xs.drop o).take k1.length) ((ys.drop o).take k1.length)
     ·simp
     ·simpa using ih
   ·cases h
theorem eq_items {d n:Nat} {e:TypeId} {k1:List K} (he:eqShape P n e=some k1) (hk:P.cellsOf e=k1.length) (hp:0 < k1.length) (IH:∀ (w:World) (xs ys:List Value),Lits k1 xs→Lits k1 ys→∀ x y,Rep P e xs x→Rep P e ys y→(Op.equalIn d e x y).run P w=.ok (lksEq xs ys) w) (w:World) (xs ys:List Value) :
  ∀ (m i:Nat),Lits (List.replicate m k1).flatten (xs.drop (i*k1.length))→Lits (List.replicate m k1).flatten (ys.drop (i*k1.length))→(Op.eqItems d e (P.cellsOf e) xs.toArray ys.toArray (List.range' i m)).run P w=.ok (lksEq (xs.drop (i*k1.length)) (ys.drop (i*k1.length))) w
 | 0,i,hx,hy=>by
  have e1:=List.eq_nil_of_length_eq_zero hx.len
  have e2:=List.eq_nil_of_length_eq_zero hy.len
  rw [e1,e2]
  rfl
 | m+1,i,hx,hy=>by
  rw [List.replicate_succ,List.flatten_cons] at hx hy
  have sx:=hx.split
  have sy:=hy.split
  have lx:=hx.len
  have ly:=hy.len
  rw [List.drop_drop] at sx sy
  rw [List.length_append,List.length_drop] at lx ly
  have ei:i*k1.length+k1.length=(i+1)*k1.length:=by rw [Nat.add_mul];omega
  rw [ei] at sx sy
  have ih:=eq_items he hk hp IH w xs ys m (i+1) sx.2 sy.2
  obtain ⟨v,hv,rv⟩:=part_rep he hk w xs (i*k1.length) (by omega)
  obtain ⟨u,hu,ru⟩:=part_rep he hk w ys (i*k1.length) (by omega)
  have heq:=IH w _ _ sx.1 sy.1 v u rv ru
  have ex:xs.drop (i*k1.length)=(xs.drop (i*k1.length)).take k1.length++xs.drop ((i+1)*k1.length):=by rw [← ei,← List.drop_drop,List.take_append_drop]
  have ey:ys.drop (i*k1.length)=(ys.drop (i*k1.length)).take k1.length++ys.drop ((i+1)*k1.length):=by rw [← ei,← List.drop_drop,List.take_append_drop]
  have es:lksEq (xs.drop (i*k1.length)) (ys.drop (i*k1.length))=(lksEq ((xs.drop (i*k1.length)).take k1.length) ((ys.drop (i*k1.length)).take k1.length)&&lksEq (xs.drop ((i+1)*k1.length)) (ys.drop ((i+1)*k1.length))):=by
   conv=>lhs;rw [ex,ey]
   exact lksEq_append (by rw [List.length_take,List.length_take,List.length_drop,List.length_drop];omega)
  rw [es,List.range'_succ]
  rw [← hk] at hv hu
  simp only [Op.eqItems,Sem.run_bind,hv,hu,Result.andThen_ok,heq]
  cases hq:lksEq ((xs.drop (i*k1.length)).take k1.length) ((ys.drop (i*k1.length)).take k1.length)
  ·simp
  ·simpa using ih
theorem rep_one {t:TypeId} {xs:List Value} {v:Value} (ha:isAggB P t=false) (h:Rep P t xs v):xs=[v]:=by
 unfold Rep at h
 rwa [if_neg (by rw [ha];simp)] at h
theorem rep_agg {t:TypeId} {xs:List Value} {v:Value} (ha:isAggB P t=true) (h:Rep P t xs v):v=.agg xs.toArray:=by
 unfold Rep at h
 rwa [if_pos ha] at h
theorem eq_deep:∀ (n:Nat) (t:TypeId) (ks:List K),eqShape P n t=some ks→∀ (d:Nat),n≤d→∀ (w:World) (xs ys:List Value),Lits ks xs→Lits ks ys→∀ x y,Rep P t xs x→Rep P t ys y→(Op.equalIn d t x y).run P w=.ok (lksEq xs ys) w
 | 0,_,_,h,_,_,_,_,_,_,_,_,_,_,_=>by cases h
 | n+1,t,ks,h,0,hd,_,_,_,_,_,_,_,_,_=>by omega
 | n+1,t,ks,h,d+1,hd,w,xs,ys,hx,hy,x,y,rx,ry=>by
  rw [eqShape] at h
  split at h
  ·rename_i hu
   have ha:isAggB P t=false:=by unfold isAggB;rw [hu]
   cases h
   obtain rfl:=rep_one ha rx
   obtain rfl:=rep_one ha ry
   obtain ⟨⟨a,rfl⟩,_⟩:isLit .bool x∧True:=by cases hx with|cons h _=>exact ⟨h,trivial⟩
   obtain ⟨⟨b,rfl⟩,_⟩:isLit .bool y∧True:=by cases hy with|cons h _=>exact ⟨h,trivial⟩
   rw [run_equalIn_bool w d t a b hu]
   simp [lksEq,lkEq]
  ·rename_i hu
   have ha:isAggB P t=false:=by unfold isAggB;rw [hu]
   cases h
   obtain rfl:=rep_one ha rx
   obtain rfl:=rep_one ha ry
   obtain ⟨⟨a,rfl⟩,_⟩:isLit .str x∧True:=by cases hx with|cons h _=>exact ⟨h,trivial⟩
   obtain ⟨⟨b,rfl⟩,_⟩:isLit .str y∧True:=by cases hy with|cons h _=>exact ⟨h,trivial⟩
   rw [run_equalIn_string w d t a b hu]
   simp [lksEq,lkEq]
  ·rename_i hu
   have ha:isAggB P t=false:=by unfold isAggB;rw [hu]
   cases h
   obtain rfl:=rep_one ha rx
   obtain rfl:=rep_one ha ry
   obtain ⟨⟨a,rfl⟩,_⟩:isLit .int x∧True:=by cases hx with|cons h _=>exact ⟨h,trivial⟩
   obtain ⟨⟨b,rfl⟩,_⟩:isLit .int y∧True:=by cases hy with|cons h _=>exact ⟨h,trivial⟩
   rw [run_equalIn_int w d t _ _ a b hu]
   simp [lksEq,lkEq]
  ·rename_i hu
   have ha:isAggB P t=false:=by unfold isAggB;rw [hu]
   cases h
   obtain rfl:=rep_one ha rx
   obtain rfl:=rep_one ha ry
   obtain ⟨⟨a,rfl⟩,_⟩:isLit .u64 x∧True:=by cases hx with|cons h _=>exact ⟨h,trivial⟩
   obtain ⟨⟨b,rfl⟩,_⟩:isLit .u64 y∧True:=by cases hy with|cons h _=>exact ⟨h,trivial⟩
   rw [run_equalIn_int w d t _ _ a b hu]
   simp [lksEq,lkEq]
  ·rename_i m e hu
   have ha:isAggB P t=true:=by unfold isAggB;rw [hu]
   obtain rfl:=rep_agg ha rx
   obtain rfl:=rep_agg ha ry
   cases he:eqShape P n e with
   | none=>rw [he] at h;cases h
   | some k1=>
    rw [he] at h
    simp only at h
    split at h
    ·rename_i hc
     obtain rfl:=Option.some.inj h
     have hi:∃ i,P.info? e=some i:=by
      cases n with
      | zero=>cases he
      | succ n=>
       rw [eqShape] at he
       cases hu2:P.underlying e with
       | none=>rw [hu2] at he;cases he
       | some _=>exact info_of_underlying hu2
     obtain ⟨i,hi⟩:=hi
     rw [run_equalIn_array w d _ _ hu hi]
     have:=eq_items he hc.1 hc.2 (fun w xs ys h1 h2 x y r1 r2=>eq_deep n e k1 he d (by omega) w xs ys h1 h2 x y r1 r2) w xs ys m 0 (by simpa using hx) (by simpa using hy)
     rw [List.range_eq_range']
     simpa using this
    ·cases h
  ·rename_i fs hu
   have ha:isAggB P t=true:=by unfold isAggB;rw [hu]
   obtain rfl:=rep_agg ha rx
   obtain rfl:=rep_agg ha ry
   split at h
   ·cases h
   ·rename_i hst
    have hfs:P.fieldsOf t=fs:=by simp [Program.fieldsOf,hu]
    rw [run_equalIn_struct w d t _ _ (by rw [hfs];exact hu) (by simpa using hst),hfs]
    have:=eq_fields (f:=eqShape P n) (d:=d) (n:=n) (fun t ks h=>h) (fun t ks h w xs ys h1 h2 x y r1 r2=>eq_deep n t ks h d (by omega) w xs ys h1 h2 x y r1 r2) w xs ys fs.toList 0 ks h (by simpa using hx) (by simpa using hy)
    simpa using this
  ·cases h
theorem run_eql_sh {n:Nat} {t:TypeId} {ks:List K} (hs:eqShape P n t=some ks) (hn:n≤10000) (ha:isAggB P t=true) (w:World) (xs ys:List Value) (hx:Lits ks xs) (hy:Lits ks ys) :
  (binOp .eql t (.agg xs.toArray) (.agg ys.toArray)).run P w=.ok (.bool (lksEq xs ys)) w:=by
 rw [run_eql_struct,eq_deep n t ks hs 10000 hn w xs ys hx hy _ _ (by unfold Rep;rw [if_pos ha]) (by unfold Rep;rw [if_pos ha])]
 rfl
theorem run_neq_sh {n:Nat} {t:TypeId} {ks:List K} (hs:eqShape P n t=some ks) (hn:n≤10000) (ha:isAggB P t=true) (w:World) (xs ys:List Value) (hx:Lits ks xs) (hy:Lits ks ys) :
  (binOp .neq t (.agg xs.toArray) (.agg ys.toArray)).run P w=.ok (.bool (!lksEq xs ys)) w:=by
 rw [run_neq_struct,eq_deep n t ks hs 10000 hn w xs ys hx hy _ _ (by unfold Rep;rw [if_pos ha]) (by unfold Rep;rw [if_pos ha])]
 rfl
end
abbrev Cl (k:Nat):={vs:List Value // vs.length=k∧∀ u∈vs,u.oneCell'=true}
theorem Cl.len {k:Nat} (x:Cl k):x.1.length=k:=x.2.1
theorem Cl.one {k:Nat} (x:Cl k):∀ u∈x.1,u.oneCell'=true:=x.2.2
abbrev RowC (k:Nat) (w:World) (v:Value) (es:List (Cl k)):=Cg.RowK k Subtype.val w v es
inductive Tr where
 | lit (v:Value)
 | sl (k:Nat) (xs:List (List Tr))
 | mp (xs:List (List Tr))
instance:Inhabited Tr:=⟨.sl 0 []⟩
inductive Ce where
 | t (x:Tr)
 | nil
 | row (τ ver:Nat)
 | bot
instance:Inhabited Ce:=⟨.nil⟩
inductive AV where
 | c (x:Ce)
 | agg (xs:List Ce)
 | ptr (b o:Nat)
 | iptr (xs:List Tr) (o:Nat)
 | eptr (τ ver k i o:Nat)
 | sub (τ ver k i:Nat)
 | nilp
 | tup (vs:List AV)
 | fn (f:Nat) (caps:List (Nat × Nat))
 | fnI (f:Nat) (caps:List (List Tr × Nat))
 | bot
instance:Inhabited AV:=⟨.bot⟩
structure Dp where
 D:List (Nat × Nat × Nat)
 c:Nat
 ln:List (Nat × Nat × Nat × Nat)
structure Row where
 ty:Nat
 k:Nat
 ver:Nat
 xs:List (List Tr)
 dp:Option Dp
abbrev mpD:Dp:=⟨[(0,0,0)],0,[]⟩
def Dp.isM (d:Dp):Bool:=match d.D with
 | (_,_,0) :: _=>true
 | _=>false
def Row.isM (R:Row):Bool:=match R.dp with
 | none=>false
 | some d=>d.isM
abbrev Row.tr (R:Row):Tr:=match R.isM with
 | true=>.mp R.xs
 | false=>.sl R.k R.xs
def Row.shut (R:Row):Bool:=match R.dp with
 | none=>true
 | some ⟨_,_,[]⟩=>true
 | some _=>false
structure St where
 sl:List (Nat × AV)
 bx:List (Nat × List Ce)
 rw:List (Nat × Row)
 nx:Nat
def lk {α:Type}:List (Nat × α)→Nat→Option α
 | [],_=>none
 | (n,x) :: r,m=>bif Nat.beq n m then some x else lk r m
def St.get (st:St) (t:Nat):AV:=match lk st.sl t with
 | some v=>v
 | none=>.bot
def St.put (st:St) (t:Nat) (v:AV):St:=match st with
 | ⟨sl,bx,rw,nx⟩=>⟨(t,v) :: sl,bx,rw,nx⟩
def St.put? (st:St) (t:Option Nat) (v:AV):St:=match t with
 | some t=>st.put t v
 | none=>st
abbrev bi (b:Bool) (A:Prop):Prop:=match b with
 | true=>A
 | false=>False
theorem bi_true (A:Prop):bi true A=A:=rfl
theorem bi_elim {b:Bool} {A:Prop} (h:bi b A):b=true∧A:=by
 cases b with
 | true=>exact ⟨rfl,h⟩
 | false=>exact h.elim
def Row.like (R R':Row):Prop:=bi R.shut (match R.dp,R'.dp with
 | none,none=>R.xs=R'.xs
 | some d,some d'=>d=d'∧R.xs=R'.xs
 | _,_=>False)
theorem Row.like.to {R R':Row} (h:R.like R'):R.xs=R'.xs∧R.dp=R'.dp∧R.shut=true:=by
 obtain ⟨h1,h2⟩:=bi_elim h
 split at h2
 ·rename_i e1 e2
  exact ⟨h2,e1.trans e2.symm,h1⟩
 ·rename_i d d' e1 e2
  obtain ⟨rfl,h2⟩:=h2
  exact ⟨h2,e1.trans e2.symm,h1⟩
 ·exact h2.elim
theorem lN {ty k ver ty' k' ver':Nat} {xs xs':List (List Tr)} (h:xs=xs'):Row.like ⟨ty,k,ver,xs,none⟩ ⟨ty',k',ver',xs',none⟩:=h
theorem bS {ty k ver:Nat} {xs:List (List Tr)} {A:Prop} (h:A):bi (Row.shut ⟨ty,k,ver,xs,none⟩) A:=h
structure Dl where
 v:AV
 bs:List (Nat × List Ce)
 rs:List (Nat × Row)
def Dl.val (v:AV):Dl:=⟨v,[],[]⟩
def St.app (st:St) (t:Option Nat) (d:Dl):St:=match st,d with
 | ⟨sl,bx,rw,nx⟩,⟨v,bs,rs⟩=>match t with
  | some t=>⟨(t,v) :: sl,bs++bx,rs++rw,nx⟩
  | none=>⟨sl,bs++bx,rs++rw,nx⟩
def forceL {α:Type} (l:List α) (K:List α→Prop):Prop:=match l with
 | []=>K []
 | x :: r=>K (x :: r)
theorem forceL_eq {α:Type} (l:List α) (K:List α→Prop):forceL l K=K l:=by cases l <;> rfl
def forceSp {α:Type}:List α→(List α→Prop)→Prop
 | [],K=>K []
 | x :: r,K=>forceSp r fun r'=>K (x :: r')
theorem forceSp_eq {α:Type}:∀ (l:List α) (K:List α→Prop),forceSp l K=K l
 | [],_=>rfl
 | x :: r,K=>by rw [forceSp,forceSp_eq r]
def forceN (n:Nat) (K:Nat→Prop):Prop:=match n with
 | 0=>K 0
 | n+1=>K (n+1)
theorem forceN_eq (n:Nat) (K:Nat→Prop):forceN n K=K n:=by cases n <;> rfl
def St.open_ (st:St) (K:St→Prop):Prop:=match st with
 | ⟨sl,bx,rw,nx⟩=>forceL bx fun bx=>forceL rw fun rw=>K ⟨sl,bx,rw,nx⟩
theorem St.open_eq (st:St) (K:St→Prop):st.open_ K=K st:=by
 cases st
 simp only [St.open_,forceL_eq]
def AV.open_ (a:AV) (K:AV→Prop):Prop:=match a with
 | .c x=>(match x with
  | .t y=>(match y with
   | .lit v=>K (.c (.t (.lit v)))
   | .sl k xs=>K (.c (.t (.sl k xs)))
   | .mp xs=>K (.c (.t (.mp xs))))
  | .nil=>K (.c .nil)
  | .row τ v=>K (.c (.row τ v))
  | .bot=>K (.c .bot))
 | .agg xs=>forceSp xs fun xs=>K (.agg xs)
 | .ptr b o=>K (.ptr b o)
 | .iptr xs o=>K (.iptr xs o)
 | .eptr τ ver k i o=>K (.eptr τ ver k i o)
 | .sub τ ver k i=>K (.sub τ ver k i)
 | .nilp=>K .nilp
 | .tup vs=>K (.tup vs)
 | .fn f caps=>K (.fn f caps)
 | .fnI f caps=>K (.fnI f caps)
 | .bot=>K .bot
theorem AV.open_eq (a:AV) (K:AV→Prop):a.open_ K=K a:=by
 cases a with
 | c x=>cases x with
  | t y=>cases y <;> rfl
  | _=>rfl
 | agg xs=>exact forceSp_eq _ _
 | _=>rfl
inductive Tk where
 | bas
 | int (k:IntKind)
 | string
 | slc (e:Nat)
 | arr (n e:Nat)
 | str (fs:List (Nat × Nat))
 | ptr (e:Nat)
 | map (k e:Nat)
structure Ty where
 k:Tk
 sz:Nat
 by_:Nat
 z:List Ce
 eq:List Lk
def Ty.isAgg (y:Ty):Bool:=match y.k with
 | .arr _ _=>true
 | .str _=>true
 | _=>false
def litV:Value→Bool
 | .int _ _=>true
 | .bool _=>true
 | .string _=>true
 | _=>false
def iv (n:Int):Tr:=.lit (.int .i64 n)
def bv (b:Bool):Tr:=.lit (.bool b)
def sv (s:ByteArray):Tr:=.lit (.string s)
def AV.i (n:Int):AV:=.c (.t (.lit (.int .i64 n)))
def AV.b (x:Bool):AV:=.c (.t (.lit (.bool x)))
def AV.s (x:ByteArray):AV:=.c (.t (.lit (.string x)))
def ev (st:St):Operand→AV
 | .tmp t=>st.get t
 | .const v=>match v with
  | .int k n=>.c (.t (.lit (.int k n)))
  | .bool b=>.c (.t (.lit (.bool b)))
  | .string s=>.c (.t (.lit (.string s)))
  | .slice none 0 0=>.c .nil
  | .pointer none=>.nilp
  | _=>.bot
 | .func f=>.fn f []
 | .global _=>.bot
def Ty.wd (y:Ty):Nat:=if y.isAgg then y.sz else 1
def cut (y:Ty) (cs:List Ce) (o:Nat):Option AV:=
 if y.isAgg then (bif Nat.ble (o+y.sz) cs.length then some (.agg ((cs.drop o).take y.sz)) else none)
 else match cs[o]? with
  | some c=>some (.c c)
  | none=>none
def cutT (y:Ty) (cs:List Tr) (o:Nat):Option AV:=
 if y.isAgg then (bif Nat.ble (o+y.sz) cs.length then some (.agg (((cs.drop o).take y.sz).map .t)) else none)
 else match cs[o]? with
  | some c=>some (.c (.t c))
  | none=>none
def cellsA:AV→Option (List Ce)
 | .c x=>some [x]
 | .agg xs=>some xs
 | _=>none
def treeC (st:St):Ce→Option Tr
 | .t x=>some x
 | .nil=>some (.sl 0 [])
 | .row τ ver=>match lk st.rw τ with
  | some R=>bif Nat.beq R.ver ver&&R.dp.isNone then some (.sl R.k R.xs) else none
  | none=>none
 | .bot=>none
def elemsA (st:St):AV→Option (Nat × List (List Tr))
 | .c c=>match treeC st c with
  | some (.sl k xs)=>some (k,xs)
  | _=>none
 | _=>none
def lenA (st:St):AV→Option Nat
 | .c (.row τ ver)=>match lk st.rw τ with
  | some R=>bif Nat.beq R.ver ver&&!R.isM then some R.xs.length else none
  | none=>none
 | v=>match elemsA st v with
  | some (_,xs)=>some xs.length
  | none=>none
def binI (op:BinOp) (k:IntKind) (x y:Int):Option Value:=match op with
 | .add=>some (.int k (k.wrap (x+y)))
 | .sub=>some (.int k (k.wrap (x - y)))
 | .mul=>some (.int k (k.wrap (x*y)))
 | .quo=>bif decide (y=0) then none else some (.int k (k.wrap (x.tdiv y)))
 | .rem=>bif decide (y=0) then none else some (.int k (x.tmod y))
 | .and=>some (.int k (k.wrap (BitVec.ofInt k.bits x &&& BitVec.ofInt k.bits y).toNat))
 | .or=>some (.int k (k.wrap (BitVec.ofInt k.bits x ||| BitVec.ofInt k.bits y).toNat))
 | .xor=>some (.int k (k.wrap (BitVec.ofInt k.bits x ^^^ BitVec.ofInt k.bits y).toNat))
 | .andNot=>some (.int k (k.wrap (BitVec.ofInt k.bits x &&& ~~~ BitVec.ofInt k.bits y).toNat))
 | .eql=>some (.bool (x==y))
 | .neq=>some (.bool (x != y))
 | .lss=>some (.bool (decide (x < y)))
 | .leq=>some (.bool (decide (x≤y)))
 | .gtr=>some (.bool (decide (x > y)))
 | .geq=>some (.bool (decide (x≥y)))
 | _=>none
def shI (op:BinOp) (k:IntKind) (x y:Int):Option Value:=match op with
 | .shl=>bif decide (y < 0) then none else some (.int k (k.wrap (x*2 ^ min y.toNat k.bits)))
 | .shr=>bif decide (y < 0) then none else some (.int k (x.fdiv (2 ^ min y.toNat k.bits)))
 | _=>none
def binB (op:BinOp) (x y:Bool):Option Value:=match op with
 | .eql=>some (.bool (x==y))
 | .neq=>some (.bool (!(x==y)))
 | _=>none
def lits?:List Ce→Option (List Value)
 | []=>some []
 | .t (.lit v) :: r=>match lits? r with
  | some vs=>some (v :: vs)
  | none=>none
 | _ :: _=>none
def litIs:Lk→Value→Bool
 | .int,.int .i64 _=>true
 | .u64,.int .u64 _=>true
 | .bool,.bool _=>true
 | .str,.string _=>true
 | _,_=>false
def litsAre:List Lk→List Value→Bool
 | [],[]=>true
 | k :: ks,v :: vs=>litIs k v&&litsAre ks vs
 | _,_=>false
def spl {α:Type}:List α→Nat→List α→List α
 | [],_,us=>us
 | c :: cs,0,[]=>c :: cs
 | _ :: cs,0,u :: us=>u :: spl cs 0 us
 | c :: cs,o+1,us=>c :: spl cs o us
theorem spl_eq {α:Type}:∀ (cs:List α) (o:Nat) (us:List α),spl cs o us=cs.take o++us++cs.drop (o+us.length)
 | [],o,us=>by rw [spl];simp
 | c :: cs,0,[]=>by rw [spl];simp
 | c :: cs,0,u :: us=>by
  rw [spl,spl_eq cs 0 us]
  simp
 | c :: cs,o+1,us=>by
  rw [spl,spl_eq cs o us,show o+1+us.length=o+us.length+1 by omega]
  simp
def splice (cs:List Ce) (o:Nat) (us:List Ce):List Ce:=spl cs o us
def spliceT (cs:List Tr) (o:Nat) (us:List Tr):List Tr:=spl cs o us
theorem splice_eq (cs:List Ce) (o:Nat) (us:List Ce):splice cs o us=cs.take o++us++cs.drop (o+us.length):=spl_eq _ _ _
theorem spliceT_eq (cs:List Tr) (o:Nat) (us:List Tr):spliceT cs o us=cs.take o++us++cs.drop (o+us.length):=spl_eq _ _ _
def mpX (l:List (Int × Int)):List (List Tr):=[] :: l.map fun p=>[iv p.1,iv p.2]
def MpE (es:Array MapEntry) (xs:List (List Tr)):Prop:=∃ l:List (Int × Int),xs=mpX l∧es.toList.map (fun e=>(e.key,e.val))=l.map fun p=>(Value.int .i64 p.1,Value.int .i64 p.2)
mutual
inductive RT (F:Nat→Prop) (w:World):Value→Tr→Prop
 | mp {g:Nat} {es:Array MapEntry} {clock:Nat} {xs:List (List Tr)}:w.heap[g]? = some (.map es clock)→MpE es xs→F g→RT F w (.map (some g)) (.mp xs)
 | mp0:RT F w (.slice none 0 0) (.mp [])
 | lit {v:Value}:litV v=true→RT F w v (.lit v)
 | slNil {k:Nat} {ao:Option Addr} {cap:Nat}:(ao=none→cap=0)→RT F w (.slice ao 0 cap) (.sl k [])
 | slSome {k g o n cap:Nat} {xs:List (List Tr)}:n=xs.length→n≤cap→F g→g < w.heap.size→RTE F w k g o xs→RT F w (.slice (some ⟨g,o,none⟩) n cap) (.sl k xs)
inductive RTL (F:Nat→Prop) (w:World):List Value→List Tr→Prop
 | nil:RTL F w [] []
 | cons {v:Value} {t:Tr} {vs:List Value} {ts:List Tr}:RT F w v t→RTL F w vs ts→RTL F w (v :: vs) (t :: ts)
inductive RTE (F:Nat→Prop) (w:World):Nat→Nat→Nat→List (List Tr)→Prop
 | nil {k g o:Nat}:RTE F w k g o []
 | cons {k g o:Nat} {vs:List Value} {ts:List Tr} {xs:List (List Tr)}:vs.length=k→(∀ (i:Nat) u,vs[i]? = some u→w.cell? ⟨g,o+i,none⟩=some u)→RTL F w vs ts→RTE F w k g (o+k) xs→RTE F w k g o (ts :: xs)
end
theorem RT.frame {F G:Nat→Prop} {w w':World} (hs:w.heap.size≤w'.heap.size) (hb:∀ b,F b→b < w.heap.size→w'.heap[b]? = w.heap[b]?) (hFG:∀ b,F b→b < w.heap.size→G b) {v:Value} {t:Tr} (h:RT F w v t):RT G w' v t:=by
 refine RT.rec (motive_1:=fun v t _=>RT G w' v t) (motive_2:=fun vs ts _=>RTL G w' vs ts) (motive_3:=fun k g o xs _=>F g→g < w.heap.size→RTE G w' k g o xs) ?_ ?_ ?_ ?_ ?_ ?_ ?_ ?_ ?_ h
 ·exact fun h1 h2 h3=>.mp ((hb _ h3 (Array.getElem?_eq_some_iff.1 h1).1).trans h1) h2 (hFG _ h3 (Array.getElem?_eq_some_iff.1 h1).1)
 ·exact .mp0
 ·exact fun hl=>.lit hl
 ·exact fun hc=>.slNil hc
 ·exact fun h1 h2 h3 h4 _ ih=>.slSome h1 h2 (hFG _ h3 h4) (Nat.lt_of_lt_of_le h4 hs) (ih h3 h4)
 ·exact .nil
 ·exact fun _ _ ih1 ih2=>.cons ih1 ih2
 ·exact fun _ _=>.nil
 ·exact fun hl hc _ _ ih1 ih2 hF hlt=>.cons hl (fun i u hu=>(World.cell?_of_block (a:=⟨_,_,none⟩) (hb _ hF hlt)).trans (hc i u hu)) ih1 (ih2 hF hlt)
theorem RTL.frame {F G:Nat→Prop} {w w':World} (hs:w.heap.size≤w'.heap.size) (hb:∀ b,F b→b < w.heap.size→w'.heap[b]? = w.heap[b]?) (hFG:∀ b,F b→b < w.heap.size→G b):∀ {vs:List Value} {ts:List Tr},RTL F w vs ts→RTL G w' vs ts
 | _,_,.nil=>.nil
 | _,_,.cons h1 h2=>.cons (h1.frame hs hb hFG) (RTL.frame hs hb hFG h2)
theorem RT.one {F:Nat→Prop} {w:World} {v:Value} {t:Tr} (h:RT F w v t):v.oneCell'=true:=by
 cases h with
 | lit hl=>cases v <;> first | rfl | cases hl
 | slNil=>rfl
 | slSome=>rfl
 | mp=>rfl
 | mp0=>rfl
theorem RTL.len {F:Nat→Prop} {w:World}:∀ {vs:List Value} {ts:List Tr},RTL F w vs ts→vs.length=ts.length
 | _,_,.nil=>rfl
 | _,_,.cons _ h=>by simp [RTL.len h]
theorem RTL.one {F:Nat→Prop} {w:World}:∀ {vs:List Value} {ts:List Tr},RTL F w vs ts→∀ u∈vs,u.oneCell'=true
 | _,_,.nil,_,hu=>by cases hu
 | _,_,.cons h1 h2,u,hu=>by
  rcases List.mem_cons.1 hu with rfl|hu
  ·exact h1.one
  ·exact RTL.one h2 u hu
theorem RTE.get {F:Nat→Prop} {w:World} {k g:Nat}:∀ {xs:List (List Tr)} {o:Nat},RTE F w k g o xs→∀ (j:Nat) ts,xs[j]? = some ts→∃ vs,vs.length=k∧(∀ (i:Nat) u,vs[i]? = some u→w.cell? ⟨g,o+j*k+i,none⟩=some u)∧RTL F w vs ts
 | _,_,.cons hl hc h1 _,0,ts,hd=>by
  obtain rfl:=Option.some.inj hd
  exact ⟨_,hl,fun i u hu=>by rw [Nat.zero_mul,Nat.add_zero];exact hc i u hu,h1⟩
 | _,o,.cons _ _ _ h2,j+1,ts,hd=>by
  obtain ⟨vs,h3,h4,h5⟩:=RTE.get h2 j ts hd
  refine ⟨vs,h3,fun i u hu=>?_,h5⟩
  have:=h4 i u hu
  rwa [show o+k+j*k+i=o+(j+1)*k+i by rw [Nat.add_mul];omega] at this
theorem RTE.mk {F:Nat→Prop} {w:World} {k g:Nat}:∀ (xs:List (List Tr)) (o:Nat),(∀ (j:Nat) ts,xs[j]? = some ts→∃ vs,vs.length=k∧(∀ (i:Nat) u,vs[i]? = some u→w.cell? ⟨g,o+j*k+i,none⟩=some u)∧RTL F w vs ts)→RTE F w k g o xs
 | [],_,_=>.nil
 | ts :: xs,o,h=>by
  obtain ⟨vs,h0,h1,h2⟩:=h 0 ts rfl
  refine .cons h0 (fun i u hu=>by have:=h1 i u hu;rwa [Nat.zero_mul,Nat.add_zero] at this) h2 (RTE.mk xs (o+k) fun j ts' hj=>?_)
  obtain ⟨vs',h3,h4,h5⟩:=h (j+1) ts' hj
  refine ⟨vs',h3,fun i u hu=>?_,h5⟩
  have:=h4 i u hu
  rwa [show o+(j+1)*k+i=o+k+j*k+i by rw [Nat.add_mul];omega] at this
inductive A2 {α β:Type} (R:α→β→Prop):List α→List β→Prop
 | nil:A2 R [] []
 | cons {x:α} {y:β} {xs:List α} {ys:List β}:R x y→A2 R xs ys→A2 R (x :: xs) (y :: ys)
theorem A2.len {α β:Type} {R:α→β→Prop}:∀ {xs:List α} {ys:List β},A2 R xs ys→xs.length=ys.length
 | _,_,.nil=>rfl
 | _,_,.cons _ h=>by simp [A2.len h]
theorem A2.imp {α β:Type} {R S:α→β→Prop}:∀ {xs:List α} {ys:List β},A2 R xs ys→(∀ x y,y∈ys→R x y→S x y)→A2 S xs ys
 | _,_,.nil,_=>.nil
 | _,_,.cons h1 h2,h=>.cons (h _ _ List.mem_cons_self h1) (A2.imp h2 fun x y hy=>h x y (List.mem_cons_of_mem _ hy))
theorem A2.get {α β:Type} {R:α→β→Prop}:∀ {xs:List α} {ys:List β},A2 R xs ys→∀ (i:Nat) y,ys[i]? = some y→∃ x,xs[i]? = some x∧R x y
 | _,_,.cons h _,0,y,hy=>by
  obtain rfl:=Option.some.inj hy
  exact ⟨_,rfl,h⟩
 | _,_,.cons _ h,i+1,y,hy=>A2.get h i y hy
theorem A2.take {α β:Type} {R:α→β→Prop}:∀ {xs:List α} {ys:List β},A2 R xs ys→∀ n,A2 R (xs.take n) (ys.take n)
 | _,_,.nil,n=>by simpa using A2.nil
 | _,_,.cons h1 h2,0=>.nil
 | _,_,.cons h1 h2,n+1=>.cons h1 (A2.take h2 n)
theorem A2.drop {α β:Type} {R:α→β→Prop}:∀ {xs:List α} {ys:List β},A2 R xs ys→∀ n,A2 R (xs.drop n) (ys.drop n)
 | _,_,.nil,n=>by simpa using A2.nil
 | _,_,.cons h1 h2,0=>.cons h1 h2
 | _,_,.cons _ h2,n+1=>A2.drop h2 n
theorem A2.append {α β:Type} {R:α→β→Prop}:∀ {xs:List α} {ys:List β} {xs':List α} {ys':List β},A2 R xs ys→A2 R xs' ys'→A2 R (xs++xs') (ys++ys')
 | _,_,_,_,.nil,h=>h
 | _,_,_,_,.cons h1 h2,h=>.cons h1 (A2.append h2 h)
theorem RTL.a2 {F:Nat→Prop} {w:World}:∀ {vs:List Value} {ts:List Tr},RTL F w vs ts→A2 (RT F w) vs ts
 | _,_,.nil=>.nil
 | _,_,.cons h1 h2=>.cons h1 (RTL.a2 h2)
theorem A2.rtl {F:Nat→Prop} {w:World}:∀ {vs:List Value} {ts:List Tr},A2 (RT F w) vs ts→RTL F w vs ts
 | _,_,.nil=>.nil
 | _,_,.cons h1 h2=>.cons h1 (A2.rtl h2)
inductive BRole where
 | cold
 | bx (i:Nat)
 | rw (i:Nat)
 | nst (i j o:Nat)
 | non
deriving DecidableEq
structure Env where
 rl:Nat→BRole
 bk:Nat→Nat
 vl:Nat→Nat→Value
def Env.F (E:Env):Nat→Prop:=fun b=>E.rl b=.cold
def RC (E:Env) (w:World) (v:Value):Ce→Prop
 | .t x=>RT E.F w v x
 | .nil=>v=.slice none 0 0
 | .row τ ver=>v=E.vl τ ver∧v.oneCell'=true
 | .bot=>v.oneCell'=true
def capV (E:Env) (c:Nat × Nat):Value:=.pointer (some ⟨E.bk c.1,c.2,none⟩)
abbrev RI (E:Env) (w:World) (v:Value) (xs:List Tr) (o:Nat):Prop:=∃ g p vs,v=.pointer (some ⟨g,p+o,none⟩)∧E.rl g=.cold∧g < w.heap.size∧(∀ (i:Nat) u,vs[i]? = some u→w.cell? ⟨g,p+i,none⟩=some u)∧RTL E.F w vs xs
def R1 (E:Env) (w:World) (v:Value):AV→Prop
 | .c x=>RC E w v x
 | .agg xs=>∃ vs,v=.agg vs.toArray∧A2 (RC E w) vs xs
 | .ptr b o=>v=.pointer (some ⟨E.bk b,o,none⟩)
 | .iptr xs o=>∃ g p vs,v=.pointer (some ⟨g,p+o,none⟩)∧E.rl g=.cold∧g < w.heap.size∧(∀ (i:Nat) u,vs[i]? = some u→w.cell? ⟨g,p+i,none⟩=some u)∧RTL E.F w vs xs
 | .eptr τ ver k i o=>∃ g n c,E.vl τ ver=.slice (some ⟨g,0,none⟩) n c∧v=.pointer (some ⟨g,i*k+o,none⟩)
 | .sub τ ver k i=>∃ ao n c,E.vl τ ver=.slice ao n c∧v=.slice (if c=i then ao else ao.map (·.add (i*k))) (n - i) (c - i)
 | .nilp=>v=.pointer none
 | .fn f caps=>v=.func (.func f) #[] (caps.map (capV E)).toArray
 | .fnI f caps=>∃ us:List Value,v=.func (.func f) #[] us.toArray∧A2 (fun u (c:List Tr × Nat)=>RI E w u c.1 c.2) us caps
 | .tup _=>False
 | .bot=>True
def RV (E:Env) (w:World) (v:Value):AV→Prop
 | .tup ars=>∃ vs,v=.tuple vs.toArray∧A2 (R1 E w) vs ars
 | a=>R1 E w v a
def Bk (w:World) (b:Nat) (t:TypeId) (cs:List Value):Prop:=w.heap[b]? = some (.cells cs.toArray t (0,0))
def RB (E:Env) (w:World) (n0:Nat) (i:Nat) (cs:List Ce):Prop:=∃ vs t,n0≤E.bk i∧Bk w (E.bk i) t vs∧E.rl (E.bk i)=.bx i∧A2 (RC E w) vs cs
structure Ets {k:Nat} (F:Nat→Prop) (w:World) (es:List (Cl k)) (xs:List (List Tr)):Prop where
 len:es.length=xs.length
 at_:∀ (j:Nat) (vs:Cl k) (ts:List Tr),es[j]? = some vs→xs[j]? = some ts→RTL F w vs.1 ts
def Ow (E:Env) (w:World) (n0:Nat) (q:BRole) (ty k:Nat) (v:Value) (xs:List (List Tr)):Prop:=∃ es:List (Cl k),w.ownsRow n0 ty k v es.length (es.flatMap Subtype.val)∧Ets E.F w es xs∧∀ g,v.ownBlock=some g→E.rl g=q
def CeD (E:Env) (w:World) (n0 τ j o:Nat) (d:Dp) (v:Value) (t:Tr):Prop:=
 (∀ ρ u,(j,o,ρ,u)∈d.ln→v=E.vl ρ u∧v.oneCell'=true)∧
 ((∀ ρ u,(j,o,ρ,u)∉d.ln)→(∀ ty k,(o,ty,k)∈d.D→j < d.c→∃ xs,t=.sl k xs∧Ow E w n0 (.nst τ j o) ty k v xs)∧((∀ ty k,(o,ty,k)∈d.D→¬ j < d.c)→RT E.F w v t))
structure EtD (E:Env) (w:World) (n0 τ:Nat) (d:Dp) {k:Nat} (es:List (Cl k)) (xs:List (List Tr)):Prop where
 len:es.length=xs.length
 ln:∀ (j:Nat) (vs:Cl k) (ts:List Tr),es[j]? = some vs→xs[j]? = some ts→ts.length=k
 one:∀ (j:Nat) (vs:Cl k),es[j]? = some vs→∀ u∈vs.1,u.oneCell'=true
 at_:∀ (j:Nat) (vs:Cl k) (ts:List Tr),es[j]? = some vs→xs[j]? = some ts→∀ (o:Nat) v t,vs.1[o]? = some v→ts[o]? = some t→CeD E w n0 τ j o d v t
def RD (E:Env) (w:World) (n0:Nat) (τ:Nat) (d:Dp) (ty k:Nat) (v:Value) (xs:List (List Tr)):Prop:=∃ es:List (Cl k),w.ownsRow n0 ty k v es.length (es.flatMap Subtype.val)∧EtD E w n0 τ d es xs∧∀ g,v.ownBlock=some g→E.rl g=.rw τ
def RM (E:Env) (w:World) (n0 τ:Nat) (v:Value) (xs:List (List Tr)):Prop:=(v=.slice none 0 0∧xs=[])∨∃ g es clock,v=.map (some g)∧n0≤g∧w.heap[g]? = some (.map es clock)∧MpE es xs∧E.rl g=.nst τ 0 0
def RR (E:Env) (w:World) (n0:Nat) (τ:Nat) (R:Row):Prop:=match R.dp with
 | none=>Ow E w n0 (.rw τ) R.ty R.k (E.vl τ R.ver) R.xs
 | some d=>match d.isM with
  | true=>RM E w n0 τ (E.vl τ R.ver) R.xs
  | false=>RD E w n0 τ d R.ty R.k (E.vl τ R.ver) R.xs
theorem RR.ow {E:Env} {w:World} {n0 τ:Nat} {R:Row} (h:RR E w n0 τ R) (hd:R.dp=none):Ow E w n0 (.rw τ) R.ty R.k (E.vl τ R.ver) R.xs:=by
 unfold RR at h
 rw [hd] at h
 exact h
theorem Ow.rr {E:Env} {w:World} {n0 τ:Nat} {R:Row} (hd:R.dp=none) (h:Ow E w n0 (.rw τ) R.ty R.k (E.vl τ R.ver) R.xs):RR E w n0 τ R:=by
 unfold RR
 rw [hd]
 exact h
theorem RR.hd {E:Env} {w:World} {n0 τ:Nat} {R:Row} (h:RR E w n0 τ R) (hm:R.isM=false):∃ es:List (Cl R.k),w.ownsRow n0 R.ty R.k (E.vl τ R.ver) es.length (es.flatMap Subtype.val)∧es.length=R.xs.length∧∀ g,(E.vl τ R.ver).ownBlock=some g→E.rl g=.rw τ:=by
 unfold RR at h
 unfold Row.isM at hm
 split at h
 ·obtain ⟨es,h1,h2,h3⟩:=h
  exact ⟨es,h1,h2.len,h3⟩
 ·rename_i d hd
  rw [hd] at hm
  simp only [hm] at h
  obtain ⟨es,h1,h2,h3⟩:=h
  exact ⟨es,h1,h2.len,h3⟩
theorem RR.mp {E:Env} {w:World} {n0 τ:Nat} {R:Row} (h:RR E w n0 τ R) (hm:R.isM=true):RM E w n0 τ (E.vl τ R.ver) R.xs:=by
 unfold RR at h
 unfold Row.isM at hm
 split at h
 ·rename_i hd
  rw [hd] at hm
  cases hm
 ·rename_i d hd
  rw [hd] at hm
  simpa only [hm] using h
theorem RD.rr {E:Env} {w:World} {n0 τ:Nat} {R:Row} {d:Dp} (hd:R.dp=some d) (hm:d.isM=false) (h:RD E w n0 τ d R.ty R.k (E.vl τ R.ver) R.xs):RR E w n0 τ R:=by
 unfold RR
 simpa only [hd,hm] using h
theorem RM.rr {E:Env} {w:World} {n0 τ:Nat} {R:Row} {d:Dp} (hd:R.dp=some d) (hm:d.isM=true) (h:RM E w n0 τ (E.vl τ R.ver) R.xs):RR E w n0 τ R:=by
 unfold RR
 simpa only [hd,hm] using h
theorem RR.rd {E:Env} {w:World} {n0 τ:Nat} {R:Row} {d:Dp} (h:RR E w n0 τ R) (hd:R.dp=some d) (hm:d.isM=false):RD E w n0 τ d R.ty R.k (E.vl τ R.ver) R.xs:=by
 unfold RR at h
 simpa only [hd,hm] using h
structure Gst where
 o:Nat→Prop
 g:Nat→Option Obj
 v:Nat→Option Value
 b:Nat→Option Nat
 n:Nat
class OFree (O:Gst):Prop where
 v:∀ j,O.v j=none
 b:∀ j,O.b j=none
def Ce.rids:Ce→List (Nat × Nat)
 | .row τ v=>[(τ,v)]
 | _=>[]
def AV.rid1:AV→List (Nat × Nat)
 | .c x=>x.rids
 | .agg xs=>xs.flatMap Ce.rids
 | .eptr τ v _ _ _=>[(τ,v)]
 | .sub τ v _ _=>[(τ,v)]
 | _=>[]
def AV.bid1:AV→List Nat
 | .ptr b _=>[b]
 | .fn _ caps=>caps.map (·.1)
 | _=>[]
def AV.rids:AV→List (Nat × Nat)
 | .tup ars=>ars.flatMap AV.rid1
 | a=>a.rid1
def AV.bids:AV→List Nat
 | .tup ars=>ars.flatMap AV.bid1
 | a=>a.bid1
def St.hasB (st:St) (b:Nat):Prop:=∃ cs,lk st.bx b=some cs
def St.hasR (st:St) (p:Nat × Nat):Prop:=∃ R,lk st.rw p.1=some R∧p.2≤R.ver
structure Sc (m:Nat) (st:St):Prop where
 sb:∀ t,∀ b∈(st.get t).bids,st.hasB b
 sr:∀ t,∀ p∈(st.get t).rids,st.hasR p
 br:∀ b cs,lk st.bx b=some cs→∀ p∈cs.flatMap Ce.rids,st.hasR p
 fb:∀ b cs,lk st.bx b=some cs→b < m
 fr:∀ τ R,lk st.rw τ=some R→τ < m
 rl:∀ τ R d,lk st.rw τ=some R→R.dp=some d→∀ l∈d.ln,st.hasR l.2.2
structure RepM (O:Gst) (E:Env) (w:World) (n0 N m:Nat) (st:St) (a:Act):Prop where
 dfr:a.defers=[]
 sz:a.tmps.size=N
 slt:∀ t,RV E w (a.tmps.getD t undef) (st.get t)
 box:∀ i cs,lk st.bx i=some cs→RB E w n0 i cs
 row:∀ τ R,lk st.rw τ=some R→RR E w n0 τ R
 sc:Sc m st
 hi:n0≤w.heap.size
 old:∀ b,b < n0→E.rl b=.cold∧O.o b∨E.rl b=.non
 gh:∀ b x,O.g b=some x→w.heap[b]? = some x∧(E.rl b=.cold∧O.o b∨E.rl b=.non∧¬ O.o b)
 lkv:∀ j V,O.v j=some V→E.vl j 0=V∧∃ R,lk st.rw j=some R
 lkb:∀ j b,O.b j=some b→E.bk j=b∧∃ cs,lk st.bx j=some cs
 sn:O.n≤w.heap.size
abbrev RepS (O:Gst) (E:Env) (w:World) (n0 N:Nat) (st:St) (a:Act):Prop:=RepM O E w n0 N st.nx st a
def mpGet:List (Int × Int)→Int→Option Int
 | [],_=>none
 | p :: r,n=>if n=p.1 then some p.2 else mpGet r n
def mpPut:List (Int × Int)→Int→Int→List (Int × Int)
 | [],n,v=>[(n,v)]
 | p :: r,n,v=>if n=p.1 then (n,v) :: r else p :: mpPut r n v
def mpIx:List (Int × Int)→Int→Nat→Option (Nat × Int)
 | [],_,_=>none
 | p :: r,n,i=>if n=p.1 then some (i,p.2) else mpIx r n (i+1)
theorem mpIx_get:∀ (l:List (Int × Int)) (n:Int) (i:Nat),(mpIx l n i).map (·.2)=mpGet l n
 | [],_,_=>rfl
 | p :: r,n,i=>by
  unfold mpIx mpGet
  split
  ·rfl
  ·exact mpIx_get r n (i+1)
theorem find_now {q:IntKind} (n:Int):∀ (es:List MapEntry) (l:List (Int × Int)) (i:Nat),es.map (fun e=>(e.key,e.val))=l.map (fun p=>(Value.int .i64 p.1,Value.int .i64 p.2))→
  Instr.findNow (.int q) (.int .i64 n) es i=some ((mpIx l n i).map fun z=>(z.1,.int .i64 z.2))
 | [],[],i,_=>rfl
 | e :: es,p :: l,i,h=>by
  simp only [List.map_cons,List.cons.injEq,Prod.mk.injEq] at h
  obtain ⟨⟨h1,h2⟩,h3⟩:=h
  unfold Instr.findNow mpIx
  rw [h1,h2]
  simp only [Instr.sameNow,if_true]
  by_cases hn:n=p.1
  ·subst hn
   simp
  ·have:(n==p.1)=false:=by simpa using hn
   rw [this,if_neg hn]
   exact find_now n es l (i+1) h3
 | [],_ :: _,_,h=>by cases h
 | _ :: _,[],_,h=>by cases h
theorem find_key {P:Program} {w:World} {k:TypeId} {q:IntKind} (hk:P.underlying k=some (.int q)) {es:List MapEntry} {l:List (Int × Int)} (n:Int) (h:es.map (fun e=>(e.key,e.val))=l.map (fun p=>(Value.int .i64 p.1,Value.int .i64 p.2))) :
  (Instr.findKey k (.int .i64 n) es).run P w=.ok ((mpIx l n 0).map fun z=>(z.1,.int .i64 z.2)) w:=by
 unfold Instr.findKey
 simp only [Sem.run_bind,run_underlying hk,Result.andThen_ok,find_now n es l 0 h,Sem.run_pure]
theorem check_key {P:Program} {w:World} {k:TypeId} {q:IntKind} (hk:P.underlying k=some (.int q)) (b:Bool) (n:Int):(Instr.checkKey b 10000 k (.int .i64 n)).run P w=.ok () w:=by
 unfold Instr.checkKey
 simp only [Sem.run_bind,run_underlying hk,Result.andThen_ok,Sem.run_pure]
def mpRes (ok:Bool) (l:List (Int × Int)) (n:Int):Value:=match ok with
 | true=>.tuple #[.int .i64 ((mpGet l n).getD 0),.bool (mpGet l n).isSome]
 | false=>.int .i64 ((mpGet l n).getD 0)
theorem run_lookup {P:Program} {w:World} {t k e:TypeId} {q:IntKind} (ht:P.underlying t=some (.map k e)) (hk:P.underlying k=some (.int q)) (hz:(zeroValue e).run P w=.ok (.int .i64 0) w) {g:Nat} {es:Array MapEntry} {clock:Nat} (hg:w.heap[g]? = some (.map es clock)) {l:List (Int × Int)} (h:es.toList.map (fun e=>(e.key,e.val))=l.map (fun p=>(Value.int .i64 p.1,Value.int .i64 p.2))) (n:Int) (ok:Bool) :
  (Instr.lookup t (.map (some g)) (.int .i64 n) ok).run P w=.ok (mpRes ok l n) w:=by
 unfold Instr.lookup
 have hget:(getObj g).run P w=.ok (.map es clock) w:=by
  simp only [getObj,Sem.run,hg]
 have hi:=mpIx_get l n 0
 simp only [Sem.run_bind,run_underlying ht,Result.andThen_ok,hget,check_key hk,find_key hk n h,Sem.run_pure]
 cases hx:mpIx l n 0 with
 | none=>
  rw [hx] at hi
  simp only [Option.map_none] at hi ⊢
  simp only [Sem.run_bind,hz,Result.andThen_ok,Sem.run_pure]
  unfold mpRes
  rw [← hi]
  cases ok <;> rfl
 | some z=>
  rw [hx] at hi
  simp only [Option.map_some] at hi ⊢
  simp only [Sem.run_bind,Result.andThen_ok,Sem.run_pure]
  unfold mpRes
  rw [← hi]
  cases ok <;> rfl
theorem mpPut_at:∀ (es:List MapEntry) (l:List (Int × Int)) (n v:Int) (i:Nat) (j:Nat) (u:Int) (f:MapEntry→MapEntry),es.map (fun e=>(e.key,e.val))=l.map (fun p=>(Value.int .i64 p.1,Value.int .i64 p.2))→mpIx l n i=some (i+j,u)→(∀ e,(f e).key=.int .i64 n∧(f e).val=.int .i64 v)→
  (es.modify j f).map (fun e=>(e.key,e.val))=(mpPut l n v).map (fun p=>(Value.int .i64 p.1,Value.int .i64 p.2))∧∃ e,es[j]? = some e∧e.key=.int .i64 n
 | [],[],n,v,i,j,u,f,h,hx,hf=>by cases hx
 | e :: es,p :: l,n,v,i,j,u,f,h,hx,hf=>by
  simp only [List.map_cons,List.cons.injEq,Prod.mk.injEq] at h
  obtain ⟨⟨h1,h2⟩,h3⟩:=h
  unfold mpIx at hx
  unfold mpPut
  by_cases hn:n=p.1
  ·rw [if_pos hn] at hx ⊢
   simp only [Option.some.injEq,Prod.mk.injEq] at hx
   obtain rfl:j=0:=by omega
   refine ⟨?_,e,rfl,by rw [h1,hn]⟩
   simp only [List.modify_zero_cons,List.map_cons,(hf e).1,(hf e).2,h3]
  ·rw [if_neg hn] at hx ⊢
   have hge:∀ (l:List (Int × Int)) (n:Int) (i j:Nat) (u:Int),mpIx l n i=some (j,u)→i≤j:=fun l n=>by
    induction l with
    | nil=>intro i j u h;cases h
    | cons p l ih=>
     intro i j u h
     unfold mpIx at h
     split at h
     ·cases h;exact Nat.le_refl _
     ·exact Nat.le_of_succ_le (ih _ _ _ h)
   have hj:=hge l n (i+1) (i+j) u hx
   obtain ⟨j',rfl⟩:∃ j',j=j'+1:=⟨j - 1,by omega⟩
   obtain ⟨g1,e',g2,g3⟩:=mpPut_at es l n v (i+1) j' u f h3 (by rw [hx];congr 2;omega) hf
   refine ⟨?_,e',by simpa using g2,g3⟩
   simp only [List.modify_succ_cons,List.map_cons,g1,h1,h2]
 | [],_ :: _,_,_,_,_,_,_,h,_,_=>by cases h
 | _ :: _,[],_,_,_,_,_,_,h,_,_=>by cases h
theorem mpPut_no:∀ (l:List (Int × Int)) (n v:Int) (i:Nat),mpIx l n i=none→mpPut l n v=l++[(n,v)]
 | [],_,_,_,_=>rfl
 | p :: l,n,v,i,h=>by
  unfold mpIx at h
  unfold mpPut
  split at h
  ·cases h
  ·rename_i hn
   rw [if_neg hn,mpPut_no l n v (i+1) h]
   rfl
theorem run_setObj {P:Program} {w:World} {g:Nat} {es:Array MapEntry} {clock:Nat} (hg:w.heap[g]? = some (.map es clock)) (o:Obj):∃ w',(setObj g o).run P w=.ok () w'∧w'.heap[g]? = some o∧w'.heap.size=w.heap.size∧(∀ b,b≠g→w'.heap[b]? = w.heap[b]?)∧∃ h,w'={ w with heap:=h }:=by
 have hlt:=(Array.getElem?_eq_some_iff.1 hg).1
 refine ⟨{ w with heap:=w.heap.setIfInBounds g o },by simp only [setObj,Sem.run,hg],?_,?_,?_,_,rfl⟩
 ·simp [hlt]
 ·simp
 ·intro b hb
  simp [Ne.symm hb]
theorem run_update {P:Program} {w:World} {t k e:TypeId} {q:IntKind} (ht:P.underlying t=some (.map k e)) (hk:P.underlying k=some (.int q)) {g:Nat} {es:Array MapEntry} {clock:Nat} (hg:w.heap[g]? = some (.map es clock)) {l:List (Int × Int)} (h:es.toList.map (fun e=>(e.key,e.val))=l.map (fun p=>(Value.int .i64 p.1,Value.int .i64 p.2))) (n v:Int) :
  ∃ es' clock' w',(Instr.mapUpdate t (.map (some g)) (.int .i64 n) (.int .i64 v)).run P w=.ok () w'∧w'.heap[g]? = some (.map es' clock')∧es'.toList.map (fun e=>(e.key,e.val))=(mpPut l n v).map (fun p=>(Value.int .i64 p.1,Value.int .i64 p.2))∧w'.heap.size=w.heap.size∧(∀ b,b≠g→w'.heap[b]? = w.heap[b]?)∧∃ h,w'={ w with heap:=h }:=by
 have hget:(getObj g).run P w=.ok (.map es clock) w:=by
  simp only [getObj,Sem.run,hg]
 unfold Instr.mapUpdate
 simp only [Sem.run_bind,run_underlying ht,Result.andThen_ok,hget,check_key hk,find_key hk n h]
 cases hx:mpIx l n 0 with
 | none=>
  obtain ⟨w',h1,h2,h3,h4,h5⟩:=run_setObj (P:=P) hg (.map (es.push { key:=.int .i64 n,val:=.int .i64 v,born:=clock }) (clock+1))
  refine ⟨_,_,w',by simpa using h1,h2,?_,h3,h4,h5⟩
  rw [mpPut_no l n v 0 hx]
  simp [h]
 | some z=>
  obtain ⟨j,u⟩:=z
  obtain ⟨g1,e',g2,g3⟩:=mpPut_at es.toList l n v 0 j u (fun e=>{ e with key:=.int .i64 n,val:=.int .i64 v }) h (by rw [hx,Nat.zero_add]) (fun e=>⟨rfl,rfl⟩)
  have hes:es[j]? = some e':=by simpa using g2
  obtain ⟨w',h1,h2,h3,h4,h5⟩:=run_setObj (P:=P) hg (.map (es.modify j fun e=>{ e with key:=.int .i64 n,val:=.int .i64 v }) clock)
  refine ⟨_,_,w',?_,h2,?_,h3,h4,h5⟩
  ·simp only [Option.map_some,hes,Option.getD_some,g3,Instr.keyThatStays,Instr.sameBits,beq_self_eq_true,Bool.and_self,if_true,Sem.run_bind,Sem.run_pure,Result.andThen_ok]
   exact h1
  ·rw [Array.toList_modify]
   exact g1
def mpAV (ok:Bool) (l:List (Int × Int)) (n:Int):AV:=match ok with
 | true=>.tup [.c (.t (.lit (.int .i64 ((mpGet l n).getD 0)))),.c (.t (.lit (.bool (mpGet l n).isSome)))]
 | false=>.c (.t (.lit (.int .i64 ((mpGet l n).getD 0))))
section
def Ce.plain:Ce→Bool
 | .t _=>true
 | .nil=>true
 | .row _ _=>false
 | .bot=>false
def AV.plain:AV→Bool
 | .c x=>x.plain
 | .agg xs=>xs.all Ce.plain
 | .nilp=>true
 | .iptr _ _=>true
 | .fnI _ _=>true
 | _=>false
def Ent (P:Program) (f:FuncId):Prop:=∀ args w,(callFunc f args).run P w=.ok (.enter f args) w
structure Ct (P:Program) (f:FuncId) (ars:List AV) (r:AV) (rs:List Row) (fresh:Bool):Prop where
 ent:Ent P f
 few:rs.length≤128
 shut:∀ R∈rs,R.shut=true
 plain:ars.all AV.plain=true
 nob:∀ x∈r.bids,False
 rid:∀ x∈r.rids,∃ R,rs[x.1]? = some R∧x.2≤R.ver
 run:∀ (w:World) (vs:List Value) (E0:Env),A2 (R1 E0 w) vs ars→Calls P f vs.toArray w fun e w'=>∃ v,e=.returned v∧Below w.heap.size w w'∧
  ∃ E,RV E w' v r∧(∀ j R,rs[j]? = some R→RR E w' w.heap.size j R)∧(∀ b,b < w.heap.size→E.rl b=.cold→fresh=false∧E0.rl b=.cold)
structure CtM (P:Program) (f:FuncId) (ars:List AV) (ib:List (List Ce)) (ir:List Row) (rv:AV) (ob:List (List Ce)) (orr nr:List Row):Prop where
 ent:Ent P f
 few:nr.length≤128
 shut:∀ R∈orr++nr,R.shut=true
 lb:ob.length=ib.length
 lr:orr.length=ir.length
 vb:∀ b∈rv.bids,b < ib.length
 vr:∀ p∈rv.rids,∃ R:Row,(orr++nr)[p.1]? = some R∧p.2≤R.ver
 br:∀ (i:Nat) (cs:List Ce),ob[i]? = some cs→∀ p∈cs.flatMap Ce.rids,∃ R:Row,(orr++nr)[p.1]? = some R∧p.2≤R.ver
 run:∀ (w0 w:World) (vs:List Value) (E0:Env),Below w0.heap.size w0 w→A2 (R1 E0 w) vs ars→(∀ (i:Nat) cs,ib[i]? = some cs→RB E0 w w0.heap.size i cs)→(∀ (j:Nat) R,ir[j]? = some R→RR E0 w w0.heap.size j R)→
  (∀ b,E0.rl b=.cold∨E0.rl b=.non∨(∃ i,i < ib.length∧E0.rl b=.bx i)∨(∃ j,j < ir.length∧E0.rl b=.rw j)∨∃ j x y,j < ir.length∧E0.rl b=.nst j x y)→(∀ b,b < w0.heap.size→E0.rl b=.cold∨E0.rl b=.non)→
  Calls P f vs.toArray w fun e w'=>∃ v,e=.returned v∧Below w0.heap.size w0 w'∧w.heap.size≤w'.heap.size∧∃ E,RV E w' v rv∧(∀ i,i < ib.length→E.bk i=E0.bk i)∧(∀ (i:Nat) cs,ob[i]? = some cs→RB E w' w0.heap.size i cs)∧(∀ (j:Nat) R,(orr++nr)[j]? = some R→RR E w' w0.heap.size j R)∧(∀ j,j < ir.length→E.vl j 0=E0.vl j 0)∧
   ∀ b,b < w.heap.size→E0.rl b=.cold∨E0.rl b=.non→w'.heap[b]? = w.heap[b]?∧E.rl b=E0.rl b
def ixN (x:Nat):List Nat→Option Nat
 | []=>none
 | y :: r=>bif Nat.beq y x then some 0 else (match ixN x r with
  | some i=>some (i+1)
  | none=>none)
def nodupN:List Nat→Bool
 | []=>true
 | x :: r=>match ixN x r with
  | some _=>false
  | none=>nodupN r
def Ce.rn (mr:List (Nat × Nat)) (id:Nat):Ce→Ce
 | .row j u=>match mr[j]? with
  | some (τ,v)=>.row τ (v+u)
  | none=>.row (id+(j - mr.length)) u
 | x=>x
def AV.rn1 (mb:List Nat) (mr:List (Nat × Nat)) (id:Nat):AV→AV
 | .c x=>.c (x.rn mr id)
 | .agg xs=>.agg (xs.map (Ce.rn mr id))
 | .ptr i o=>match mb[i]? with
  | some b=>.ptr b o
  | none=>.bot
 | .eptr j u k i o=>match mr[j]? with
  | some (τ,v)=>.eptr τ (v+u) k i o
  | none=>.eptr (id+(j - mr.length)) u k i o
 | .nilp=>.nilp
 | .iptr xs o=>.iptr xs o
 | _=>.bot
def AV.rn (mb:List Nat) (mr:List (Nat × Nat)) (id:Nat):AV→AV
 | .tup ars=>.tup (ars.map (AV.rn1 mb mr id))
 | a=>a.rn1 mb mr id
def FitCM (mr:List (Nat × Nat)) (c:Ce):Ce→Prop
 | .t y=>(match c with
  | .t x=>x=y
  | .nil=>∃ k,y=.sl k []
  | _=>False)
 | .nil=>(match c with
  | .nil=>True
  | _=>False)
 | .row j u=>(match mr[j]?,c with
  | some (τ,v),.row τ' v'=>τ'=τ∧v'=v+u
  | _,_=>False)
 | .bot=>True
def FitLM (mr:List (Nat × Nat)):List Ce→List Ce→Prop
 | [],[]=>True
 | c :: cs,d :: ds=>FitCM mr c d∧FitLM mr cs ds
 | _,_=>False
def FitQ (mb:List Nat):List (Nat × Nat)→List (Nat × Nat)→Prop
 | [],[]=>True
 | (b,o) :: cs,(i,o') :: ds=>(match mb[i]? with
  | some x=>b=x∧o=o'
  | none=>False)∧FitQ mb cs ds
 | _,_=>False
def FitM (mb:List Nat) (mr:List (Nat × Nat)) (a:AV):AV→Prop
 | .c y=>(match a with
  | .c x=>FitCM mr x y
  | _=>False)
 | .agg ys=>(match a with
  | .agg xs=>FitLM mr xs ys
  | _=>False)
 | .ptr i o=>(match mb[i]?,a with
  | some b,.ptr b' o'=>b'=b∧o'=o
  | _,_=>False)
 | .eptr j u k i o=>(match mr[j]?,a with
  | some (τ,v),.eptr τ' v' k' i' o'=>τ'=τ∧v'=v+u∧k'=k∧i'=i∧o'=o
  | _,_=>False)
 | .nilp=>(match a with
  | .nilp=>True
  | _=>False)
 | .iptr ys o=>(match a with
  | .iptr xs o'=>xs=ys∧o'=o
  | _=>False)
 | .fn f ds=>(match a with
  | .fn g cs=>g=f∧FitQ mb cs ds
  | _=>False)
 | .bot=>True
 | _=>False
def FitsM (mb:List Nat) (mr:List (Nat × Nat)):List AV→List AV→Prop
 | [],[]=>True
 | a :: ars,b :: bs=>FitM mb mr a b∧FitsM mb mr ars bs
 | _,_=>False
def FitB (st:St) (mr:List (Nat × Nat)):List Nat→List (List Ce)→Prop
 | [],[]=>True
 | b :: bs,cs :: css=>(match lk st.bx b with
  | some us=>FitLM mr us cs
  | none=>False)∧FitB st mr bs css
 | _,_=>False
def FitR (st:St):List (Nat × Nat)→List Row→Prop
 | [],[]=>True
 | (τ,v) :: ms,R :: Rs=>(match lk st.rw τ with
  | some R'=>R'.ver=v∧R.ver=0∧R.ty=R'.ty∧R.k=R'.k∧R.xs=R'.xs∧R.dp=R'.dp∧R.shut=true
  | none=>False)∧FitR st ms Rs
 | _,_=>False
def outB (mr:List (Nat × Nat)) (id:Nat):List Nat→List (List Ce)→List (Nat × List Ce)
 | b :: bs,cs :: css=>(b,cs.map (Ce.rn mr id)) :: outB mr id bs css
 | _,_=>[]
def outR:List (Nat × Nat)→List Row→List (Nat × Row)
 | (τ,v) :: ms,R :: Rs=>(τ,⟨R.ty,R.k,v+R.ver,R.xs,R.dp⟩) :: outR ms Rs
 | _,_=>[]
def memN (n:Nat):List Nat→Bool
 | []=>false
 | m :: r=>bif Nat.beq m n then true else memN n r
def wrL:List Nat:=[213,29,75,31,76,116,117,153,183]
def wrF (_:Nat→Option Ty):Operand→Bool
 | .func g=>memN g wrL
 | .tmp _=>true
 | _=>false
def rowsOf (st:St):List Nat→List Nat
 | []=>[]
 | b :: r=>(match lk st.bx b with
  | some cs=>(cs.flatMap Ce.rids).map (·.1)
  | none=>[])++rowsOf st r
def wrI:List Nat:=[29]
def tyI:Nat:=3
def tyM (st:St) (mr:List (Nat × Nat)):Operand→Bool
 | .func g=>match memN g wrI with
  | true=>mr.all fun p=>match lk st.rw p.1 with
   | some R=>Nat.beq R.ty tyI
   | none=>false
  | false=>true
 | _=>true
def okM (T:Nat→Option Ty) (st:St) (f:Operand) (vs:List AV) (mb:List Nat) (mr:List (Nat × Nat)):Bool:=wrF T f&&(nodupN mb&&(nodupN (mr.map (·.1))&&(mb.all (fun b=>memN b (vs.flatMap AV.bids))&&(mr.all (fun p=>memN p.1 ((vs.flatMap AV.rids).map (·.1)++rowsOf st mb))&&tyM st mr f))))
def FitC (st:St):Ce→Ce→Prop
 | .t x,.t y=>x=y
 | .nil,.t y=>∃ k,y=.sl k []
 | .nil,.nil=>True
 | .row τ ver,.t y=>match lk st.rw τ with
  | some R=>R.ver=ver∧bi R.shut (y=R.tr)
  | none=>False
 | _,_=>False
def FitL (st:St):List Ce→List Ce→Prop
 | [],[]=>True
 | x :: xs,y :: ys=>FitC st x y∧FitL st xs ys
 | _,_=>False
def plainT:List Ce→Option (List Tr)
 | []=>some []
 | .t x :: r=>match plainT r with
  | some xs=>some (x :: xs)
  | none=>none
 | .nil :: r=>match plainT r with
  | some xs=>some (.sl 0 [] :: xs)
  | none=>none
 | .row _ _ :: _=>none
 | .bot :: _=>none
def FitV (st:St):List (Nat × Nat)→List (List Tr × Nat)→Prop
 | [],[]=>True
 | (b,o) :: cs,(ys,o') :: ds=>(o=o'∧(match lk st.bx b with
  | some us=>plainT us=some ys
  | none=>False))∧FitV st cs ds
 | _,_=>False
def Fit (st:St):AV→AV→Prop
 | .c x,.c y=>FitC st x y
 | .agg xs,.agg ys=>FitL st xs ys
 | .nilp,.nilp=>True
 | .iptr xs o,.iptr ys o'=>xs=ys∧o=o'
 | .ptr b o,.iptr ys o'=>FitV st [(b,o)] [(ys,o')]
 | .fnI f cs,.fnI g ds=>f=g∧cs=ds
 | .fn f cs,.fnI g ds=>f=g∧FitV st cs ds
 | _,_=>False
def Fits (st:St):List AV→List AV→Prop
 | [],[]=>True
 | a :: ars,b :: bs=>Fit st a b∧Fits st ars bs
 | _,_=>False
def Ce.ren (m:Nat):Ce→Ce
 | .row j v=>.row (m+j) v
 | x=>x
def AV.ren1 (m:Nat):AV→AV
 | .c x=>.c (x.ren m)
 | .agg xs=>.agg (xs.map (Ce.ren m))
 | .nilp=>.nilp
 | _=>.bot
def AV.ren (m:Nat):AV→AV
 | .tup ars=>.tup (ars.map (AV.ren1 m))
 | a=>a.ren1 m
def numR (m:Nat):Nat→List Row→List (Nat × Row)
 | _,[]=>[]
 | j,R :: rs=>(m+j,R) :: numR m (j+1) rs
def noRw (ars:List AV):Bool:=ars.all fun a=>a.rids.isEmpty&&a.bids.isEmpty
def callA (ars:List AV):AV→Option (Nat × List AV)
 | .fn g caps=>some (g,ars++caps.map fun c=>.ptr c.1 c.2)
 | .fnI g caps=>some (g,ars++caps.map fun c=>.iptr c.1 c.2)
 | _=>none
def capsA (st:St):List Operand→Option (List (Nat × Nat))
 | []=>some []
 | x :: r=>match ev st x,capsA st r with
  | .ptr b o,some cs=>some ((b,o) :: cs)
  | _,_=>none
def partsT (st:St) (sz:Nat):Nat→List (Nat × Operand)→Option (List (List Tr))
 | _,[]=>some []
 | i,(j,x) :: r=>bif Nat.beq i j then (match cellsA (ev st x) with
   | some us=>match plainT us with
    | some ts=>bif Nat.beq ts.length sz then (match partsT st sz (i+1) r with
     | some xs=>some (ts :: xs)
     | none=>none) else none
    | none=>none
   | none=>none) else none
def partsC (st:St) (pl:Nat→Option (Nat × Nat)):List (Nat × Operand)→List Ce→Option (List Ce)
 | [],cs=>some cs
 | (j,x) :: r,cs=>match pl j,cellsA (ev st x) with
  | some (off,sz),some us=>bif Nat.beq us.length sz&&Nat.ble (off+us.length) cs.length then partsC st pl r (splice cs off us) else none
  | _,_=>none
def nilQ:AV→Option Bool
 | .nilp=>some true
 | .ptr _ _=>some false
 | .eptr _ _ _ _ _=>some false
 | .iptr _ _=>some false
 | _=>none
def binA (T:Nat→Option Ty) (t:Nat) (op:BinOp):AV→AV→Option AV
 | .c (.t (.lit (.int k x))),.c (.t (.lit (.int k' y)))=>(match shI op k x y with
  | some v=>some (.c (.t (.lit v)))
  | none=>if k=k' then (match binI op k x y with
   | some v=>some (.c (.t (.lit v)))
   | none=>none) else none)
 | .c (.t (.lit (.bool x))),.c (.t (.lit (.bool y)))=>match T t with
  | some ⟨.bas,_,_,_,_⟩=>(match binB op x y with
   | some v=>some (.c (.t (.lit v)))
   | none=>none)
  | _=>none
 | .c (.t (.lit (.string x))),.c (.t (.lit (.string y)))=>(match op with
  | .eql=>some (.b (x.toList==y.toList))
  | .neq=>some (.b (!(x.toList==y.toList)))
  | .lss=>some (.b (Go.Op.bytesLess x.toList y.toList))
  | .leq=>some (.b (Go.Op.bytesLess x.toList y.toList||x.toList==y.toList))
  | .gtr=>some (.b (!(Go.Op.bytesLess x.toList y.toList||x.toList==y.toList)))
  | .geq=>some (.b (!Go.Op.bytesLess x.toList y.toList))
  | _=>none)
 | .agg xs,.agg ys=>match T t,lits? xs,lits? ys with
  | some y,some us,some vs=>bif (y.isAgg&&!y.eq.isEmpty)&&(litsAre y.eq us&&litsAre y.eq vs) then (match op with
   | .eql=>some (.b (lksEq us vs))
   | .neq=>some (.b (!lksEq us vs))
   | _=>none) else none
  | _,_,_=>none
 | x,.nilp=>match T t,nilQ x with
  | some ⟨.ptr _,_,_,_,_⟩,some b=>(match op with
   | .eql=>some (.b b)
   | .neq=>some (.b (!b))
   | _=>none)
  | _,_=>none
 | _,_=>none
def unA:UnOp→AV→Option AV
 | .not,.c (.t (.lit (.bool b)))=>some (.b (!b))
 | .neg,.c (.t (.lit (.int k n)))=>some (.c (.t (.lit (.int k (k.wrap (0 - n))))))
 | _,_=>none
def pureS (T:Nat→Option Ty) (st:St):Op→Option AV
 | .move x=>some (ev st x)
 | .assign x=>some (ev st x)
 | .load t a=>match T t with
  | some y=>(match ev st a with
   | .ptr b o=>(match lk st.bx b with
    | some cs=>cut y cs o
    | none=>none)
   | .iptr xs o=>cutT y xs o
   | _=>none)
  | none=>none
 | .nilCheck x=>(match ev st x with
  | .ptr b o=>some (.ptr b o)
  | .iptr xs o=>some (.iptr xs o)
  | .eptr τ v k i o=>some (.eptr τ v k i o)
  | _=>none)
 | .binOp op t x y _=>binA T t op (ev st x) (ev st y)
 | .unOp op _ x=>unA op (ev st x)
 | .convert src dst x=>(match T src,T dst,ev st x with
  | some _,some ⟨.int k,_,_,_,_⟩,.c (.t (.lit (.int _ n)))=>some (.c (.t (.lit (.int k (k.wrap n)))))
  | some ⟨.string,_,_,_,_⟩,some ⟨.string,_,_,_,_⟩,.c (.t (.lit (.string s)))=>some (.s s)
  | _,_,_=>none)
 | .field t x f=>(match T t with
  | some ⟨.str fs,_,_,_,_⟩=>(match fs[f]? with
   | some (off,ft)=>(match T ft,ev st x with
    | some y,.agg cs=>cut y cs off
    | _,_=>none)
   | none=>none)
  | _=>none)
 | .fieldAddr t x f=>(match T t with
  | some ⟨.str fs,_,_,_,_⟩=>(match fs[f]? with
   | some (off,ft)=>(match T ft with
    | some y=>bif Nat.blt 0 y.sz then (match ev st x with
     | .ptr b o=>some (.ptr b (o+off))
     | .iptr xs o=>some (.iptr xs (o+off))
     | .eptr τ v k i o=>some (.eptr τ v k i (o+off))
     | _=>none) else none
    | none=>none)
   | none=>none)
  | _=>none)
 | .extract x i=>(match ev st x with
  | .tup vs=>vs[i]?
  | _=>none)
 | .build t parts=>(match T t with
  | some ⟨.str fs,_,_,z,_⟩=>(match partsC st (fun i=>match fs[i]? with
    | some (off,ft)=>(match T ft with
     | some y=>some (off,y.sz)
     | none=>none)
    | none=>none) parts.toList z with
   | some cs=>some (.agg cs)
   | none=>none)
  | some ⟨.arr _ e,_,_,z,_⟩=>(match T e with
   | some y=>(match partsC st (fun i=>some (i*y.sz,y.sz)) parts.toList z with
    | some cs=>some (.agg cs)
    | none=>none)
   | none=>none)
  | _=>none)
 | .call c=>(match c.callee,c.args.toList,c.argTypes.toList with
  | .builtin .len,[x],[t]=>(match T t with
   | some ⟨.string,_,_,_,_⟩=>(match ev st x with
    | .c (.t (.lit (.string s)))=>some (.i s.size)
    | _=>none)
   | some ⟨.slc _,_,_,_,_⟩=>(match lenA st (ev st x) with
    | some n=>some (.i n)
    | none=>none)
   | _=>none)
  | .builtin .max,[x,y],[_,_]=>(match ev st x,ev st y with
   | .c (.t (.lit (.int k n))),.c (.t (.lit (.int _ l)))=>some (.c (.t (.lit (.int k (if l > n then l else n)))))
   | _,_=>none)
  | .builtin .min,[x,y],[_,_]=>(match ev st x,ev st y with
   | .c (.t (.lit (.int k n))),.c (.t (.lit (.int _ l)))=>some (.c (.t (.lit (.int k (if l < n then l else n)))))
   | _,_=>none)
  | _,_,_=>none)
 | .makeFunc fn first caps=>(match fn,first.toList,capsA st caps.toList with
  | .func f,[],some cs=>some (.fn f cs)
  | _,_,_=>none)
 | _=>none
def cellsD (st:St) (i:Nat):Nat→List Ce→Option (List Tr × List (Nat × Nat × Nat × Nat))
 | _,[]=>some ([],[])
 | o,c :: cs=>match treeC st c,cellsD st i (o+1) cs with
  | some t,some (ts,nl)=>some (t :: ts,match c with
   | .row ρ u=>(i,o,ρ,u) :: nl
   | _=>nl)
  | _,_=>none
def lnAt (i o n:Nat):List (Nat × Nat × Nat × Nat)→Prop
 | []=>True
 | l :: r=>(match Nat.ble o l.2.1&&Nat.blt l.2.1 (o+n) with
  | true=>l.1=i
  | false=>True)∧lnAt i o n r
def lnOut (o n:Nat):List (Nat × Nat × Nat × Nat)→List (Nat × Nat × Nat × Nat)
 | []=>[]
 | l :: r=>match Nat.ble o l.2.1&&Nat.blt l.2.1 (o+n) with
  | true=>lnOut o n r
  | false=>l :: lnOut o n r
def lnAll (o n:Nat):List (Nat × Nat × Nat × Nat)→Bool
 | []=>true
 | l :: r=>match Nat.ble o l.2.1&&Nat.blt l.2.1 (o+n) with
  | true=>false
  | false=>lnAll o n r
def lnOf (o:Nat):List (Nat × Nat × Nat × Nat)→Option (Nat × Nat × Nat)
 | []=>none
 | l :: r=>match Nat.beq l.2.1 o with
  | true=>some (l.1,l.2.2)
  | false=>lnOf o r
def freeD (o n:Nat):List (Nat × Nat × Nat)→Bool
 | []=>true
 | l :: r=>match Nat.ble o l.1&&Nat.blt l.1 (o+n) with
  | true=>false
  | false=>freeD o n r
def offD:Nat→List Ce→List (Nat × Nat × Nat)→Bool
 | _,[],_=>true
 | o,.row _ _ :: cs,D=>offD (o+1) cs D
 | o,_ :: cs,D=>freeD o 1 D&&offD (o+1) cs D
def ZFit:List Ce→List Tr→Prop
 | [],[]=>True
 | .t x :: cs,y :: ys=>x=y∧ZFit cs ys
 | .nil :: cs,y :: ys=>(∃ k,y=.sl k [])∧ZFit cs ys
 | _,_=>False
def bound (st:St) (x:Option Operand) (z:Nat) (n:Nat):Prop:=match x with
 | none=>n=z
 | some x=>match ev st x with
  | .c (.t (.lit (.int _ m)))=>m=n
  | _=>False
section
variable (P:Program) (T:Nat→Option Ty)
def bytesL:List (List Tr)→Option (List UInt8)
 | []=>some []
 | [.lit (.int .u8 n)] :: r=>(match bytesL r with
  | some bs=>some (UInt8.ofNat n.toNat :: bs)
  | none=>none)
 | _ :: _=>none
def WPo (st:St) (id:Nat) (o:Oper) (K:Dl→Prop):Prop:=match o.op with
 | .pick c a b=>(match ev st c with
  | .c (.t (.lit (.bool t)))=>cond t ((ev st a).open_ fun v=>K (.val v)) ((ev st b).open_ fun v=>K (.val v))
  | _=>False)
 | .alloc e=>(match T e with
  | some y=>forceSp y.z fun z=>K ⟨.ptr id 0,[(id,z)],[]⟩
  | none=>False)
 | .box _ x=>(match cellsA (ev st x) with
  | some cs=>K ⟨.ptr id 0,[(id,cs)],[]⟩
  | none=>False)
 | .store t a x=>(match T t,cellsA (ev st x) with
  | some y,some us=>bi (Nat.beq us.length y.sz) <| (match ev st a with
   | .ptr b o=>(match lk st.bx b with
    | some cs=>bi (Nat.ble (o+us.length) cs.length) <| forceSp (splice cs o us) fun cs'=>K ⟨.bot,[(b,cs')],[]⟩
    | none=>False)
   | .eptr τ ver k i o=>(match lk st.rw τ,plainT us with
    | some ⟨rty,rk,rver,rxs,none⟩,some ts=>bi (Nat.beq rver ver&&Nat.beq rk k) <| ∃ xs,rxs[i]? = some xs∧o+ts.length≤rk∧K ⟨.bot,[],[(τ,⟨rty,rk,rver,rxs.set i (spliceT xs o ts),none⟩)]⟩
    | some ⟨rty,rk,rver,rxs,some d⟩,_=>(match cellsD st i o us with
     | some (ts,nl)=>bi (Nat.beq rver ver&&Nat.beq rk k) <| ∃ xs,rxs[i]? = some xs∧o+ts.length≤rk∧lnAt i o ts.length d.ln∧(offD o us d.D=true∨d.c≤i)∧K ⟨.bot,[],[(τ,⟨rty,rk,rver,rxs.set i (spliceT xs o ts),some ⟨d.D,d.c,nl++lnOut o ts.length d.ln⟩⟩)]⟩
     | none=>False)
    | _,_=>False)
   | _=>False)
  | _,_=>False)
 | .load t a=>(match ev st a with
  | .eptr τ ver k i o=>(match T t,lk st.rw τ with
   | some y,some R=>bi (Nat.beq R.ver ver&&Nat.beq R.k k) <| (match R.dp with
    | none=>∃ xs v,R.xs[i]? = some xs∧cutT y xs o=some v∧K (.val v)
    | some d=>(match lnAll o y.wd d.ln with
     | true=>∃ xs v,R.xs[i]? = some xs∧cutT y xs o=some v∧(freeD o y.wd d.D=true∨d.c≤i)∧K (.val v)
     | false=>(match lnOf o d.ln with
      | some (i',ρ,u)=>bi (!y.isAgg) <| i'=i∧i < R.xs.length∧o < R.k∧K (.val (.c (.row ρ u)))
      | none=>False)))
   | _,_=>False)
  | _=>match pureS T st o.op with
   | some v=>v.open_ fun v=>K (.val v)
   | none=>False)
 | .indexAddr t x ix=>(match T t,ev st ix with
  | some ⟨.slc e,_,_,_,_⟩,.c (.t (.lit (.int _ n)))=>(match T e,ev st x with
   | some y,.c (.t (.sl k xs))=>bi (Nat.beq k y.sz) <| ∃ (j:Nat) (ts:List Tr),n=j∧xs[j]? = some ts∧K (.val (.iptr ts 0))
   | some y,.c (.row τ ver)=>(match lk st.rw τ with
    | some R=>bi (Nat.beq R.ver ver&&(Nat.beq R.k y.sz&&!R.isM)) <| ∃ j:Nat,n=j∧j < R.xs.length∧K (.val (.eptr τ ver R.k j 0))
    | none=>False)
   | _,_=>False)
  | some ⟨.arr m e,_,_,_,_⟩,.c (.t (.lit (.int _ n)))=>(match T e,ev st x with
   | some y,.ptr b o=>∃ j:Nat,n=j∧j < m∧K (.val (.ptr b (o+j*y.sz)))
   | some y,.iptr xs o=>∃ j:Nat,n=j∧j < m∧K (.val (.iptr xs (o+j*y.sz)))
   | some y,.eptr τ ver k i o=>∃ j:Nat,n=j∧j < m∧K (.val (.eptr τ ver k i (o+j*y.sz)))
   | _,_=>False)
  | _,_=>False)
 | .index t x ix=>(match T t,ev st x,ev st ix with
  | some ⟨.string,_,_,_,_⟩,.c (.t (.lit (.string s))),.c (.t (.lit (.int _ n)))=>∃ (j:Nat) (h:j < s.size),n=j∧K (.val (.c (.t (.lit (.int .u8 (s[j]'h).toNat)))))
  | some ⟨.arr m e,_,_,_,_⟩,.agg cs,.c (.t (.lit (.int _ n)))=>(match T e with
   | some y=>∃ (j:Nat) (v:AV),n=j∧j < m∧cut y cs (j*y.sz)=some v∧K (.val v)
   | none=>False)
  | _,_,_=>False)
 | .slice t x lo hi mx=>(match mx,T t,ev st x with
  | none,some ⟨.string,_,_,_,_⟩,.c (.t (.lit (.string s)))=>∃ l h:Nat,bound st lo 0 l∧bound st hi s.size h∧l≤h∧h≤s.size∧K (.val (.s (s.extract l h)))
  | none,some ⟨.slc e,_,_,_,_⟩,.c (.t (.sl k xs))=>(match T e with
   | some y=>bi (Nat.beq k y.sz) <| ∃ l h:Nat,bound st lo 0 l∧bound st hi xs.length h∧l≤h∧h≤xs.length∧K (.val (.c (.t (.sl k ((xs.take h).drop l)))))
   | none=>False)
  | none,some ⟨.slc e,_,_,_,_⟩,.c (.row τ ver)=>(match T e,lk st.rw τ,hi,lo with
   | some y,some R,none,lo=>bi (Nat.beq R.ver ver&&(Nat.beq R.k y.sz&&!R.isM)) <| ∃ l:Nat,bound st lo 0 l∧l≤R.xs.length∧K (.val (.sub τ ver R.k l))
   | some y,some ⟨rty,rk,rver,rxs,none⟩,some x,none=>bi (Nat.beq rver ver&&Nat.beq rk y.sz) <| ∃ h:Nat,bound st (some x) 0 h∧h≤rxs.length∧K ⟨.c (.row τ (ver+1)),[],[(τ,⟨rty,rk,ver+1,rxs.take h,none⟩)]⟩
   | _,_,_,_=>False)
  | _,_,_=>False)
 | .buildSlice t len parts=>(match T t with
  | some ⟨.slc e,_,_,_,_⟩=>(match T e with
   | some y=>(match partsT st y.sz 0 parts.toList with
    | some xs=>bi (Nat.beq xs.length len&&(Nat.ble (len*y.sz) 10000&&Nat.blt 0 y.sz)) <| K ⟨.c (.row id 0),[],[(id,⟨e,y.sz,0,xs,none⟩)]⟩
    | none=>False)
   | none=>False)
  | _=>False)
 | .makeSlice t l c=>(match T t,ev st l,ev st c with
  | some ⟨.slc e,_,_,_,_⟩,.c (.t (.lit (.int _ n))),.c (.t (.lit (.int _ n')))=>(match T e with
   | some y=>∃ (k:Nat) (zs:List Tr),(n=k∧n'=k)∧ZFit y.z zs∧(k*y.by_≤140737488355328∧k < 140737488355328)∧K ⟨.c (.row id 0),[],[(id,⟨e,y.sz,0,List.replicate k zs,none⟩)]⟩
   | none=>False)
  | _,_,_=>False)
 | .call c=>(match c.callee with
  | .value f=>(match callA (c.args.toList.map (ev st)) (ev st f) with
   | some (g,vs)=>(∃ ars r rs fresh,Fits st vs ars∧Ct P g ars r rs fresh∧(fresh=true∨noRw vs=true)∧K ⟨r.ren id,[],numR id 0 rs⟩)∨
    ∃ mb mr ars ib ir rv ob orr nr,(FitsM mb mr vs ars∧FitB st mr mb ib∧FitR st mr ir)∧okM T st f vs mb mr=true∧CtM P g ars ib ir rv ob orr nr∧K ⟨rv.rn mb mr id,outB mr id mb ob,outR mr orr++numR id 0 nr⟩
   | none=>False)
  | .builtin .append=>(match c.args.toList,c.argTypes.toList with
   | [s,x],[t,t']=>bi (Nat.beq t t') <| (match T t with
    | some ⟨.slc e,_,_,_,_⟩=>(match T e,elemsA st (ev st x) with
     | some y,some (k,ys)=>(match ev st s with
      | .c .nil=>bi (Nat.blt 0 y.sz) <| (k=y.sz∨ys=[])∧ys.length*y.by_≤140737488355328∧ys.length < 140737488355328∧K ⟨.c (.row id 0),[],[(id,⟨e,y.sz,0,ys,none⟩)]⟩
      | .c (.row τ ver)=>(match lk st.rw τ with
       | some ⟨rty,rk,rver,rxs,none⟩=>bi (Nat.beq rver ver&&(Nat.beq rk y.sz&&(Nat.beq rty e&&Nat.blt 0 y.sz))) <| (k=y.sz∨ys=[])∧(rxs.length+ys.length)*y.by_≤140737488355328∧rxs.length+ys.length < 140737488355328∧K ⟨.c (.row τ (ver+1)),[],[(τ,⟨rty,rk,ver+1,rxs++ys,none⟩)]⟩
       | _=>False)
      | _=>False)
     | _,_=>False)
    | _=>False)
   | _,_=>False)
  | .builtin .clear=>(match c.args.toList,c.argTypes.toList with
   | [x],[t]=>(match T t,ev st x with
    | some ⟨.slc e,_,_,_,_⟩,.sub τ ver k i=>(match T e,lk st.rw τ with
     | some y,some ⟨rty,rk,rver,rxs,none⟩=>bi (Nat.beq rver ver&&(Nat.beq rk k&&Nat.beq rk y.sz)) <| ∃ zs,ZFit y.z zs∧i≤rxs.length∧K ⟨.bot,[],[(τ,⟨rty,rk,rver,rxs.take i++List.replicate (rxs.length - i) zs,none⟩)]⟩
     | _,_=>False)
    | _,_=>False)
   | _,_=>False)
  | .builtin .copy=>(match c.args.toList,c.argTypes.toList with
   | [s,x],[t,_]=>(match T t,ev st s,ev st x with
    | some ⟨.slc e,_,_,_,_⟩,.c (.row τ ver),.c (.t (.sl k ys))=>(match T e,lk st.rw τ with
     | some y,some ⟨rty,rk,rver,rxs,none⟩=>bi (Nat.beq rver ver&&(Nat.beq rk y.sz&&Nat.beq rty e)) <| (k=y.sz∨ys=[])∧ys.length≤rxs.length∧K ⟨.i ys.length,[],[(τ,⟨rty,rk,rver,ys++rxs.drop ys.length,none⟩)]⟩
     | _,_=>False)
    | _,_,_=>False)
   | _,_=>False)
  | .builtin .len=>(match c.args.toList,c.argTypes.toList with
   | [x],[t]=>(match T t,ev st x with
    | some ⟨.map _ _,_,_,_,_⟩,.c (.row τ ver)=>(match lk st.rw τ with
     | some R=>bi (Nat.beq R.ver ver&&R.isM) <| ∃ l,R.xs=mpX l∧K (.val (.i l.length))
     | none=>False)
    | _,_=>match pureS T st o.op with
     | some v=>v.open_ fun v=>K (.val v)
     | none=>False)
   | _,_=>match pureS T st o.op with
    | some v=>v.open_ fun v=>K (.val v)
    | none=>False)
  | _=>match pureS T st o.op with
   | some v=>v.open_ fun v=>K (.val v)
   | none=>False)
 | .makeMap t none=>(match T t with
  | some ⟨.map _ _,_,_,_,_⟩=>K ⟨.c (.row id 0),[],[(id,⟨t,0,0,mpX [],some mpD⟩)]⟩
  | _=>False)
 | .mapUpdate t m x v=>(match T t,ev st m,ev st x,ev st v with
  | some ⟨.map _ _,_,_,_,_⟩,.c (.row τ ver),.c (.t (.lit (.int .i64 n))),.c (.t (.lit (.int .i64 u)))=>(match lk st.rw τ with
   | some ⟨rty,rk,rver,rxs,rdp⟩=>bi (Nat.beq rver ver&&Row.isM ⟨rty,rk,rver,rxs,rdp⟩) <| ∃ l,rxs=mpX l∧K ⟨.bot,[],[(τ,⟨rty,rk,rver,mpX (mpPut l n u),rdp⟩)]⟩
   | none=>False)
  | _,_,_,_=>False)
 | .lookup t m x ok=>(match T t,ev st m,ev st x with
  | some ⟨.map _ _,_,_,_,_⟩,.c (.row τ ver),.c (.t (.lit (.int .i64 n)))=>(match lk st.rw τ with
   | some R=>bi (Nat.beq R.ver ver&&R.isM) <| ∃ l,R.xs=mpX l∧K (.val (mpAV ok l n))
   | none=>False)
  | some ⟨.map _ _,_,_,_,_⟩,.c (.t (.mp xs)),.c (.t (.lit (.int .i64 n)))=>∃ l,xs=mpX l∧K (.val (mpAV ok l n))
  | _,_,_=>False)
 | .binOp .add _ x y _=>(match ev st x,ev st y with
  | .c (.t (.lit (.string a))),.c (.t (.lit (.string b)))=>a.size+b.size≤9223372036854775807∧K (.val (.s (a++b)))
  | _,_=>match pureS T st o.op with
   | some v=>v.open_ fun v=>K (.val v)
   | none=>False)
 | .binOp .rem _ x y _=>(match ev st x,ev st y with
  | .c (.t (.lit (.int k a))),.c (.t (.lit (.int k' b)))=>k=k'∧b≠0∧K (.val (.c (.t (.lit (.int k (a.tmod b))))))
  | _,_=>False)
 | .binOp .quo _ x y _=>(match ev st x,ev st y with
  | .c (.t (.lit (.int k a))),.c (.t (.lit (.int k' b)))=>k=k'∧b≠0∧K (.val (.c (.t (.lit (.int k (k.wrap (a.tdiv b)))))))
  | _,_=>False)
 | .convert src dst x=>(match T src,T dst with
  | some ⟨.slc e,_,_,_,_⟩,some ⟨.string,_,_,_,_⟩=>(match T e,elemsA st (ev st x) with
   | some ⟨.int .u8,_,_,_,_⟩,some (1,xs)=>(match bytesL xs with
    | some bs=>K (.val (.s ⟨bs.toArray⟩))
    | none=>False)
   | _,_=>False)
  | _,_=>match pureS T st o.op with
   | some v=>v.open_ fun v=>K (.val v)
   | none=>False)
 | op=>match pureS T st op with
  | some v=>v.open_ fun v=>K (.val v)
  | none=>False
inductive Stp (st:St) (id:Nat):Op→Dl→Prop
 | pure {op:Op} {v:AV}:pureS T st op=some v→Stp st id op (.val v)
 | pick {c a b:Operand} {t:Bool}:ev st c=.c (.t (.lit (.bool t)))→Stp st id (.pick c a b) (.val (cond t (ev st a) (ev st b)))
 | cat {t t':Nat} {x y:Operand} {a b:ByteArray}:ev st x=.c (.t (.lit (.string a)))→ev st y=.c (.t (.lit (.string b)))→a.size+b.size≤9223372036854775807→Stp st id (.binOp .add t x y t') (.val (.s (a++b)))
 | cvs {src dst e:Nat} {x:Operand} {s1 b1 s2 b2 s3 b3:Nat} {z1 z2 z3:List Ce} {q1 q2 q3:List Lk} {xs:List (List Tr)} {bs:List UInt8}:T src=some ⟨.slc e,s1,b1,z1,q1⟩→T dst=some ⟨.string,s2,b2,z2,q2⟩→T e=some ⟨.int .u8,s3,b3,z3,q3⟩→elemsA st (ev st x)=some (1,xs)→bytesL xs=some bs→Stp st id (.convert src dst x) (.val (.s ⟨bs.toArray⟩))
 | alloc {e:Nat} {y:Ty}:T e=some y→Stp st id (.alloc e) ⟨.ptr id 0,[(id,y.z)],[]⟩
 | box {e:Nat} {x:Operand} {cs:List Ce}:cellsA (ev st x)=some cs→Stp st id (.box e x) ⟨.ptr id 0,[(id,cs)],[]⟩
 | storeB {t:Nat} {a x:Operand} {y:Ty} {us:List Ce} {b o:Nat} {cs:List Ce}:T t=some y→cellsA (ev st x)=some us→us.length=y.sz→ev st a=.ptr b o→lk st.bx b=some cs→o+us.length≤cs.length→Stp st id (.store t a x) ⟨.bot,[(b,splice cs o us)],[]⟩
 | storeE {t:Nat} {a x:Operand} {y:Ty} {us:List Ce} {ts:List Tr} {τ ver k i o:Nat} {R:Row} {xs:List Tr}:T t=some y→cellsA (ev st x)=some us→us.length=y.sz→ev st a=.eptr τ ver k i o→lk st.rw τ=some R→R.ver=ver→R.k=k→R.dp=none→plainT us=some ts→R.xs[i]? = some xs→o+ts.length≤R.k→
   Stp st id (.store t a x) ⟨.bot,[],[(τ,{ R with xs:=R.xs.set i (spliceT xs o ts) })]⟩
 | loadE {t:Nat} {a:Operand} {y:Ty} {τ ver k i o:Nat} {R:Row} {xs:List Tr} {v:AV}:ev st a=.eptr τ ver k i o→T t=some y→lk st.rw τ=some R→R.ver=ver→R.k=k→R.dp=none→R.xs[i]? = some xs→cutT y xs o=some v→Stp st id (.load t a) (.val v)
 | storeD {t:Nat} {a x:Operand} {y:Ty} {us:List Ce} {ts:List Tr} {nl:List (Nat × Nat × Nat × Nat)} {τ ver k i o:Nat} {R:Row} {d:Dp} {xs:List Tr}:T t=some y→cellsA (ev st x)=some us→us.length=y.sz→ev st a=.eptr τ ver k i o→lk st.rw τ=some R→R.ver=ver→R.k=k→R.dp=some d→cellsD st i o us=some (ts,nl)→R.xs[i]? = some xs→o+ts.length≤R.k→lnAt i o ts.length d.ln→(offD o us d.D=true∨d.c≤i)→
   Stp st id (.store t a x) ⟨.bot,[],[(τ,{ R with xs:=R.xs.set i (spliceT xs o ts),dp:=some ⟨d.D,d.c,nl++lnOut o ts.length d.ln⟩ })]⟩
 | loadD {t:Nat} {a:Operand} {y:Ty} {τ ver k i o:Nat} {R:Row} {d:Dp} {xs:List Tr} {v:AV}:ev st a=.eptr τ ver k i o→T t=some y→lk st.rw τ=some R→R.ver=ver→R.k=k→R.dp=some d→lnAll o y.wd d.ln=true→R.xs[i]? = some xs→cutT y xs o=some v→(freeD o y.wd d.D=true∨d.c≤i)→Stp st id (.load t a) (.val v)
 | loadL {t:Nat} {a:Operand} {y:Ty} {τ ver k i o ρ u:Nat} {R:Row} {d:Dp}:ev st a=.eptr τ ver k i o→T t=some y→lk st.rw τ=some R→R.ver=ver→R.k=k→R.dp=some d→lnOf o d.ln=some (i,ρ,u)→y.isAgg=false→i < R.xs.length→o < R.k→Stp st id (.load t a) (.val (.c (.row ρ u)))
 | ixT {t e:Nat} {x ix:Operand} {s b:Nat} {z:List Ce} {q:List Lk} {kk:IntKind} {n:Int} {y:Ty} {k:Nat} {xs:List (List Tr)} {j:Nat} {ts:List Tr}:T t=some ⟨.slc e,s,b,z,q⟩→ev st ix=.c (.t (.lit (.int kk n)))→T e=some y→ev st x=.c (.t (.sl k xs))→k=y.sz→n=j→xs[j]? = some ts→Stp st id (.indexAddr t x ix) (.val (.iptr ts 0))
 | ixR {t e:Nat} {x ix:Operand} {s b:Nat} {z:List Ce} {q:List Lk} {kk:IntKind} {n:Int} {y:Ty} {τ ver:Nat} {R:Row} {j:Nat}:T t=some ⟨.slc e,s,b,z,q⟩→ev st ix=.c (.t (.lit (.int kk n)))→T e=some y→ev st x=.c (.row τ ver)→lk st.rw τ=some R→R.ver=ver→R.k=y.sz→R.isM=false→n=j→j < R.xs.length→Stp st id (.indexAddr t x ix) (.val (.eptr τ ver R.k j 0))
 | ixAp {t m e:Nat} {x ix:Operand} {s b:Nat} {z:List Ce} {q:List Lk} {kk:IntKind} {n:Int} {y:Ty} {g o j:Nat}:T t=some ⟨.arr m e,s,b,z,q⟩→ev st ix=.c (.t (.lit (.int kk n)))→T e=some y→ev st x=.ptr g o→n=j→j < m→Stp st id (.indexAddr t x ix) (.val (.ptr g (o+j*y.sz)))
 | ixAi {t m e:Nat} {x ix:Operand} {s b:Nat} {z:List Ce} {q:List Lk} {kk:IntKind} {n:Int} {y:Ty} {xs:List Tr} {o j:Nat}:T t=some ⟨.arr m e,s,b,z,q⟩→ev st ix=.c (.t (.lit (.int kk n)))→T e=some y→ev st x=.iptr xs o→n=j→j < m→Stp st id (.indexAddr t x ix) (.val (.iptr xs (o+j*y.sz)))
 | ixAe {t m e:Nat} {x ix:Operand} {s b:Nat} {z:List Ce} {q:List Lk} {kk:IntKind} {n:Int} {y:Ty} {τ ver k i o j:Nat}:T t=some ⟨.arr m e,s,b,z,q⟩→ev st ix=.c (.t (.lit (.int kk n)))→T e=some y→ev st x=.eptr τ ver k i o→n=j→j < m→Stp st id (.indexAddr t x ix) (.val (.eptr τ ver k i (o+j*y.sz)))
 | ixS {t:Nat} {x ix:Operand} {s b:Nat} {z:List Ce} {q:List Lk} {kk:IntKind} {n:Int} {str:ByteArray} {j:Nat} (h:j < str.size):T t=some ⟨.string,s,b,z,q⟩→ev st x=.c (.t (.lit (.string str)))→ev st ix=.c (.t (.lit (.int kk n)))→n=j→Stp st id (.index t x ix) (.val (.c (.t (.lit (.int .u8 (str[j]'h).toNat)))))
 | ixA {t m e:Nat} {x ix:Operand} {s b:Nat} {z:List Ce} {q:List Lk} {kk:IntKind} {n:Int} {y:Ty} {cs:List Ce} {j:Nat} {v:AV}:T t=some ⟨.arr m e,s,b,z,q⟩→ev st x=.agg cs→ev st ix=.c (.t (.lit (.int kk n)))→T e=some y→n=j→j < m→cut y cs (j*y.sz)=some v→Stp st id (.index t x ix) (.val v)
 | slS {t:Nat} {x:Operand} {lo hi:Option Operand} {s b:Nat} {z:List Ce} {q:List Lk} {str:ByteArray} {l h:Nat}:T t=some ⟨.string,s,b,z,q⟩→ev st x=.c (.t (.lit (.string str)))→bound st lo 0 l→bound st hi str.size h→l≤h→h≤str.size→Stp st id (.slice t x lo hi none) (.val (.s (str.extract l h)))
 | slT {t e:Nat} {x:Operand} {lo hi:Option Operand} {s b:Nat} {z:List Ce} {q:List Lk} {y:Ty} {k:Nat} {xs:List (List Tr)} {l h:Nat}:T t=some ⟨.slc e,s,b,z,q⟩→ev st x=.c (.t (.sl k xs))→T e=some y→k=y.sz→bound st lo 0 l→bound st hi xs.length h→l≤h→h≤xs.length→Stp st id (.slice t x lo hi none) (.val (.c (.t (.sl k ((xs.take h).drop l)))))
 | slR {t e:Nat} {x:Operand} {lo:Option Operand} {s b:Nat} {z:List Ce} {q:List Lk} {y:Ty} {τ ver:Nat} {R:Row} {l:Nat}:T t=some ⟨.slc e,s,b,z,q⟩→ev st x=.c (.row τ ver)→T e=some y→lk st.rw τ=some R→R.ver=ver→R.k=y.sz→R.isM=false→bound st lo 0 l→l≤R.xs.length→Stp st id (.slice t x lo none none) (.val (.sub τ ver R.k l))
 | slV {t e:Nat} {x hi:Operand} {s b:Nat} {z:List Ce} {q:List Lk} {y:Ty} {τ ver:Nat} {R:Row} {h:Nat}:T t=some ⟨.slc e,s,b,z,q⟩→ev st x=.c (.row τ ver)→T e=some y→lk st.rw τ=some R→R.ver=ver→R.k=y.sz→R.dp=none→bound st (some hi) 0 h→h≤R.xs.length→Stp st id (.slice t x none (some hi) none) ⟨.c (.row τ (ver+1)),[],[(τ,{ R with ver:=ver+1,xs:=R.xs.take h })]⟩
 | clr {x:Operand} {t e:Nat} {s b:Nat} {z:List Ce} {q:List Lk} {y:Ty} {τ ver k i:Nat} {R:Row} {zs:List Tr}:T t=some ⟨.slc e,s,b,z,q⟩→T e=some y→ev st x=.sub τ ver k i→lk st.rw τ=some R→R.ver=ver→R.k=k→R.k=y.sz→R.dp=none→ZFit y.z zs→i≤R.xs.length→Stp st id (.call ⟨.builtin .clear,#[x],#[t]⟩) ⟨.bot,[],[(τ,{ R with xs:=R.xs.take i++List.replicate (R.xs.length - i) zs })]⟩
 | mks {t e:Nat} {l c:Operand} {s b:Nat} {z:List Ce} {q:List Lk} {y:Ty} {kl kc:IntKind} {n:Nat} {zs:List Tr}:T t=some ⟨.slc e,s,b,z,q⟩→T e=some y→ev st l=.c (.t (.lit (.int kl (n:Int))))→ev st c=.c (.t (.lit (.int kc (n:Int))))→ZFit y.z zs→n*y.by_≤140737488355328→n < 140737488355328→Stp st id (.makeSlice t l c) ⟨.c (.row id 0),[],[(id,⟨e,y.sz,0,List.replicate n zs,none⟩)]⟩
 | cpy {s x:Operand} {t t' e:Nat} {sz b:Nat} {z:List Ce} {q:List Lk} {y:Ty} {k:Nat} {ys:List (List Tr)} {τ ver:Nat} {R:Row}:T t=some ⟨.slc e,sz,b,z,q⟩→T e=some y→ev st x=.c (.t (.sl k ys))→ev st s=.c (.row τ ver)→lk st.rw τ=some R→R.ver=ver→R.k=y.sz→R.ty=e→R.dp=none→(k=y.sz∨ys=[])→ys.length≤R.xs.length→
   Stp st id (.call ⟨.builtin .copy,#[s,x],#[t,t']⟩) ⟨.i ys.length,[],[(τ,{ R with xs:=ys++R.xs.drop ys.length })]⟩
 | bsl {t e:Nat} {len:Nat} {parts:Array (Nat × Operand)} {s b:Nat} {z:List Ce} {q:List Lk} {y:Ty} {xs:List (List Tr)}:T t=some ⟨.slc e,s,b,z,q⟩→T e=some y→partsT st y.sz 0 parts.toList=some xs→xs.length=len→len*y.sz≤10000→0 < y.sz→Stp st id (.buildSlice t len parts) ⟨.c (.row id 0),[],[(id,⟨e,y.sz,0,xs,none⟩)]⟩
 | call {f:Operand} {args:Array Operand} {tys:Array TypeId} {g:Nat} {vs ars:List AV} {r:AV} {rs:List Row} {fresh:Bool}:callA (args.toList.map (ev st)) (ev st f)=some (g,vs)→Fits st vs ars→Ct P g ars r rs fresh→(fresh=true∨noRw vs=true)→Stp st id (.call ⟨.value f,args,tys⟩) ⟨r.ren id,[],numR id 0 rs⟩
 | callM {f:Operand} {args:Array Operand} {tys:Array TypeId} {g:Nat} {vs ars:List AV} {mb:List Nat} {mr:List (Nat × Nat)} {ib:List (List Ce)} {ir:List Row} {rv:AV} {ob:List (List Ce)} {orr nr:List Row}:callA (args.toList.map (ev st)) (ev st f)=some (g,vs)→FitsM mb mr vs ars→FitB st mr mb ib→FitR st mr ir→okM T st f vs mb mr=true→CtM P g ars ib ir rv ob orr nr→Stp st id (.call ⟨.value f,args,tys⟩) ⟨rv.rn mb mr id,outB mr id mb ob,outR mr orr++numR id 0 nr⟩
 | appN {s x:Operand} {t e:Nat} {sz b:Nat} {z:List Ce} {q:List Lk} {y:Ty} {k:Nat} {ys:List (List Tr)}:T t=some ⟨.slc e,sz,b,z,q⟩→T e=some y→elemsA st (ev st x)=some (k,ys)→ev st s=.c .nil→(k=y.sz∨ys=[])→ys.length*y.by_≤140737488355328→ys.length < 140737488355328→0 < y.sz→
   Stp st id (.call ⟨.builtin .append,#[s,x],#[t,t]⟩) ⟨.c (.row id 0),[],[(id,⟨e,y.sz,0,ys,none⟩)]⟩
 | appR {s x:Operand} {t e:Nat} {sz b:Nat} {z:List Ce} {q:List Lk} {y:Ty} {k:Nat} {ys:List (List Tr)} {τ ver:Nat} {R:Row}:T t=some ⟨.slc e,sz,b,z,q⟩→T e=some y→elemsA st (ev st x)=some (k,ys)→ev st s=.c (.row τ ver)→lk st.rw τ=some R→R.ver=ver→R.k=y.sz→R.ty=e→R.dp=none→(k=y.sz∨ys=[])→(R.xs.length+ys.length)*y.by_≤140737488355328→R.xs.length+ys.length < 140737488355328→0 < y.sz→
   Stp st id (.call ⟨.builtin .append,#[s,x],#[t,t]⟩) ⟨.c (.row τ (ver+1)),[],[(τ,{ R with ver:=ver+1,xs:=R.xs++ys })]⟩
 | mkm {t k e:Nat} {s b:Nat} {z:List Ce} {q:List Lk}:T t=some ⟨.map k e,s,b,z,q⟩→Stp st id (.makeMap t none) ⟨.c (.row id 0),[],[(id,⟨t,0,0,mpX [],some mpD⟩)]⟩
 | mpU {t k e:Nat} {m x v:Operand} {s b:Nat} {z:List Ce} {q:List Lk} {τ ver:Nat} {R:Row} {l:List (Int × Int)} {n u:Int}:T t=some ⟨.map k e,s,b,z,q⟩→ev st m=.c (.row τ ver)→lk st.rw τ=some R→R.ver=ver→R.isM=true→R.xs=mpX l→ev st x=.c (.t (.lit (.int .i64 n)))→ev st v=.c (.t (.lit (.int .i64 u)))→Stp st id (.mapUpdate t m x v) ⟨.bot,[],[(τ,{ R with xs:=mpX (mpPut l n u) })]⟩
 | lkR {t k e:Nat} {m x:Operand} {ok:Bool} {s b:Nat} {z:List Ce} {q:List Lk} {τ ver:Nat} {R:Row} {l:List (Int × Int)} {n:Int}:T t=some ⟨.map k e,s,b,z,q⟩→ev st m=.c (.row τ ver)→lk st.rw τ=some R→R.ver=ver→R.isM=true→R.xs=mpX l→ev st x=.c (.t (.lit (.int .i64 n)))→Stp st id (.lookup t m x ok) (.val (mpAV ok l n))
 | lkT {t k e:Nat} {m x:Operand} {ok:Bool} {s b:Nat} {z:List Ce} {q:List Lk} {xs:List (List Tr)} {l:List (Int × Int)} {n:Int}:T t=some ⟨.map k e,s,b,z,q⟩→ev st m=.c (.t (.mp xs))→xs=mpX l→ev st x=.c (.t (.lit (.int .i64 n)))→Stp st id (.lookup t m x ok) (.val (mpAV ok l n))
 | lenM {t k e:Nat} {m:Operand} {s b:Nat} {z:List Ce} {q:List Lk} {τ ver:Nat} {R:Row} {l:List (Int × Int)}:T t=some ⟨.map k e,s,b,z,q⟩→ev st m=.c (.row τ ver)→lk st.rw τ=some R→R.ver=ver→R.isM=true→R.xs=mpX l→Stp st id (.call ⟨.builtin .len,#[m],#[t]⟩) (.val (.i l.length))
def WPh (id i:Nat) (o:Oper) (go:Bool) (st:St) (K:St→Prop):Prop:=st.open_ fun st=>match go with
 | true=>WPo P T st (id+128*i) o (fun d=>(st.app o.dst d).open_ K)
 | false=>(st.put? o.dst (.tup [])).open_ K
def WPg (ops:Array Oper) (id i:Nat) (o:Oper) (st:St) (K:St→Prop):Prop:=match o.guard with
 | none=>WPo P T st (id+128*i) o fun d=>(st.app o.dst d).open_ K
 | some (g,want)=>match (ops[g]?).bind (·.dst) with
  | none=>False
  | some t=>match st.get t with
   | .c (.t (.lit (.bool b)))=>cond b (WPh P T id i o want (st.put t (AV.b true)) K) (WPh P T id i o (!want) (st.put t (AV.b false)) K)
   | .tup []=>(st.put? o.dst (.tup [])).open_ K
   | _=>False
def WPops (ops:Array Oper) (id i:Nat) (l:List Oper):St→(St→Prop)→Prop:=
 List.rec (motive:=fun _=>Nat→St→(St→Prop)→Prop) (fun _ st K=>K st) (fun o _ ih i st K=>WPg P T ops id i o st fun st'=>ih (i+1) st' K) l i
inductive Ex where
 | nrm
 | exit (id:Nat)
 | ret
def ceIs:Ce→Value→Bool
 | .t (.lit (.int k n)),.int k' n'=>decide (k=k')&&decide (n=n')
 | .t (.lit (.bool b)),.bool b'=>b==b'
 | .t (.lit (.string s)),.string s'=>s.data.size==0&&s'.data.size==0
 | .nil,.slice none 0 0=>true
 | .bot,.pointer none=>true
 | .bot,.map none=>true
 | _,_=>false
def cesAre:List Ce→List Value→Bool
 | [],[]=>true
 | c :: cs,v :: vs=>ceIs c v&&cesAre cs vs
 | _,_=>false
def ksAre:List K→List Lk→Bool
 | [],[]=>true
 | .lit k :: ks,l :: ls=>decide (k=l)&&ksAre ks ls
 | _,_=>false
def fieldsAre (P:Program):List Field→List (Nat × Nat)→Bool
 | [],[]=>true
 | f :: fs,(o,t) :: r=>Nat.beq f.offset o&&Nat.beq f.type t&&(P.info? t).isSome&&fieldsAre P fs r
 | _,_=>false
def mapOkB (P:Program) (k e:Nat):Bool:=
 (match P.underlying k with
 | some (.int _)=>true
 | _=>false)&&(match P.info? e with
 | some i=>(match i.zero with
  | some (.int .i64 0)=>true
  | _=>false)
 | none=>false)
def tyOkB (P:Program) (t:Nat) (y:Ty):Bool:=
 (match P.info? t with
 | some i=>Nat.beq i.size y.sz&&Nat.beq i.bytes y.by_&&(match i.zero with
  | some zv=>cesAre y.z zv.cells.toList&&Nat.beq zv.cells.size i.size
  | none=>false)
 | none=>false) &&
 (match y.k,P.underlying t with
 | .bas,some .bool=>true
 | .int k,some (.int k')=>decide (k=k')
 | .string,some .string=>true
 | .slc e,some (.slice e')=>Nat.beq e e'
 | .arr n e,some (.array n' e')=>Nat.beq n n'&&Nat.beq e e'
 | .str fs,some (.struct fl)=>fieldsAre P fl.toList fs
 | .ptr e,some (.pointer e')=>Nat.beq e e'
 | .map k e,some (.map k' e')=>(Nat.beq k k'&&Nat.beq e e')&&mapOkB P k e
 | _,_=>false) &&
 (y.eq.isEmpty||((match eqShape P 12 t with
 | some ks=>ksAre ks y.eq
 | none=>false)&&!P.eqGuardType P.depth t))
structure TabOk:Prop where
 ty:∀ t y,T t=some y→tyOkB P t y=true
 mixed:P.follows .mixedOrders=true
def heapy:Op→Bool
 | .move _=>false
 | .assign _=>false
 | .pick _ _ _=>false
 | .nilCheck _=>false
 | .binOp _ _ _ _ _=>false
 | .unOp _ _ _=>false
 | .field _ _ _=>false
 | .fieldAddr _ _ _=>false
 | .extract _ _=>false
 | .build _ _=>false
 | .index _ _ _=>false
 | .makeFunc _ _ _=>false
 | _=>true
def mods (T:Nat→Option Ty):Op→Bool
 | .store _ _ _=>true
 | .call ⟨.builtin .append,_,_⟩=>true
 | .call ⟨.builtin .copy,_,_⟩=>true
 | .call ⟨.builtin .clear,_,_⟩=>true
 | .mapUpdate _ _ _ _=>true
 | .slice t _ none (some _) none=>(match T t with
  | some ⟨.slc _,_,_,_,_⟩=>true
  | _=>false)
 | .call ⟨.value f,_,_⟩=>wrF T f
 | _=>false
def anc (acc:List Nat) (o:Oper):Nat:=o.after.toList.foldl (fun s e=>bif Region.binds .any e then s ||| 2 ^ e.on ||| acc.getD e.on 0 else s) 0
def befs:List Oper→List Nat→List Nat
 | [],acc=>acc
 | o :: r,acc=>befs r (acc++[anc acc o])
def ordered (b:List Nat) (i j:Nat):Bool:=(b.getD (max i j) 0).testBit (min i j)
def dsts (ops:List Oper):List Nat:=ops.filterMap (·.dst)
def isDst (t:Nat):Option Nat→Bool
 | some t'=>Nat.beq t' t
 | none=>false
def root:List Oper→Nat→Option Nat
 | [],t=>some t
 | o :: r,t=>match isDst t o.dst with
  | true=>(match o.op,o.guard with
   | .fieldAddr _ (.tmp u) _,_=>root r u
   | _,_=>none)
  | false=>root r t
def sep1 (st:St) (ops:List Oper) (o:Op) (i:Nat) (o':Op) (j:Nat):Bool:=match o,o' with
 | .store _ (.tmp a) _,.load _ (.tmp c)=>(match root (ops.take i).reverse a,root (ops.take j).reverse c with
  | some r,some r'=>(match st.get r,st.get r' with
   | .ptr b _,.ptr b' _=>!Nat.beq b b'
   | _,_=>false)
  | _,_=>false)
 | _,_=>false
def rootM:List Oper→Nat→Option Nat
 | [],t=>some t
 | o :: r,t=>match isDst t o.dst with
  | true=>(match o.op,o.guard with
   | .move (.tmp u),none=>rootM r u
   | _,_=>none)
  | false=>rootM r t
def apart (st:St) (ops:List Oper) (b i:Nat):Operand→Bool
 | .tmp t=>(match rootM (ops.take i).reverse t with
  | some r=>!memN b (st.get r).bids
  | none=>false)
 | _=>true
def callOff (st:St) (ops:List Oper) (b i:Nat):Op→Bool
 | .call ⟨.value f,args,_⟩=>apart st ops b i f&&args.toList.all (apart st ops b i)
 | _=>false
def sepC (T:Nat→Option Ty) (st:St) (ops:List Oper) (o:Op) (i:Nat) (o':Op) (j:Nat):Bool:=match o' with
 | .load _ (.tmp c)=>(match root (ops.take j).reverse c with
  | some r=>(match st.get r with
   | .ptr b _=>callOff st ops b i o&&((match lk st.bx b with
    | some cs=>(cs.flatMap Ce.rids).isEmpty
    | none=>false)&&(ops.take j).zipIdx.all fun p=>!mods T p.1.op||callOff st ops b p.2 p.1.op)
   | _=>false)
  | none=>false)
 | _=>false
def allocIn:List Oper→Nat→Bool
 | [],_=>false
 | o :: r,t=>match isDst t o.dst with
  | true=>(match o.op,o.guard with
   | .alloc _,none=>true
   | _,_=>false)
  | false=>allocIn r t
def sepA (st:St) (ops:List Oper) (o:Op) (i:Nat) (o':Op) (j:Nat):Bool:=match o,o' with
 | .store _ (.tmp a) _,.load _ (.tmp c)=>allocIn (ops.take i).reverse a&&(match root (ops.take j).reverse c with
  | some r=>(match st.get r with
   | .ptr b _=>(match lk st.bx b with
    | some _=>true
    | none=>false)
   | _=>false)
  | none=>false)
 | _,_=>false
def rootE:List Oper→Nat→Option Nat
 | [],t=>some t
 | o :: r,t=>match isDst t o.dst with
  | true=>(match o.op,o.guard with
   | .fieldAddr _ (.tmp u) _,none=>rootE r u
   | .nilCheck (.tmp u),none=>rootE r u
   | .move (.tmp u),none=>rootE r u
   | _,_=>none)
  | false=>rootE r t
def sepE (T:Nat→Option Ty) (st:St) (ops:List Oper) (o:Op) (i:Nat) (o':Op) (j:Nat):Bool:=match o,o' with
 | .call ⟨.value (.func g),_,_⟩,.load _ (.tmp c)=>memN g wrI&&((ops.take i).all (fun p=>!mods T p.op)&&(match rootE (ops.take j).reverse c with
  | some r=>(match st.get r with
   | .eptr τ _ _ _ _=>(match lk st.rw τ with
    | some R=>!Nat.beq R.ty tyI
    | none=>false)
   | _=>false)
  | none=>false))
 | _,_=>false
def sepF (st:St) (ops:List Oper) (o':Op) (j:Nat):Bool:=match o',ops[j]? with
 | .lookup _ (.tmp m) _ _,some p=>p.guard.isNone&&(match rootM (ops.take j).reverse m with
  | some r=>(match st.get r with
   | .c (.t _)=>true
   | _=>false)
  | none=>false)
 | _,_=>false
def sep2 (T:Nat→Option Ty) (st:St) (ops:List Oper) (o:Op) (i:Nat) (o':Op) (j:Nat):Bool:=sep1 st ops o i o' j||(sepC T st ops o i o' j||(sepA st ops o i o' j||(sepE T st ops o i o' j||sepF st ops o' j)))
def modsD (T:Nat→Option Ty) (st:St) (b:List Nat) (ops:List Oper):Bool:=ops.zipIdx.all fun p=>!heapy p.1.op||ops.zipIdx.all fun q=>!heapy q.1.op||!(mods T p.1.op||mods T q.1.op)||Nat.beq p.2 q.2||ordered b p.2 q.2||(sep2 T st ops p.1.op p.2 q.1.op q.2||sep2 T st ops q.1.op q.2 p.1.op p.2)
def isTmp (t:Nat):Operand→Bool
 | .tmp t'=>Nat.beq t' t
 | _=>false
def tempsOk (b:List Nat) (ops:List Oper):Bool:=ops.zipIdx.all fun p=>match p.1.dst with
 | none=>true
 | some t=>ops.zipIdx.all fun q=>!(q.1.op.operands.toList.any (isTmp t))||Nat.beq p.2 q.2||ordered b p.2 q.2
def edgesOk (ops:List Oper):Bool:=ops.zipIdx.all fun p=>p.1.after.toList.all fun e=>!Region.binds .any e||Nat.blt e.on p.2
def guardsOk (ops:List Oper):Bool:=ops.all fun o=>match o.guard with
  | some (g,_)=>o.after.toList.any fun e=>Nat.beq e.on g&&Region.binds .any e
  | none=>true
def regOk (N:Nat) (ops:Array Oper) (draw:Bool):Bool:=
 ops.toList.all (fun o=>match o.dst with
  | some d=>Nat.blt d N
  | none=>true) &&
 (!draw||(tempsOk (befs ops.toList []) ops.toList&&edgesOk ops.toList&&guardsOk ops.toList&&(dsts ops.toList).Nodup))
def codeOk (N:Nat):Code→Bool
 | .skip=>true
 | .region _ ops draw=>regOk N ops draw
 | .seq a b=>codeOk N a&&codeOk N b
 | .cond _ a b=>codeOk N a&&codeOk N b
 | .block _ c=>codeOk N c
 | .loop c=>codeOk N c
 | .exit _=>true
 | .ret=>true
 | _=>false
def cpost (w0:World) (N:Nat) (O:Gst) (Q:Ex→St→Prop):Exit→Act→World→Prop
 | .normal,a,w=>∃ st E,Q .nrm st∧RepS O E w w0.heap.size N st a∧Below w0.heap.size w0 w
 | .exit id,a,w=>∃ st E,Q (.exit id) st∧RepS O E w w0.heap.size N st a∧Below w0.heap.size w0 w
 | .ret,a,w=>∃ st E,Q .ret st∧RepS O E w w0.heap.size N st a∧Below w0.heap.size w0 w
 | _,_,_=>False
variable (N:Nat) (w0:World) (O:Gst)
def Tp (c:Code) (st:St) (Q:Ex→St→Prop):Prop:=
 TabOk P T→codeOk N c=true→∀ E a w,RepS O E w w0.heap.size N st a→Below w0.heap.size w0 w→c.wp P (cpost w0 N O Q) a w
def nextQ (K:St→Prop) (Q:Ex→St→Prop) (e:Ex) (st:St):Prop:=match e with
 | .nrm=>K st
 | e=>Q e st
def blkQ (id:Nat) (Q:Ex→St→Prop) (e:Ex) (st:St):Prop:=match e with
 | .exit i=>match Nat.beq i id with
  | true=>Q .nrm st
  | false=>Q (.exit i) st
 | e=>Q e st
def WPr (cs:List Nat) (id:Nat) (ops:Array Oper) (d:Bool) (st:St) (Q:Ex→St→Prop):Prop:=match st with
 | ⟨sl0,bx0,rw0,nx0⟩=>match cs.contains id with
  | true=>Tp P T N w0 O (.region id ops d) ⟨sl0,bx0,rw0,nx0⟩ Q
  | false=>match !d||modsD T ⟨sl0,bx0,rw0,nx0⟩ (befs ops.toList []) ops.toList with
   | true=>WPops P T ops nx0 0 ops.toList ⟨sl0,bx0,rw0,nx0⟩ fun st'=>match st' with
    | ⟨sl,bx,rw,_⟩=>forceN (nx0+128*ops.size) fun nx=>Q .nrm ⟨sl,bx,rw,nx⟩
   | false=>False
def WPc (c:Operand) (st:St) (A B:Prop):Prop:=match ev st c with
 | .c (.t (.lit (.bool t)))=>cond t A B
 | _=>False
def WP (cs:List Nat) (c:Code):St→(Ex→St→Prop)→Prop:=
 Code.rec (motive:=fun _=>St→(Ex→St→Prop)→Prop) (fun st Q=>Q .nrm st) (fun id ops d st Q=>WPr P T N w0 O cs id ops d st Q) (fun _ _ iha ihb st Q=>iha st (nextQ (fun st'=>ihb st' Q) Q))
  (fun c _ _ iha ihb st Q=>WPc c st (iha st Q) (ihb st Q)) (fun id _ ih st Q=>ih st (blkQ id Q)) (fun c _ st Q=>Tp P T N w0 O (.loop c) st Q) (fun _ _ _ _ _ _ _ _=>False) (fun id st Q=>Q (.exit id) st)
  (fun _ _ _ _=>False) (fun _ _ _=>False) (fun _ _ _=>False) (fun st Q=>Q .ret st) (fun _ _ _=>False) c
end
end
section
variable {O:Gst}
theorem RC.fr {E E':Env} {w w':World} (hs:w.heap.size≤w'.heap.size) (hc:∀ b,E.rl b=.cold→b < w.heap.size→w'.heap[b]? = w.heap[b]?∧E'.rl b=.cold) {v:Value} {x:Ce} (hv:∀ p∈x.rids,E'.vl p.1 p.2=E.vl p.1 p.2) (h:RC E w v x):RC E' w' v x:=by
 cases x with
 | t x=>exact RT.frame hs (fun b hb hlt=>(hc b hb hlt).1) (fun b hb hlt=>(hc b hb hlt).2) h
 | nil=>exact h
 | row τ ver=>exact ⟨by rw [h.1,hv (τ,ver) List.mem_cons_self],h.2⟩
 | bot=>exact h
theorem RC.one {E:Env} {w:World} {v:Value} {x:Ce} (h:RC E w v x):v.oneCell'=true:=by
 cases x with
 | t x=>exact RT.one h
 | nil=>rw [show v=_ from h];rfl
 | row τ ver=>exact h.2
 | bot=>exact h
theorem A2.one {E:Env} {w:World}:∀ {vs:List Value} {xs:List Ce},A2 (RC E w) vs xs→∀ u∈vs,u.oneCell'=true
 | _,_,.nil,_,hu=>by cases hu
 | _,_,.cons h1 h2,u,hu=>by
  rcases List.mem_cons.1 hu with rfl|hu
  ·exact h1.one
  ·exact A2.one h2 u hu
theorem A2.fr {E E':Env} {w w':World} (hs:w.heap.size≤w'.heap.size) (hc:∀ b,E.rl b=.cold→b < w.heap.size→w'.heap[b]? = w.heap[b]?∧E'.rl b=.cold) {vs:List Value} {xs:List Ce} (hv:∀ p∈xs.flatMap Ce.rids,E'.vl p.1 p.2=E.vl p.1 p.2) (h:A2 (RC E w) vs xs):A2 (RC E' w') vs xs:=
 h.imp fun _ y hy hr=>hr.fr hs hc fun p hp=>hv p (List.mem_flatMap.2 ⟨y,hy,hp⟩)
theorem capV_eq {E E':Env} {c:Nat × Nat} (h:E'.bk c.1=E.bk c.1):capV E' c=capV E c:=by
 unfold capV
 rw [h]
theorem R1.fr {E E':Env} {w w':World} (hs:w.heap.size≤w'.heap.size) (hc:∀ b,E.rl b=.cold→b < w.heap.size→w'.heap[b]? = w.heap[b]?∧E'.rl b=.cold) {v:Value} {a:AV} (hv:∀ p∈a.rid1,E'.vl p.1 p.2=E.vl p.1 p.2) (hb:∀ b∈a.bid1,E'.bk b=E.bk b) (h:R1 E w v a):R1 E' w' v a:=by
 cases a with
 | c x=>exact RC.fr hs hc hv h
 | agg xs=>
  obtain ⟨vs,rfl,h⟩:=h
  exact ⟨vs,rfl,h.fr hs hc hv⟩
 | ptr b o=>
  show v=_
  rw [hb b List.mem_cons_self]
  exact h
 | iptr xs o=>
  obtain ⟨g,p,vs,rfl,h1,h2,h3,h4⟩:=h
  exact ⟨g,p,vs,rfl,(hc g h1 h2).2,Nat.lt_of_lt_of_le h2 hs,fun i u hu=>(World.cell?_of_block (a:=⟨_,_,none⟩) (hc g h1 h2).1).trans (h3 i u hu),h4.frame hs (fun b hb hlt=>(hc b hb hlt).1) (fun b hb hlt=>(hc b hb hlt).2)⟩
 | eptr τ ver k i o=>
  obtain ⟨g,n,c,h1,h2⟩:=h
  exact ⟨g,n,c,by rw [hv (τ,ver) List.mem_cons_self];exact h1,h2⟩
 | sub τ ver k i=>
  obtain ⟨ao,n,c,h1,h2⟩:=h
  exact ⟨ao,n,c,by rw [hv (τ,ver) List.mem_cons_self];exact h1,h2⟩
 | nilp=>exact h
 | tup ars=>exact h
 | fn f caps=>
  show v=_
  have e:caps.map (capV E')=caps.map (capV E):=List.map_congr_left fun c hc=>capV_eq (hb c.1 (List.mem_map.2 ⟨c,hc,rfl⟩))
  rw [e]
  exact h
 | fnI f caps=>
  obtain ⟨us,rfl,h⟩:=h
  refine ⟨us,rfl,h.imp fun u c _ h=>?_⟩
  obtain ⟨g,p,vs,rfl,h1,h2,h3,h4⟩:=h
  exact ⟨g,p,vs,rfl,(hc g h1 h2).2,Nat.lt_of_lt_of_le h2 hs,fun i u hu=>(World.cell?_of_block (a:=⟨_,_,none⟩) (hc g h1 h2).1).trans (h3 i u hu),h4.frame hs (fun b hb hlt=>(hc b hb hlt).1) (fun b hb hlt=>(hc b hb hlt).2)⟩
 | bot=>exact h
theorem RV.fr {E E':Env} {w w':World} (hs:w.heap.size≤w'.heap.size) (hc:∀ b,E.rl b=.cold→b < w.heap.size→w'.heap[b]? = w.heap[b]?∧E'.rl b=.cold) {v:Value} {a:AV} (hv:∀ p∈a.rids,E'.vl p.1 p.2=E.vl p.1 p.2) (hb:∀ b∈a.bids,E'.bk b=E.bk b) (h:RV E w v a):RV E' w' v a:=by
 cases a with
 | tup ars=>
  obtain ⟨vs,rfl,h⟩:=h
  exact ⟨vs,rfl,h.imp fun _ y hy hr=>R1.fr hs hc (fun p hp=>hv p (List.mem_flatMap.2 ⟨y,hy,hp⟩)) (fun b hb'=>hb b (List.mem_flatMap.2 ⟨y,hy,hb'⟩)) hr⟩
 | c x=>exact R1.fr (a:=.c x) hs hc hv hb h
 | agg xs=>exact R1.fr (a:=.agg xs) hs hc hv hb h
 | ptr b o=>exact R1.fr (a:=.ptr b o) hs hc hv hb h
 | iptr xs o=>exact R1.fr (a:=.iptr xs o) hs hc hv hb h
 | eptr τ ver k i o=>exact R1.fr (a:=.eptr τ ver k i o) hs hc hv hb h
 | sub τ ver k i=>exact R1.fr (a:=.sub τ ver k i) hs hc hv hb h
 | nilp=>exact R1.fr (a:=.nilp) hs hc hv hb h
 | fn f caps=>exact R1.fr (a:=.fn f caps) hs hc hv hb h
 | fnI f caps=>exact R1.fr (a:=.fnI f caps) hs hc hv hb h
 | bot=>exact trivial
theorem Bk.lt {w:World} {b:Nat} {t:TypeId} {cs:List Value} (h:Bk w b t cs):b < w.heap.size:=(Array.getElem?_eq_some_iff.1 h).1
theorem RB.fr {E E':Env} {w w':World} {n0 i:Nat} {cs:List Ce} (hs:w.heap.size≤w'.heap.size) (hc:∀ b,E.rl b=.cold→b < w.heap.size→w'.heap[b]? = w.heap[b]?∧E'.rl b=.cold) (hv:∀ p∈cs.flatMap Ce.rids,E'.vl p.1 p.2=E.vl p.1 p.2) (hk:E'.bk i=E.bk i) (hb:E.bk i < w.heap.size→E.rl (E.bk i)=.bx i→w'.heap[E.bk i]? = w.heap[E.bk i]?∧E'.rl (E.bk i)=.bx i) (h:RB E w n0 i cs):RB E' w' n0 i cs:=by
 obtain ⟨vs,t,h1,h2,h3,h4⟩:=h
 obtain ⟨b1,b2⟩:=hb h2.lt h3
 exact ⟨vs,t,by rw [hk];exact h1,by rw [hk];exact b1.trans h2,by rw [hk];exact b2,h4.fr hs hc hv⟩
theorem Ets.fr {k:Nat} {F G:Nat→Prop} {w w':World} {es:List (Cl k)} {xs:List (List Tr)} (hs:w.heap.size≤w'.heap.size) (hb:∀ b,F b→b < w.heap.size→w'.heap[b]? = w.heap[b]?) (hFG:∀ b,F b→b < w.heap.size→G b) (h:Ets F w es xs):Ets G w' es xs:=
 ⟨h.len,fun j vs ts h1 h2=>(h.at_ j vs ts h1 h2).frame hs hb hFG⟩
theorem ownsRow_eq {w w':World} {B e size n:Nat} {v:Value} {xs:List Value} (h:w.ownsRow B e size v n xs) (hb:∀ g,v.ownBlock=some g→g < w.heap.size→w'.heap[g]? = w.heap[g]?):w'.ownsRow B e size v n xs:=by
 refine ⟨h.1,?_⟩
 rcases h.2 with hn|⟨g,cap,cur,rfl,hg,hgg,rest⟩
 ·exact .inl hn
 ·exact .inr ⟨g,cap,cur,rfl,hg,by rw [hb g rfl (Array.getElem?_eq_some_iff.1 hgg).1];exact hgg,rest⟩
theorem Ow.fr {E E':Env} {w w':World} {n0:Nat} {q q':BRole} {ty k:Nat} {v:Value} {xs:List (List Tr)} (hs:w.heap.size≤w'.heap.size) (hc:∀ b,E.rl b=.cold→b < w.heap.size→w'.heap[b]? = w.heap[b]?∧E'.rl b=.cold) (hb:∀ g,v.ownBlock=some g→g < w.heap.size→E.rl g=q→w'.heap[g]? = w.heap[g]?∧E'.rl g=q') (h:Ow E w n0 q ty k v xs):Ow E' w' n0 q' ty k v xs:=by
 obtain ⟨es,h1,h2,h3⟩:=h
 have hlt:∀ g,v.ownBlock=some g→g < w.heap.size:=fun g hg=>(h1.lt g hg).2
 exact ⟨es,ownsRow_eq h1 (fun g hg hl=>(hb g hg hl (h3 g hg)).1),h2.fr hs (fun b hb hlt=>(hc b hb hlt).1) (fun b hb hlt=>(hc b hb hlt).2),fun g hg=>(hb g hg (hlt g hg) (h3 g hg)).2⟩
theorem CeD.fr {E E':Env} {w w':World} {n0 τ τ' j o:Nat} {d:Dp} {v:Value} {t:Tr} (hs:w.heap.size≤w'.heap.size) (hc:∀ b,E.rl b=.cold→b < w.heap.size→w'.heap[b]? = w.heap[b]?∧E'.rl b=.cold) (hl:∀ ρ u,(j,o,ρ,u)∈d.ln→E'.vl ρ u=E.vl ρ u) (hn:∀ g,g < w.heap.size→E.rl g=.nst τ j o→w'.heap[g]? = w.heap[g]?∧E'.rl g=.nst τ' j o) (h:CeD E w n0 τ j o d v t):CeD E' w' n0 τ' j o d v t:=by
 refine ⟨fun ρ u hm=>by rw [hl ρ u hm];exact h.1 ρ u hm,fun hno=>⟨fun ty k hD hj=>?_,fun hD=>?_⟩⟩
 ·obtain ⟨xs,h1,h2⟩:=(h.2 hno).1 ty k hD hj
  exact ⟨xs,h1,h2.fr hs hc fun g _ hlt hr=>hn g hlt hr⟩
 ·exact ((h.2 hno).2 hD).frame hs (fun b hb hlt=>(hc b hb hlt).1) fun b hb hlt=>(hc b hb hlt).2
theorem RD.fr {E E':Env} {w w':World} {n0 τ τ' ty k:Nat} {d:Dp} {v:Value} {xs:List (List Tr)} (hs:w.heap.size≤w'.heap.size) (hc:∀ b,E.rl b=.cold→b < w.heap.size→w'.heap[b]? = w.heap[b]?∧E'.rl b=.cold) (hl:∀ l∈d.ln,E'.vl l.2.2.1 l.2.2.2=E.vl l.2.2.1 l.2.2.2) (hb:∀ g,v.ownBlock=some g→g < w.heap.size→E.rl g=.rw τ→w'.heap[g]? = w.heap[g]?∧E'.rl g=.rw τ') (hn:∀ g j o,g < w.heap.size→E.rl g=.nst τ j o→w'.heap[g]? = w.heap[g]?∧E'.rl g=.nst τ' j o) (h:RD E w n0 τ d ty k v xs):RD E' w' n0 τ' d ty k v xs:=by
 obtain ⟨es,h1,h2,h3⟩:=h
 have hlt:∀ g,v.ownBlock=some g→g < w.heap.size:=fun g hg=>(h1.lt g hg).2
 exact ⟨es,ownsRow_eq h1 (fun g hg hl=>(hb g hg hl (h3 g hg)).1),⟨h2.len,h2.ln,h2.one,fun j vs ts e1 e2 o u t e3 e4=>(h2.at_ j vs ts e1 e2 o u t e3 e4).fr hs hc (fun ρ u hm=>hl _ hm) fun g=>hn g j o⟩,fun g hg=>(hb g hg (hlt g hg) (h3 g hg)).2⟩
theorem RR.fr {E E':Env} {w w':World} {n0 τ:Nat} {R:Row} (hs:w.heap.size≤w'.heap.size) (hc:∀ b,E.rl b=.cold→b < w.heap.size→w'.heap[b]? = w.heap[b]?∧E'.rl b=.cold) (hv:E'.vl τ R.ver=E.vl τ R.ver) (hl:∀ d,R.dp=some d→∀ l∈d.ln,E'.vl l.2.2.1 l.2.2.2=E.vl l.2.2.1 l.2.2.2) (hb:∀ g,(E.vl τ R.ver).ownBlock=some g→g < w.heap.size→E.rl g=.rw τ→w'.heap[g]? = w.heap[g]?∧E'.rl g=.rw τ) (hn:∀ g j o,g < w.heap.size→E.rl g=.nst τ j o→w'.heap[g]? = w.heap[g]?∧E'.rl g=.nst τ j o) (h:RR E w n0 τ R):RR E' w' n0 τ R:=by
 unfold RR at h ⊢
 rw [hv]
 split at h
 ·exact h.fr hs hc hb
 ·rename_i d hd
  cases hm:d.isM with
  | false=>
   rw [hm] at h
   exact h.fr hs hc (hl d hd) hb hn
  | true=>
   rw [hm] at h
   rcases h with h|⟨g,es,clock,e1,e2,e3,e4,e5⟩
   ·exact .inl h
   have hg:=hn g 0 0 (Array.getElem?_eq_some_iff.1 e3).1 e5
   exact .inr ⟨g,es,clock,e1,e2,hg.1.trans e3,e4,hg.2⟩
theorem ownsRow_low {w:World} {B B' e size n:Nat} {v:Value} {xs:List Value} (hB:B'≤B) (h:w.ownsRow B e size v n xs):w.ownsRow B' e size v n xs:=by
 refine ⟨h.1,?_⟩
 rcases h.2 with h|⟨g,cap,cur,h6,h7,h8⟩
 ·exact .inl h
 ·exact .inr ⟨g,cap,cur,h6,Nat.le_trans hB h7,h8⟩
theorem Ow.to {E E':Env} {w:World} {n0 n1:Nat} {q q':BRole} {ty k:Nat} {v:Value} {xs:List (List Tr)} (hn:n1≤n0) (hc:∀ b,E.rl b=.cold→b < w.heap.size→E'.rl b=.cold) (hb:∀ g,n0≤g→g < w.heap.size→E.rl g=q→E'.rl g=q') (h:Ow E w n0 q ty k v xs):Ow E' w n1 q' ty k v xs:=by
 obtain ⟨es,h1,h2,h3⟩:=h
 exact ⟨es,ownsRow_low hn h1,h2.fr (Nat.le_refl _) (fun _ _ _=>rfl) hc,fun g hg=>hb g (h1.lt g hg).1 (h1.lt g hg).2 (h3 g hg)⟩
theorem shut_ln {R:Row} {d:Dp} (h:R.shut=true) (hd:R.dp=some d):d.ln=[]:=by
 unfold Row.shut at h
 rw [hd] at h
 obtain ⟨D,c,ln⟩:=d
 cases ln with
 | nil=>rfl
 | cons=>cases h
theorem RR.to {E E':Env} {w:World} {n0 n1 τ τ':Nat} {R R':Row} (hn:n1≤n0) (e1:R.ty=R'.ty) (e2:R.k=R'.k) (e3:R.xs=R'.xs) (e4:R.dp=R'.dp) (hs:R.shut=true) (hv:E'.vl τ' R'.ver=E.vl τ R.ver) (hc:∀ b,E.rl b=.cold→b < w.heap.size→E'.rl b=.cold) (hr:∀ b,n0≤b→b < w.heap.size→E.rl b=.rw τ→E'.rl b=.rw τ') (hq:∀ b j o,n0≤b→b < w.heap.size→E.rl b=.nst τ j o→E'.rl b=.nst τ' j o) (h:RR E w n0 τ R):RR E' w n1 τ' R':=by
 unfold RR at h ⊢
 rw [hv,← e1,← e2,← e3,← e4]
 cases hd:R.dp with
 | none=>
  rw [hd] at h
  exact h.to hn hc hr
 | some d=>
  rw [hd] at h
  have hl:=shut_ln hs hd
  cases hm:d.isM with
  | true=>
   simp only [hm] at h ⊢
   rcases h with h|⟨g,es,clock,e1,e2,e3,e4,e5⟩
   ·exact .inl h
   exact .inr ⟨g,es,clock,e1,Nat.le_trans hn e2,e3,e4,hq g 0 0 e2 (Array.getElem?_eq_some_iff.1 e3).1 e5⟩
  | false=>
  simp only [hm] at h ⊢
  obtain ⟨es,h1,h2,h3⟩:=h
  refine ⟨es,ownsRow_low hn h1,⟨h2.len,h2.ln,h2.one,fun j vs ts p1 p2 o u t p3 p4=>?_⟩,fun g hg=>hr g (h1.lt g hg).1 (h1.lt g hg).2 (h3 g hg)⟩
  obtain ⟨_,h5⟩:=h2.at_ j vs ts p1 p2 o u t p3 p4
  obtain ⟨h6,h7⟩:=h5 (fun ρ u=>by rw [hl];exact List.not_mem_nil)
  refine ⟨fun ρ u hm=>(by rw [hl] at hm;cases hm),fun _=>⟨fun ty k hD hj=>?_,fun hD=>(h7 hD).frame (Nat.le_refl _) (fun _ _ _=>rfl) hc⟩⟩
  obtain ⟨xs,p5,p6⟩:=h6 ty k hD hj
  exact ⟨xs,p5,p6.to hn hc fun g p7 p8=>hq g j o p7 p8⟩
structure Mv (st:St) (E:Env) (w:World) (E':Env) (w':World) (X Y:Nat→Prop):Prop where
 size:w.heap.size≤w'.heap.size
 lo:∀ b,b < w.heap.size→E.rl b=.cold∨E.rl b=.non→E'.rl b=E.rl b
 cold:∀ b,E.rl b=.cold→b < w.heap.size→w'.heap[b]? = w.heap[b]?∧E'.rl b=.cold
 bk:∀ i cs,lk st.bx i=some cs→E'.bk i=E.bk i
 bx:∀ i cs,lk st.bx i=some cs→¬ X i→E.bk i < w.heap.size→E.rl (E.bk i)=.bx i→w'.heap[E.bk i]? = w.heap[E.bk i]?∧E'.rl (E.bk i)=.bx i
 vl:∀ τ R v,lk st.rw τ=some R→v≤R.ver→E'.vl τ v=E.vl τ v
 rw:∀ τ R,lk st.rw τ=some R→¬ Y τ→∀ g,(E.vl τ R.ver).ownBlock=some g→g < w.heap.size→E.rl g=.rw τ→w'.heap[g]? = w.heap[g]?∧E'.rl g=.rw τ
 non:∀ b,E.rl b=.non→b < w.heap.size→w'.heap[b]? = w.heap[b]?
 nst:∀ τ R,lk st.rw τ=some R→¬ Y τ→∀ g j o,g < w.heap.size→E.rl g=.nst τ j o→w'.heap[g]? = w.heap[g]?∧E'.rl g=.nst τ j o
theorem Mv.vr {st:St} {E E':Env} {w w':World} {X Y:Nat→Prop} (h:Mv st E w E' w' X Y) {p:Nat × Nat} (hp:st.hasR p):E'.vl p.1 p.2=E.vl p.1 p.2:=by
 obtain ⟨R,h1,h2⟩:=hp
 exact h.vl _ R _ h1 h2
theorem Mv.slt {st:St} {E E':Env} {w w':World} {X Y:Nat→Prop} (h:Mv st E w E' w' X Y) {m:Nat} (sc:Sc m st) (t:Nat) {v:Value} (hr:RV E w v (st.get t)):RV E' w' v (st.get t):=
 hr.fr h.size h.cold (fun p hp=>h.vr (sc.sr t p hp)) (fun b hb=>by
  obtain ⟨cs,hcs⟩:=sc.sb t b hb
  exact h.bk b cs hcs)
theorem Mv.box {st:St} {E E':Env} {w w':World} {X Y:Nat→Prop} (h:Mv st E w E' w' X Y) {m:Nat} (sc:Sc m st) {n0 i:Nat} {cs:List Ce} (hi:lk st.bx i=some cs) (hX:¬ X i) (hr:RB E w n0 i cs):RB E' w' n0 i cs:=
 hr.fr h.size h.cold (fun p hp=>h.vr (sc.br i cs hi p hp)) (h.bk i cs hi) (h.bx i cs hi hX)
theorem Mv.row {st:St} {E E':Env} {w w':World} {X Y:Nat→Prop} (h:Mv st E w E' w' X Y) {m:Nat} (sc:Sc m st) {n0 τ:Nat} {R:Row} (hi:lk st.rw τ=some R) (hY:¬ Y τ) (hr:RR E w n0 τ R):RR E' w' n0 τ R:=
 hr.fr h.size h.cold (h.vl τ R _ hi (Nat.le_refl _)) (fun d hd l hl=>h.vr (sc.rl τ R d hi hd l hl)) (h.rw τ R hi hY) (h.nst τ R hi hY)
theorem Mv.below {st:St} {E E':Env} {w w':World} {X Y:Nat→Prop} (hb:Below w.heap.size w w') (hr:∀ b,b < w.heap.size→E'.rl b=E.rl b) (hk:∀ i cs,lk st.bx i=some cs→E'.bk i=E.bk i) (hv:∀ τ R v,lk st.rw τ=some R→v≤R.ver→E'.vl τ v=E.vl τ v):Mv st E w E' w' X Y:=
 ⟨hb.size,fun b hlt _=>hr b hlt,fun b hc hlt=>⟨hb.block b hlt,(hr b hlt).trans hc⟩,hk,fun _ _ _ _ hlt hrl=>⟨hb.block _ hlt,(hr _ hlt).trans hrl⟩,hv,fun _ _ _ _ _ _ hlt hrl=>⟨hb.block _ hlt,(hr _ hlt).trans hrl⟩,fun b _ hlt=>hb.block b hlt,fun _ _ _ _ g _ _ hlt hrl=>⟨hb.block g hlt,(hr g hlt).trans hrl⟩⟩
theorem gh_mv {O:Gst} {st:St} {E E':Env} {w w':World} {X Y:Nat→Prop} (hm:Mv st E w E' w' X Y) (h:∀ b x,O.g b=some x→w.heap[b]? = some x∧(E.rl b=.cold∧O.o b∨E.rl b=.non∧¬ O.o b)):∀ b x,O.g b=some x→w'.heap[b]? = some x∧(E'.rl b=.cold∧O.o b∨E'.rl b=.non∧¬ O.o b):=fun b x hx=>by
 obtain ⟨h1,h2⟩:=h b x hx
 have hlt:=(Array.getElem?_eq_some_iff.1 h1).1
 refine ⟨?_,by rw [hm.lo b hlt (h2.elim (fun h=>.inl h.1) (fun h=>.inr h.1))];exact h2⟩
 rcases h2 with h2|h2
 ·exact (hm.cold b h2.1 hlt).1.trans h1
 ·exact (hm.non b h2.1 hlt).trans h1
theorem old_mv {O:Gst} {st:St} {E E':Env} {w w':World} {n0:Nat} {X Y:Nat→Prop} (hm:Mv st E w E' w' X Y) (hi:n0≤w.heap.size) (h:∀ b,b < n0→E.rl b=.cold∧O.o b∨E.rl b=.non):∀ b,b < n0→E'.rl b=.cold∧O.o b∨E'.rl b=.non:=fun b hb=>by
 have h2:=h b hb
 rw [hm.lo b (Nat.lt_of_lt_of_le hb hi) (h2.elim (fun h=>.inl h.1) .inr)]
 exact h2
theorem St.get_put (st:St) (t:Nat) (v:AV) (t':Nat):(st.put t v).get t'=if t=t' then v else st.get t':=by
 unfold St.get St.put
 simp only [lk]
 by_cases h:t=t'
 ·subst h;simp
 ·have:Nat.beq t t'=false:=by
   cases e:Nat.beq t t'
   ·rfl
   ·exact absurd (Nat.eq_of_beq_eq_true e) h
  rw [this,if_neg h]
  rfl
theorem St.get_app (st:St) (t:Option Nat) (d:Dl) (t':Nat):(st.app t d).get t'=if t=some t' then d.v else st.get t':=by
 cases t with
 | none=>simp [St.app,St.get]
 | some t=>
  have:=St.get_put st t d.v t'
  unfold St.get St.put at this
  unfold St.get St.app
  simp only [Option.some.injEq]
  exact this
theorem St.app_bx (st:St) (t:Option Nat) (d:Dl):(st.app t d).bx=d.bs++st.bx:=by cases t <;> rfl
theorem St.app_rw (st:St) (t:Option Nat) (d:Dl):(st.app t d).rw=d.rs++st.rw:=by cases t <;> rfl
theorem lk_append {α:Type}:∀ (l r:List (Nat × α)) (n:Nat),lk (l++r) n=(match lk l n with
   | some x=>some x
   | none=>lk r n)
 | [],r,n=>rfl
 | (m,x) :: l,r,n=>by
  show (bif Nat.beq m n then some x else lk (l++r) n)=(match (bif Nat.beq m n then some x else lk l n) with
   | some x=>some x
   | none=>lk r n)
  cases Nat.beq m n
  ·exact lk_append l r n
  ·rfl
theorem lk_cons {α:Type} (m:Nat) (x:α) (r:List (Nat × α)) (n:Nat):lk ((m,x) :: r) n=if m=n then some x else lk r n:=by
 show (bif Nat.beq m n then some x else lk r n)=_
 by_cases h:m=n
 ·subst h;simp
 ·have:Nat.beq m n=false:=by
   cases e:Nat.beq m n
   ·rfl
   ·exact absurd (Nat.eq_of_beq_eq_true e) h
  rw [this,if_neg h];rfl
theorem Act.getD_put (a:Act) (t:Option Nat) (v:Value) (t':Nat) (ht:∀ x,t=some x→x < a.tmps.size):(a.put t v).tmps.getD t' undef=if t=some t' then v else a.tmps.getD t' undef:=by
 cases t with
 | none=>simp [Act.put]
 | some t=>
  simp only [Act.put,Option.some.injEq,Array.getD_eq_getD_getElem?,Array.getElem?_setIfInBounds]
  by_cases h:t=t'
  ·subst h;simp [ht _ rfl]
  ·simp [h]
theorem Act.put_dfr (a:Act) (t:Option Nat) (v:Value):(a.put t v).defers=a.defers:=by cases t <;> rfl
theorem Act.put_size (a:Act) (t:Option Nat) (v:Value):(a.put t v).tmps.size=a.tmps.size:=by
 cases t <;> simp [Act.put]
theorem hasB_app {st:St} {t:Option Nat} {d:Dl} {b:Nat} (h:st.hasB b):(st.app t d).hasB b:=by
 obtain ⟨cs,h⟩:=h
 unfold St.hasB
 rw [St.app_bx,lk_append]
 cases lk d.bs b with
 | none=>exact ⟨cs,h⟩
 | some x=>exact ⟨x,rfl⟩
def RsUp (st:St) (d:Dl):Prop:=∀ τ R R',lk st.rw τ=some R→lk d.rs τ=some R'→R.ver≤R'.ver
theorem hasR_app {st:St} {t:Option Nat} {d:Dl} {p:Nat × Nat} (hu:RsUp st d) (h:st.hasR p):(st.app t d).hasR p:=by
 obtain ⟨R,h,hv⟩:=h
 unfold St.hasR
 rw [St.app_rw,lk_append]
 cases hd:lk d.rs p.1 with
 | none=>exact ⟨R,h,hv⟩
 | some R'=>exact ⟨R',rfl,Nat.le_trans hv (hu _ _ _ h hd)⟩
structure DlSc (m:Nat) (st:St) (d:Dl):Prop where
 up:RsUp st d
 vb:∀ b∈d.v.bids,st.hasB b∨∃ cs,lk d.bs b=some cs
 vr:∀ p∈d.v.rids,st.hasR p∨∃ R,lk d.rs p.1=some R∧p.2≤R.ver
 br:∀ b cs,lk d.bs b=some cs→(∀ p∈cs.flatMap Ce.rids,st.hasR p∨∃ R,lk d.rs p.1=some R∧p.2≤R.ver)∧b < m
 fr:∀ τ R,lk d.rs τ=some R→τ < m
 rl:∀ τ R d',lk d.rs τ=some R→R.dp=some d'→∀ l∈d'.ln,st.hasR l.2.2∨∃ R,lk d.rs l.2.2.1=some R∧l.2.2.2≤R.ver
theorem Sc.app {m:Nat} {st:St} (h:Sc m st) {t:Option Nat} {d:Dl} (hd:DlSc m st d):Sc m (st.app t d):=by
 have hR:∀ p,(st.hasR p∨∃ R,lk d.rs p.1=some R∧p.2≤R.ver)→(st.app t d).hasR p:=fun p hp=>by
  rcases hp with hp|⟨R,h1,h2⟩
  ·exact hasR_app hd.up hp
  ·exact ⟨R,by rw [St.app_rw,lk_append,h1],h2⟩
 refine ⟨fun t' b hb=>?_,fun t' p hp=>?_,fun b cs hcs p hp=>?_,fun b cs hcs=>?_,fun τ R hR'=>?_,fun τ R d' hR' hd' l hl=>?_⟩
 ·rw [St.get_app] at hb
  split at hb
  ·rcases hd.vb b hb with hb|⟨cs,hcs⟩
   ·exact hasB_app hb
   ·exact ⟨cs,by rw [St.app_bx,lk_append,hcs]⟩
  ·exact hasB_app (h.sb t' b hb)
 ·rw [St.get_app] at hp
  split at hp
  ·exact hR p (hd.vr p hp)
  ·exact hR p (.inl (h.sr t' p hp))
 ·rw [St.app_bx,lk_append] at hcs
  split at hcs
  ·rename_i x hx
   obtain rfl:=Option.some.inj hcs
   exact hR p ((hd.br b _ hx).1 p hp)
  ·exact hR p (.inl (h.br b cs hcs p hp))
 ·rw [St.app_bx,lk_append] at hcs
  split at hcs
  ·rename_i x hx
   exact (hd.br b _ hx).2
  ·exact h.fb b cs hcs
 ·rw [St.app_rw,lk_append] at hR'
  split at hR'
  ·rename_i x hx
   exact hd.fr τ _ hx
  ·exact h.fr τ R hR'
 ·rw [St.app_rw,lk_append] at hR'
  split at hR'
  ·rename_i x hx
   obtain rfl:=Option.some.inj hR'
   exact hR l.2.2 (hd.rl τ _ d' hx hd' l hl)
  ·exact hR l.2.2 (.inl (h.rl τ R d' hR' hd' l hl))
theorem RepM.app {E E':Env} {w w':World} {n0 N m:Nat} {st:St} {a:Act} (h:RepM O E w n0 N m st a) {t:Option Nat} (ht:∀ x,t=some x→x < N) {d:Dl} {v:Value} (hm:Mv st E w E' w' (fun i=>∃ cs,lk d.bs i=some cs) (fun τ=>∃ R,lk d.rs τ=some R)) (hsc:DlSc m st d)
  (hv:RV E' w' v d.v) (hb:∀ i cs,lk d.bs i=some cs→RB E' w' n0 i cs) (hr:∀ τ R,lk d.rs τ=some R→RR E' w' n0 τ R):RepM O E' w' n0 N m (st.app t d) (a.put t v):=by
 refine ⟨by rw [Act.put_dfr];exact h.dfr,by rw [Act.put_size];exact h.sz,fun t'=>?_,fun i cs hi=>?_,fun τ R hτ=>?_,h.sc.app hsc,Nat.le_trans h.hi hm.size,old_mv hm h.hi h.old,gh_mv hm h.gh,fun j V hj=>?_,fun j b hj=>?_,Nat.le_trans h.sn hm.size⟩
 ·rw [St.get_app,Act.getD_put _ _ _ _ (by rw [h.sz];exact ht)]
  split
  ·exact hv
  ·exact hm.slt h.sc t' (h.slt t')
 ·rw [St.app_bx,lk_append] at hi
  cases hd:lk d.bs i with
  | some x=>
   rw [hd] at hi
   obtain rfl:=Option.some.inj hi
   exact hb i _ hd
  | none=>
   rw [hd] at hi
   exact hm.box h.sc hi (fun ⟨x,hx⟩=>by rw [hd] at hx;cases hx) (h.box i cs hi)
 ·rw [St.app_rw,lk_append] at hτ
  cases hd:lk d.rs τ with
  | some x=>
   rw [hd] at hτ
   obtain rfl:=Option.some.inj hτ
   exact hr τ _ hd
  | none=>
   rw [hd] at hτ
   exact hm.row h.sc hτ (fun ⟨x,hx⟩=>by rw [hd] at hx;cases hx) (h.row τ R hτ)
 ·obtain ⟨h1,R,h2⟩:=h.lkv j V hj
  refine ⟨(hm.vl j R 0 h2 (Nat.zero_le _)).trans h1,?_⟩
  rw [St.app_rw,lk_append]
  cases lk d.rs j with
  | some x=>exact ⟨x,rfl⟩
  | none=>exact ⟨R,h2⟩
 ·obtain ⟨h1,cs,h2⟩:=h.lkb j b hj
  refine ⟨(hm.bk j cs h2).trans h1,?_⟩
  rw [St.app_bx,lk_append]
  cases lk d.bs j with
  | some x=>exact ⟨x,rfl⟩
  | none=>exact ⟨cs,h2⟩
end
section
variable {P:Program} {T:Nat→Option Ty} {O:Gst}
def NmV (st:St) (v:AV):Prop:=(∀ b∈v.bids,st.hasB b)∧(∀ p∈v.rids,st.hasR p)
theorem nmv_lit (st:St) (v:Value):NmV st (.c (.t (.lit v))):=⟨fun b hb=>(by cases hb),fun p hp=>(by cases hp)⟩
theorem ev_rv {E:Env} {w:World} {n0 N m:Nat} {st:St} {a:Act} (r:RepM O E w n0 N m st a) (x:Operand):RV E w (a.eval x) (ev st x):=by
  cases x with
  | tmp t=>exact r.slt t
  | const v=>
    cases v with
    | int k n=>exact RT.lit rfl
    | bool b=>exact RT.lit rfl
    | string s=>exact RT.lit rfl
    | slice ao n c=>
      show RV E w _ (match (Value.slice ao n c) with
        | .int k n=>.c (.t (.lit (.int k n)))
        | .bool b=>.c (.t (.lit (.bool b)))
        | .string s=>.c (.t (.lit (.string s)))
        | .slice none 0 0=>.c .nil
        | .pointer none=>.nilp
        | _=>.bot)
      split
      · rename_i h;cases h
      · rename_i h;cases h
      · rename_i h;cases h
      · rename_i h;rw [show a.eval (.const (.slice ao n c))=.slice ao n c from rfl,h];exact rfl
      · rename_i h;cases h
      · exact trivial
    | pointer p=>
      cases p with
      | none=>exact rfl
      | some p=>exact trivial
    | _=>exact trivial
  | global g=>exact trivial
  | func f=>exact rfl
theorem ev_nm {m:Nat} {st:St} (sc:Sc m st) (x:Operand):NmV st (ev st x):=by
  cases x with
  | tmp t=>exact ⟨sc.sb t,sc.sr t⟩
  | const v=>
    have:(ev st (.const v)).bids=[]∧(ev st (.const v)).rids=[]:=by
      unfold ev
      split
      · rename_i h;cases h
      · split <;> exact ⟨rfl,rfl⟩
      · rename_i h;cases h
      · rename_i h;cases h
    exact ⟨fun b hb=>(by rw [this.1] at hb;cases hb),fun p hp=>(by rw [this.2] at hp;cases hp)⟩
  | global g=>exact ⟨fun b hb=>(by cases hb),fun p hp=>(by cases hp)⟩
  | func f=>exact ⟨fun b hb=>(by cases hb),fun p hp=>(by cases hp)⟩
theorem ty_info0 {t:Nat} {y:Ty} (h:tyOkB P t y=true):∃ i zv,P.info? t=some i∧i.size=y.sz∧i.bytes=y.by_∧i.zero=some zv∧cesAre y.z zv.cells.toList=true∧zv.cells.size=i.size:=by
  unfold tyOkB at h
  simp only [Bool.and_eq_true] at h
  have h:=h.1.1
  split at h
  · rename_i i hi
    simp only [Bool.and_eq_true] at h
    obtain ⟨⟨h1,h2⟩,h3⟩:=h
    split at h3
    · rename_i zv hz
      simp only [Bool.and_eq_true] at h3
      exact ⟨i,zv,hi,Nat.eq_of_beq_eq_true h1,Nat.eq_of_beq_eq_true h2,hz,h3.1,Nat.eq_of_beq_eq_true h3.2⟩
    · cases h3
  · cases h
theorem ty_info {t:Nat} {y:Ty} (h:tyOkB P t y=true):∃ i zv,P.info? t=some i∧i.size=y.sz∧i.bytes=y.by_∧i.zero=some zv∧cesAre y.z zv.cells.toList=true:=by
  obtain ⟨i,zv,h1,h2,h3,h4,h5,_⟩:=ty_info0 h
  exact ⟨i,zv,h1,h2,h3,h4,h5⟩
theorem ty_kind {t:Nat} {y:Ty} (h:tyOkB P t y=true):(match y.k,P.underlying t with
  | .bas,some .bool=>true
  | .int k,some (.int k')=>decide (k=k')
  | .string,some .string=>true
  | .slc e,some (.slice e')=>Nat.beq e e'
  | .arr n e,some (.array n' e')=>Nat.beq n n'&&Nat.beq e e'
  | .str fs,some (.struct fl)=>fieldsAre P fl.toList fs
  | .ptr e,some (.pointer e')=>Nat.beq e e'
  | .map k e,some (.map k' e')=>(Nat.beq k k'&&Nat.beq e e')&&mapOkB P k e
  | _,_=>false)=true:=by
  unfold tyOkB at h
  simp only [Bool.and_eq_true] at h
  exact h.1.2
theorem ty_bas {t:Nat} {y:Ty} (h:tyOkB P t y=true) (hk:y.k=.bas):P.underlying t=some .bool:=by
  have h:=ty_kind h
  rw [hk] at h
  split at h <;> simp_all
theorem ty_ptr {t:Nat} {y:Ty} (h:tyOkB P t y=true) {e:Nat} (hk:y.k=.ptr e):P.underlying t=some (.pointer e):=by
  have h:=ty_kind h
  rw [hk] at h
  split at h <;> simp_all
theorem ty_map {t:Nat} {y:Ty} (h:tyOkB P t y=true) {k e:Nat} (hk:y.k=.map k e):P.underlying t=some (.map k e)∧(∃ q,P.underlying k=some (.int q))∧∀ w,(zeroValue e).run P w=.ok (.int .i64 0) w:=by
  have h:=ty_kind h
  rw [hk] at h
  split at h <;> try (simp_all;done)
  rename_i k' e' k1 e1 h1 h2
  cases h1
  simp only [Bool.and_eq_true] at h
  obtain ⟨⟨g1,g2⟩,g3⟩:=h
  obtain rfl:=Nat.eq_of_beq_eq_true g1
  obtain rfl:=Nat.eq_of_beq_eq_true g2
  unfold mapOkB at g3
  simp only [Bool.and_eq_true] at g3
  refine ⟨h2,?_,fun w=>?_⟩
  · have:=g3.1
    split at this
    · rename_i q hq
      exact ⟨q,hq⟩
    · cases this
  · have:=g3.2
    split at this
    · rename_i i hi
      split at this
      · rename_i hz
        simp [zeroValue,typeInfo,hi,hz]
      · cases this
    · cases this
theorem ty_int {t:Nat} {y:Ty} (h:tyOkB P t y=true) {k:IntKind} (hk:y.k=.int k):P.underlying t=some (.int k):=by
  have h:=ty_kind h
  rw [hk] at h
  split at h <;> simp_all
theorem ty_string {t:Nat} {y:Ty} (h:tyOkB P t y=true) (hk:y.k=.string):P.underlying t=some .string:=by
  have h:=ty_kind h
  rw [hk] at h
  split at h <;> simp_all
theorem ty_slc {t:Nat} {y:Ty} (h:tyOkB P t y=true) {e:Nat} (hk:y.k=.slc e):P.underlying t=some (.slice e):=by
  have h:=ty_kind h
  rw [hk] at h
  split at h <;> simp_all
theorem ty_arr {t:Nat} {y:Ty} (h:tyOkB P t y=true) {n e:Nat} (hk:y.k=.arr n e):P.underlying t=some (.array n e):=by
  have h:=ty_kind h
  rw [hk] at h
  split at h <;> simp_all
theorem ty_str {t:Nat} {y:Ty} (h:tyOkB P t y=true) {fs:List (Nat × Nat)} (hk:y.k=.str fs):∃ fl,P.underlying t=some (.struct fl)∧fieldsAre P fl.toList fs=true:=by
  have h:=ty_kind h
  rw [hk] at h
  split at h <;> simp_all
theorem ty_und {t:Nat} {y:Ty} (h:tyOkB P t y=true):∃ d,P.underlying t=some d∧d.isRow=y.isAgg:=by
  have h:=ty_kind h
  unfold Ty.isAgg
  split at h <;> first|(rename_i h1 h2;rw [h1,h2];exact ⟨_,rfl,rfl⟩)|cases h
theorem ty_agg {t:Nat} {y:Ty} (h:tyOkB P t y=true) (w:World):(isAgg t).run P w=.ok y.isAgg w:=by
  obtain ⟨d,hd,he⟩:=ty_und h
  unfold isAgg
  rw [Sem.run_bind,run_underlying hd w,← he]
  cases d <;> rfl
theorem ty_size {t:Nat} {y:Ty} (h:tyOkB P t y=true) (w:World):(Go.sizeOf t).run P w=.ok y.sz w:=by
  obtain ⟨i,_,hi,hs,_⟩:=ty_info h
  simp [Go.sizeOf,typeInfo,hi,hs]
theorem fieldsAre_get:∀ {fl:List Field} {fs:List (Nat × Nat)},fieldsAre P fl fs=true→∀ (i o ft:Nat),fs[i]? = some (o,ft)→∃ f,fl[i]? = some f∧f.offset=o∧f.type=ft
  | [],[],_,i,o,ft,h=>by simp at h
  | f :: fl,(o',t') :: fs,h,0,o,ft,hi=>by
    simp only [fieldsAre,Bool.and_eq_true] at h
    cases hi
    exact ⟨f,rfl,Nat.eq_of_beq_eq_true h.1.1.1,Nat.eq_of_beq_eq_true h.1.1.2⟩
  | f :: fl,(o',t') :: fs,h,i+1,o,ft,hi=>by
    simp only [fieldsAre,Bool.and_eq_true] at h
    exact fieldsAre_get h.2 i o ft hi
  | [],_ :: _,h,_,_,_,_=>by cases h
  | _ :: _,[],h,_,_,_,_=>by cases h
theorem A2.split {α β:Type} {R:α→β→Prop} {xs:List α} {ys:List β} (h:A2 R xs ys) (o n:Nat):A2 R ((xs.drop o).take n) ((ys.drop o).take n):=(h.drop o).take n
theorem cut_rv {E:Env} {w:World} {y:Ty} {cs:List Ce} {o:Nat} {av:AV} {vs:List Value} (hc:cut y cs o=some av) (h:A2 (RC E w) vs cs) :
    (y.isAgg=true∧o+y.sz≤vs.length∧av=.agg ((cs.drop o).take y.sz)∧A2 (RC E w) ((vs.drop o).take y.sz) ((cs.drop o).take y.sz))∨
    (y.isAgg=false∧∃ v c,vs[o]? = some v∧av=.c c∧cs[o]? = some c∧RC E w v c):=by
  unfold cut at hc
  split at hc
  · rename_i ha
    cases hb:Nat.ble (o+y.sz) cs.length with
    | false=>rw [hb] at hc;cases hc
    | true=>
      rw [hb] at hc
      cases hc
      exact .inl ⟨ha,by rw [h.len];exact Nb hb,rfl,h.split o y.sz⟩
  · rename_i ha
    split at hc
    · rename_i c hcs
      cases hc
      obtain ⟨v,hv,hr⟩:=h.get o c hcs
      exact .inr ⟨by simpa using ha,v,c,hv,rfl,hcs,hr⟩
    · cases hc
theorem cutT_cut {y:Ty} {cs:List Tr} {o:Nat} {av:AV} (h:cutT y cs o=some av):cut y (cs.map .t) o=some av:=by
  unfold cutT at h
  unfold cut
  split at h
  · rename_i ha
    rw [if_pos ha,Lm]
    cases hb:Nat.ble (o+y.sz) cs.length with
    | false=>rw [hb] at h;cases h
    | true=>rw [hb] at h;cases h;simp [List.map_drop,List.map_take]
  · rename_i ha
    rw [if_neg ha,List.getElem?_map]
    split at h
    · rename_i c hc
      rw [hc]
      cases h
      rfl
    · cases h
theorem rtl_a2 {E:Env} {w:World}:∀ {vs:List Value} {ts:List Tr},RTL E.F w vs ts→A2 (RC E w) vs (ts.map .t)
  | _,_,.nil=>.nil
  | _,_,.cons h1 h2=>.cons h1 (rtl_a2 h2)
theorem cut_nm {st:St} {y:Ty} {cs:List Ce} {o:Nat} {av:AV} (hc:cut y cs o=some av) (h:∀ p∈cs.flatMap Ce.rids,st.hasR p):NmV st av:=by
  unfold cut at hc
  split at hc
  · cases hb:Nat.ble (o+y.sz) cs.length with
    | false=>rw [hb] at hc;cases hc
    | true=>
      rw [hb] at hc
      cases hc
      refine ⟨fun b hb=>(by cases hb),fun p hp=>h p ?_⟩
      obtain ⟨c,h1,h2⟩:=List.mem_flatMap.1 (show p∈((cs.drop o).take y.sz).flatMap Ce.rids from hp)
      exact List.mem_flatMap.2 ⟨c,List.mem_of_mem_drop (List.mem_of_mem_take h1),h2⟩
  · split at hc
    · rename_i c hcs
      cases hc
      exact ⟨fun b hb=>(by cases hb),fun p hp=>h p (List.mem_flatMap.2 ⟨c,List.mem_of_getElem? hcs,hp⟩)⟩
    · cases hc
theorem rids_t (ts:List Tr):(ts.map Ce.t).flatMap Ce.rids=[]:=by
  induction ts with
  | nil=>rfl
  | cons t ts ih=>rw [List.map_cons,List.flatMap_cons,ih];rfl
theorem cutT_nm {st:St} {y:Ty} {cs:List Tr} {o:Nat} {av:AV} (hc:cutT y cs o=some av):NmV st av:=cut_nm (cutT_cut hc) (fun p hp=>by rw [rids_t] at hp;cases hp)
theorem addr_add (g o j:Nat):(⟨g,o,none⟩:Addr).add j=⟨g,o+j,none⟩:=by unfold Addr.add;split <;> simp_all
theorem load_rv {E:Env} {w:World} {t:Nat} {y:Ty} (hy:tyOkB P t y=true) {g p o:Nat} {vs:List Value} {cs:List Ce} {av:AV} (hcell:∀ (i:Nat) u,vs[i]? = some u→w.cell? ⟨g,p+i,none⟩=some u) (h:A2 (RC E w) vs cs) (hc:cut y cs o=some av) :
    ∃ v,(Instr.loadAt t (.pointer (some ⟨g,p+o,none⟩))).run P w=.ok v w∧R1 E w v av:=by
  rcases cut_rv hc h with ⟨ha,hl,rfl,h2⟩|⟨ha,v,c,hv,rfl,_,hr⟩
  · obtain ⟨d,hd,he⟩:=ty_und hy
    obtain ⟨i,_,hi,hs,_⟩:=ty_info hy
    have hlen:((vs.drop o).take y.sz).length=y.sz:=by rw [List.length_take,List.length_drop];omega
    refine ⟨.agg ((vs.drop o).take y.sz).toArray,run_loadAt_mid w g (p+o) t _ d (fun j v hv=>?_) hd (he.trans ha) (by rw [hi,hlen];exact congrArg some hs),⟨_,rfl,h2⟩⟩
    rw [List.getElem?_take] at hv
    split at hv
    · rw [List.getElem?_drop] at hv
      rw [Nat.add_assoc]
      exact hcell _ _ hv
    · cases hv
  · refine ⟨v,?_,hr⟩
    simp only [Instr.loadAt,Instr.sureAddr,Sem.run_bind,Sem.run_pure,Result.andThen_ok,loadVar,ty_agg hy,ha]
    have:=hcell o v hv
    simp [this]
theorem RB.cells {E:Env} {w:World} {n0 i:Nat} {cs:List Ce} (h:RB E w n0 i cs):∃ vs,(∀ (j:Nat) u,vs[j]? = some u→w.cell? ⟨E.bk i,0+j,none⟩=some u)∧A2 (RC E w) vs cs:=by
  obtain ⟨vs,t,_,hb,_,ha⟩:=h
  refine ⟨vs,fun j u hu=>?_,ha⟩
  rw [Nat.zero_add,cell_of_row _ _ _ _ _ _ hb]
  simpa using hu
theorem R1.rv {E:Env} {w:World} {v:Value} {a:AV} (h:R1 E w v a):RV E w v a:=by
  cases a with
  | tup ars=>exact h.elim
  | _=>exact h
theorem ksAre_lits:∀ {ks:List K} {ls:List Lk},ksAre ks ls=true→∀ {vs:List Value},litsAre ls vs=true→Lits ks vs
  | [],[],_,[],_=>.nil
  | [],[],_,_ :: _,h=>by cases h
  | .lit k :: ks,l :: ls,h,[],h2=>by cases h2
  | .lit k :: ks,l :: ls,h,v :: vs,h2=>by
    simp only [ksAre,Bool.and_eq_true,decide_eq_true_eq] at h
    simp only [litsAre,Bool.and_eq_true] at h2
    obtain ⟨rfl,h⟩:=h
    refine .cons ?_ (ksAre_lits h h2.2)
    have h3:=h2.1
    unfold litIs at h3
    split at h3 <;> first|(cases h3;done)|exact ⟨_,rfl⟩
  | .sl _ _ :: _,_,h,_,_=>by simp [ksAre] at h
  | [],_ :: _,h,_,_=>by cases h
  | .lit _ :: _,[],h,_,_=>by cases h
theorem lits_of {ks:List K} {ls:List Lk} (h:ksAre ks ls=true) {vs:List Value} (h2:litsAre ls vs=true):Lits ks vs:=ksAre_lits h h2
theorem ty_eq {t:Nat} {y:Ty} (h:tyOkB P t y=true) (hn:¬ y.eq=[]):∃ ks,eqShape P 12 t=some ks∧ksAre ks y.eq=true∧P.eqGuardType P.depth t=false:=by
  unfold tyOkB at h
  simp only [Bool.and_eq_true] at h
  have h:=h.2
  simp only [Bool.or_eq_true,Bool.and_eq_true,List.isEmpty_iff,hn,false_or] at h
  split at h
  · rename_i ks hks
    exact ⟨ks,hks,h.1,by simpa using h.2⟩
  · cases h.1
theorem ty_aggB {t:Nat} {y:Ty} (h:tyOkB P t y=true):isAggB P t=y.isAgg:=by
  obtain ⟨d,hd,he⟩:=ty_und h
  unfold isAggB
  rw [hd,← he]
  cases d <;> rfl
theorem lits_a2 {E:Env} {w:World}:∀ {vs:List Value} {cs:List Ce} {us:List Value},A2 (RC E w) vs cs→lits? cs=some us→vs=us
  | _,_,us,.nil,h=>by
    obtain rfl:=Option.some.inj h
    rfl
  | _,c :: cs,us,.cons (x:=v) h1 h2,h=>by
    unfold lits? at h
    split at h
    · cases ‹c :: cs=[]›
    · rename_i u rest he
      cases he
      split at h
      · rename_i vs' hvs
        cases h
        have h1:RT E.F w v (.lit u):=h1
        cases h1
        rw [lits_a2 h2 hvs]
      · cases h
    · cases h
section
variable {E:Env} {w:World} {n0 N m:Nat} {st:St} {a:Act}
theorem RT.len {F:Nat→Prop} {v:Value} {k:Nat} {xs:List (List Tr)} (h:RT F w v (.sl k xs)):∃ ao cap,v=.slice ao xs.length cap∧xs.length≤cap∧(ao=none→cap=0):=by
  cases h with
  | slNil hc=>exact ⟨_,_,rfl,Nat.zero_le _,hc⟩
  | slSome h1 h2=>subst h1;exact ⟨_,_,rfl,h2,fun h=>by cases h⟩
theorem row_len {e k n:Nat} {v:Value} {xs:List Value} {B:Nat} (h:w.ownsRow B e k v n xs):∃ ao cap,v=.slice ao n cap∧n≤cap∧(ao=none→cap=0):=by
  rcases h.2 with ⟨rfl,rfl⟩|⟨g,cap,cur,rfl,_,_,hc,_⟩
  · exact ⟨none,0,rfl,Nat.le_refl _,fun _=>rfl⟩
  · exact ⟨_,cap,rfl,hc,fun h=>by cases h⟩
theorem elems_len (r:RepM O E w n0 N m st a) {v:Value} {av:AV} {k:Nat} {xs:List (List Tr)} (hv:RV E w v av) (h:elemsA st av=some (k,xs)):∃ ao cap,v=.slice ao xs.length cap:=by
  unfold elemsA at h
  split at h
  · rename_i c
    split at h
    · rename_i k' xs' hc
      cases h
      unfold treeC at hc
      split at hc
      · cases hc
        obtain ⟨ao,cap,h1,_⟩:=RT.len hv
        exact ⟨ao,cap,h1⟩
      · cases hc
        exact ⟨none,0,hv⟩
      · rename_i τ ver
        split at hc
        · rename_i R hR
          cases hb:Nat.beq R.ver ver&&R.dp.isNone with
          | false=>rw [hb] at hc;cases hc
          | true=>
            rw [hb] at hc
            cases hc
            obtain ⟨es,h1,h2,_⟩:=(r.row τ R hR).hd (by have:=(Bool.and_eq_true_iff.1 hb).2;unfold Row.isM;rw [Option.isNone_iff_eq_none.1 this])
            have hver:=Nat.eq_of_beq_eq_true (Bool.and_eq_true_iff.1 hb).1
            obtain ⟨ao,cap,h3,_⟩:=row_len h1
            have hv2:v=E.vl τ ver:=hv.1
            rw [hv2,← hver,h3,h2]
            exact ⟨ao,cap,rfl⟩
        · cases hc
      · cases hc
    · cases h
  · cases h
theorem lenA_len (r:RepM O E w n0 N m st a) {v:Value} {av:AV} {n:Nat} (hv:RV E w v av) (h:lenA st av=some n):∃ ao cap,v=.slice ao n cap:=by
  unfold lenA at h
  split at h
  · rename_i τ ver
    split at h
    · rename_i R hR
      cases hb:Nat.beq R.ver ver&&!R.isM with
      | false=>rw [hb] at h;cases h
      | true=>
        rw [hb] at h
        cases h
        rw [Bool.and_eq_true,Bool.not_eq_true'] at hb
        obtain ⟨es,h1,h2,_⟩:=(r.row τ R hR).hd hb.2
        have hb:=hb.1
        obtain ⟨ao,cap,h3,_⟩:=row_len h1
        have hv2:v=E.vl τ ver:=hv.1
        rw [hv2,← Nat.eq_of_beq_eq_true hb,h3,h2]
        exact ⟨ao,cap,rfl⟩
    · cases h
  · split at h
    · rename_i k xs e
      cases h
      exact elems_len r hv e
    · cases h
abbrev OkV (P:Program) (E:Env) (w:World) (st:St) (a:Act) (o:Oper) (av:AV):Prop:=∃ v,(execOp a.eval o).run P w=.ok (.value v) w∧RV E w v av∧NmV st av
theorem ok_load (hT:TabOk P T) (r:RepM O E w n0 N m st a) {o:Oper} {t:Nat} {x:Operand} (ho:o.op=.load t x) {av:AV} (h:pureS T st (.load t x)=some av):OkV P E w st a o av:=by
  have hx:=ev_rv r x
  simp only [pureS] at h
  cases hy:T t with
  | none=>rw [hy] at h;cases h
  | some y=>
    rw [hy] at h
    simp only at h
    have hty:=hT.ty t y hy
    split at h
    · rename_i b off he
      split at h
      · rename_i cs hcs
        rw [he] at hx
        obtain ⟨vs,h1,h2⟩:=(r.box b cs hcs).cells
        obtain ⟨v,hv,hr⟩:=load_rv hty h1 h2 h
        refine ⟨v,?_,hr.rv,cut_nm h (r.sc.br b cs hcs)⟩
        have hx:a.eval x=.pointer (some ⟨E.bk b,off,none⟩):=hx
        rw [Nat.zero_add] at hv
        unfold execOp
        simp only [ho,hx,Sem.run_bind,hv,Result.andThen_ok,Sem.run_pure]
      · cases h
    · rename_i xs off he
      rw [he] at hx
      obtain ⟨g,p,vs,hv,_,_,h3,h4⟩:=hx
      obtain ⟨v,hl,hr⟩:=load_rv hty h3 (rtl_a2 h4) (cutT_cut h)
      refine ⟨v,?_,hr.rv,cutT_nm h⟩
      unfold execOp
      simp only [ho,hv,Sem.run_bind,hl,Result.andThen_ok,Sem.run_pure]
    · cases h
theorem ok_nil (r:RepM O E w n0 N m st a) {o:Oper} {x:Operand} (ho:o.op=.nilCheck x) {av:AV} (h:pureS T st (.nilCheck x)=some av):OkV P E w st a o av:=by
  have hx:=ev_rv r x
  have hn:=ev_nm r.sc x
  simp only [pureS] at h
  split at h
  · rename_i b off he
    cases h
    rw [he] at hx hn
    have hv:a.eval x=_:=hx
    exact ⟨_,by unfold execOp;simp only [ho,hv,Sem.run_pure],rfl,hn⟩
  · rename_i xs off he
    cases h
    rw [he] at hx hn
    obtain ⟨g,p,vs,hv,h1⟩:=hx
    exact ⟨_,by unfold execOp;simp only [ho,hv,Sem.run_pure],⟨g,p,vs,rfl,h1⟩,hn⟩
  · rename_i τ v k i off he
    cases h
    rw [he] at hx hn
    obtain ⟨g,n,c,h1,hv⟩:=hx
    exact ⟨_,by unfold execOp;simp only [ho,hv,Sem.run_pure],⟨g,n,c,h1,rfl⟩,hn⟩
  · cases h
theorem rv_lit {v u:Value} (h:RV E w v (.c (.t (.lit u)))):v=u:=by
  have h:RT E.F w v (.lit u):=h
  cases h
  rfl
theorem eqGuard_lit (op:BinOp) (t:TypeId) (x y:Operand) (u v:Value) (hu:litV u=true):eqGuard op t x y u v=Pure.pure ():=by
  cases u <;> first|(cases hu;done)|(cases op <;> rfl)
theorem ok_val {o:Oper} {v:Value} {u:Value} (hv:(execOp a.eval o).run P w=.ok (.value v) w) (h:v=u) (hl:litV u=true):OkV P E w st a o (.c (.t (.lit u))):=by
  subst h
  exact ⟨v,hv,RT.lit hl,nmv_lit _ _⟩
theorem binI_lit {op:BinOp} {k:IntKind} {x y:Int} {v:Value} (h:binI op k x y=some v):litV v=true:=by
  unfold binI at h
  split at h <;> first
    | (cases h;done)
    | (obtain rfl:=Option.some.inj h;rfl)
    | (cases hd:decide (y=0) with
       | true=>rw [hd] at h;cases h
       | false=>rw [hd] at h;obtain rfl:=Option.some.inj h;rfl)
theorem run_binI {op:BinOp} {t:TypeId} {k:IntKind} {x y:Int} {v:Value} (h:binI op k x y=some v):(binOp op t (.int k x) (.int k y)).run P w=.ok v w:=by
  unfold binI at h
  split at h <;> first
    | (cases h;done)
    | (obtain rfl:=Option.some.inj h;simp [binOp,Op.intArith,Op.intBits,Op.intCmp];done)
    | (cases hd:decide (y=0) with
       | true=>rw [hd] at h;cases h
       | false=>
         rw [hd] at h
         have hy:¬ y=0:=of_decide_eq_false hd
         obtain rfl:=Option.some.inj h
         simp [binOp,Op.intDiv,hy])
theorem run_shI {op:BinOp} {t:TypeId} {k k':IntKind} {x y:Int} {v:Value} (h:shI op k x y=some v):(binOp op t (.int k x) (.int k' y)).run P w=.ok v w∧litV v=true:=by
  unfold shI at h
  split at h
  · cases hd:decide (y < 0) with
    | true=>rw [hd] at h;cases h
    | false=>
      rw [hd] at h
      have hy:¬ y < 0:=of_decide_eq_false hd
      obtain rfl:=Option.some.inj h
      exact ⟨by simp [binOp,Op.shift,hy],rfl⟩
  · cases hd:decide (y < 0) with
    | true=>rw [hd] at h;cases h
    | false=>
      rw [hd] at h
      have hy:¬ y < 0:=of_decide_eq_false hd
      obtain rfl:=Option.some.inj h
      exact ⟨by simp [binOp,Op.shift,hy],rfl⟩
  · cases h
theorem nilQ_rv {v:Value} {x:AV} {b:Bool} (h:nilQ x=some b) (hv:RV E w v x):∃ p,v=.pointer p∧p.isNone=b:=by
  unfold nilQ at h
  split at h
  · cases h
    exact ⟨none,hv,rfl⟩
  · cases h
    exact ⟨_,hv,rfl⟩
  · cases h
    obtain ⟨g,n,c,_,hv⟩:=hv
    exact ⟨_,hv,rfl⟩
  · cases h
    obtain ⟨g,p,vs,hv,_⟩:=hv
    exact ⟨_,hv,rfl⟩
  · cases h
theorem ok_bin (hT:TabOk P T) (r:RepM O E w n0 N m st a) {o:Oper} {op:BinOp} {t t':TypeId} {x y:Operand} (ho:o.op=.binOp op t x y t') {av:AV} (h:pureS T st (.binOp op t x y t')=some av):OkV P E w st a o av:=by
  have hx:=ev_rv r x
  have hy:=ev_rv r y
  simp only [pureS] at h
  have go:∀ u v z,a.eval x=u→a.eval y=v→(eqGuard op t x y u v=Pure.pure ()∨(eqGuard op t x y u v).run P w=.ok () w)→(binOp op t u v).run P w=.ok z w→(execOp a.eval o).run P w=.ok (.value z) w:=fun u v z h1 h2 h3 h4=>by
    unfold execOp
    rcases h3 with h3|h3
    · simp only [ho,h1,h2,h3,Sem.run_bind,Sem.run_pure,Result.andThen_ok,h4]
    · simp only [ho,h1,h2,h3,Sem.run_bind,Sem.run_pure,Result.andThen_ok,h4]
  unfold binA at h
  split at h
  · rename_i k1 n1 k2 n2 e1 e2
    rw [e1] at hx
    rw [e2] at hy
    split at h
    · rename_i v hv
      cases h
      exact ok_val (go _ _ _ (rv_lit hx) (rv_lit hy) (.inl (eqGuard_lit _ _ _ _ _ _ rfl)) (run_shI hv).1) rfl (run_shI (P:=P) (w:=w) (t:=t) (k':=k2) hv).2
    · split at h
      · rename_i hk
        subst hk
        split at h
        · rename_i v hv
          cases h
          exact ok_val (go _ _ _ (rv_lit hx) (rv_lit hy) (.inl (eqGuard_lit _ _ _ _ _ _ rfl)) (run_binI hv)) rfl (binI_lit hv)
        · cases h
      · cases h
  · rename_i b1 b2 e1 e2
    rw [e1] at hx
    rw [e2] at hy
    split at h
    · rename_i y1 hy1
      have hu:=ty_bas (hT.ty t _ hy1) rfl
      unfold binB at h
      cases op <;> simp only at h <;> first|(cases h;done)|skip
      · cases h
        refine ok_val (go _ _ _ (rv_lit hx) (rv_lit hy) (.inl (eqGuard_lit _ _ _ _ _ _ rfl)) ?_) rfl rfl
        simp [binOp,run_equal_bool,hu]
      · cases h
        refine ok_val (go _ _ _ (rv_lit hx) (rv_lit hy) (.inl (eqGuard_lit _ _ _ _ _ _ rfl)) ?_) rfl rfl
        simp [binOp,run_equal_bool,hu]
    · cases h
  · rename_i s1 s2 e1 e2
    rw [e1] at hx
    rw [e2] at hy
    cases op <;> simp only at h <;> first
      | (cases h;done)
      | (cases h
         refine ok_val (go _ _ _ (rv_lit hx) (rv_lit hy) (.inl (eqGuard_lit _ _ _ _ _ _ rfl)) ?_) rfl rfl
         simp [binOp,Op.stringOp];done)
  · rename_i xs ys e1 e2
    rw [e1] at hx
    rw [e2] at hy
    split at h
    · rename_i yt us vs hyt hus hvs
      cases hc:(yt.isAgg&&!yt.eq.isEmpty)&&(litsAre yt.eq us&&litsAre yt.eq vs) with
      | false=>rw [hc] at h;cases h
      | true=>
        rw [hc] at h
        simp only [cond_true] at h
        simp only [Bool.and_eq_true] at hc
        obtain ⟨⟨hag,hne⟩,hlu,hlv⟩:=hc
        have hty:=hT.ty t _ hyt
        obtain ⟨ks,hks,hka,hgd⟩:=ty_eq hty (by simpa using hne)
        obtain ⟨x',hx',ax⟩:=hx
        obtain ⟨y',hy',ay⟩:=hy
        obtain rfl:=lits_a2 ax hus
        obtain rfl:=lits_a2 ay hvs
        have hg:(eqGuard op t x y (.agg x'.toArray) (.agg y'.toArray)).run P w=.ok () w:=run_eqGuard_agg w op t x y _ _ hgd
        have ha:isAggB P t=true:=by rw [ty_aggB hty];exact hag
        cases op <;> simp only at h <;> first|(cases h;done)|skip
        · cases h
          exact ok_val (go _ _ _ hx' hy' (.inr hg) (run_eql_sh hks (by omega) ha w _ _ (lits_of hka hlu) (lits_of hka hlv))) rfl rfl
        · cases h
          exact ok_val (go _ _ _ hx' hy' (.inr hg) (run_neq_sh hks (by omega) ha w _ _ (lits_of hka hlu) (lits_of hka hlv))) rfl rfl
    · cases h
  · rename_i e2
    rw [e2] at hy
    split at h
    · rename_i e _ _ _ _ b hyt hb
      have hu:=ty_ptr (hT.ty t _ hyt) rfl
      have hpe:P.underlying t=some (.pointer (P.pointee t)):=by rw [hu];simp [Program.pointee,hu]
      obtain ⟨p,hp,hpb⟩:∃ p,a.eval x=.pointer p∧p.isNone=b:=nilQ_rv hb hx
      have hy':a.eval y=.pointer none:=hy
      cases op <;> simp only at h <;> first|(cases h;done)|skip
      · cases h
        exact ok_val (go _ _ _ hp hy' (.inl rfl) (run_eql_pointer_nil w t p hpe)) (by rw [hpb]) rfl
      · cases h
        exact ok_val (go _ _ _ hp hy' (.inl rfl) (run_neq_pointer_nil w t p hpe)) (by rw [hpb]) rfl
    · cases h
  · cases h
theorem ok_cat (r:RepM O E w n0 N m st a) {o:Oper} {t t':TypeId} {x y:Operand} {s u:ByteArray} (ho:o.op=.binOp .add t x y t') (h1:ev st x=.c (.t (.lit (.string s)))) (h2:ev st y=.c (.t (.lit (.string u)))) (hs:s.size+u.size≤9223372036854775807):OkV P E w st a o (.s (s++u)):=by
  have hx:=ev_rv r x
  have hy:=ev_rv r y
  rw [h1] at hx
  rw [h2] at hy
  have hb:(binOp .add t (.string s) (.string u)).run P w=.ok (.string (s++u)) w:=by
    have:¬ (((s.size+u.size:Nat):Int) > IntKind.i64.max):=by
      show ¬ (((s.size+u.size:Nat):Int) > 9223372036854775807)
      omega
    simp only [binOp,Op.stringOp,if_neg this,Sem.run_pure]
  refine ok_val (u:=.string (s++u)) ?_ rfl rfl
  unfold execOp
  simp only [ho,rv_lit hx,rv_lit hy,eqGuard_lit _ _ _ _ _ _ (show litV (.string s)=true from rfl),Sem.run_bind,Sem.run_pure,Result.andThen_ok,hb]
theorem ok_un (r:RepM O E w n0 N m st a) {o:Oper} {op:UnOp} {t:TypeId} {x:Operand} (ho:o.op=.unOp op t x) {av:AV} (h:pureS T st (.unOp op t x)=some av):OkV P E w st a o av:=by
  have hx:=ev_rv r x
  simp only [pureS] at h
  unfold unA at h
  split at h
  · rename_i b e
    rw [e] at hx
    cases h
    exact ok_val (u:=.bool (!b)) (by unfold execOp;simp only [ho,rv_lit hx,Op.unary,Sem.run_bind,Sem.run_pure,Result.andThen_ok]) rfl rfl
  · rename_i k n e
    rw [e] at hx
    cases h
    exact ok_val (u:=.int k (k.wrap (0 - n))) (by unfold execOp;simp only [ho,rv_lit hx,Op.unary,Op.intArith,Sem.run_bind,Sem.run_pure,Result.andThen_ok]) rfl rfl
  · cases h
theorem ok_conv (hT:TabOk P T) (r:RepM O E w n0 N m st a) {o:Oper} {src dst:TypeId} {x:Operand} (ho:o.op=.convert src dst x) {av:AV} (h:pureS T st (.convert src dst x)=some av):OkV P E w st a o av:=by
  have hx:=ev_rv r x
  simp only [pureS] at h
  split at h
  · rename_i ys k _ _ _ _ kk n e1 e2 e3
    rw [e3] at hx
    cases h
    obtain ⟨d,hd,_⟩:=ty_und (hT.ty src _ e1)
    have hi:=ty_int (hT.ty dst _ e2) rfl
    exact ok_val (u:=.int k (k.wrap n)) (by unfold execOp;simp only [ho,rv_lit hx,convert,run_underlying hd,run_underlying hi,Conv.intToInt,Sem.run_bind,Sem.run_pure,Result.andThen_ok]) rfl rfl
  · rename_i s e1 e2 e3
    rw [e3] at hx
    cases h
    have hd:=ty_string (hT.ty src _ e1) rfl
    have hi:=ty_string (hT.ty dst _ e2) rfl
    exact ok_val (u:=.string s) (by unfold execOp;simp only [ho,rv_lit hx,convert,run_underlying hd,run_underlying hi,Sem.run_bind,Sem.run_pure,Result.andThen_ok]) rfl rfl
  · cases h
theorem ok_extract (r:RepM O E w n0 N m st a) {o:Oper} {x:Operand} {i:Nat} (ho:o.op=.extract x i) {av:AV} (h:pureS T st (.extract x i)=some av):OkV P E w st a o av:=by
  have hx:=ev_rv r x
  have hn:=ev_nm r.sc x
  simp only [pureS] at h
  split at h
  · rename_i vs e
    rw [e] at hx hn
    obtain ⟨us,hu,ha⟩:=hx
    obtain ⟨v,hv,hr⟩:=ha.get i _ h
    have hm:av∈vs:=List.mem_of_getElem? h
    have hb:∀ ars,av≠.tup ars:=fun ars e=>by rw [e] at hr;exact hr
    refine ⟨v,?_,hr.rv,fun b hb'=>hn.1 b ?_,fun p hp=>hn.2 p ?_⟩
    · unfold execOp
      simp only [ho,hu,Instr.extract,Sem.run_bind]
      rw [show us.toArray[i]? = some v by simpa using hv]
      simp only [Sem.run_pure,Result.andThen_ok]
    · refine List.mem_flatMap.2 ⟨av,hm,?_⟩
      cases av with
      | tup ars=>exact absurd rfl (hb ars)
      | _=>exact hb'
    · refine List.mem_flatMap.2 ⟨av,hm,?_⟩
      cases av with
      | tup ars=>exact absurd rfl (hb ars)
      | _=>exact hp
  · cases h
theorem part_rv {t:Nat} {y:Ty} (hy:tyOkB P t y=true) {vs:List Value} {cs:List Ce} {o:Nat} {av:AV} (h:A2 (RC E w) vs cs) (hc:cut y cs o=some av):∃ v,(part t vs.toArray o).run P w=.ok v w∧R1 E w v av:=by
  rcases cut_rv hc h with ⟨ha,hl,rfl,h2⟩|⟨ha,v,c,hv,rfl,_,hr⟩
  · refine ⟨.agg (vs.toArray.extract o (o+y.sz)),by simp [part,ty_agg hy,ha,ty_size hy],⟨_,?_,h2⟩⟩
    congr 1
    apply Array.toList_inj.1
    rw [Array.toList_extract]
    simp [List.extract]
  · exact ⟨v,by simp [part,ty_agg hy,ha,hv],hr⟩
theorem ok_field (hT:TabOk P T) (r:RepM O E w n0 N m st a) {o:Oper} {t:TypeId} {x:Operand} {f:Nat} (ho:o.op=.field t x f) {av:AV} (h:pureS T st (.field t x f)=some av):OkV P E w st a o av:=by
  have hx:=ev_rv r x
  have hn:=ev_nm r.sc x
  simp only [pureS] at h
  split at h
  · rename_i fs _ _ _ _ e1
    obtain ⟨fl,hu,hfl⟩:=ty_str (hT.ty t _ e1) rfl
    split at h
    · rename_i off ft e2
      obtain ⟨fd,hfd,ho1,ht1⟩:=fieldsAre_get hfl f off ft e2
      split at h
      · rename_i y cs e3 e4
        rw [e4] at hx hn
        obtain ⟨vs,hv,ha⟩:=hx
        obtain ⟨v,hp,hr⟩:=part_rv (hT.ty ft y e3) ha h
        refine ⟨v,?_,hr.rv,cut_nm h hn.2⟩
        have hfd':fl[f]? = some fd:=by rw [← Array.getElem?_toList];exact hfd
        unfold execOp
        simp only [ho,hv,Instr.field,Sem.run_bind,run_underlying hu,Result.andThen_ok,hfd',asAgg,Sem.run_pure,ho1,ht1,hp]
      · cases h
    · cases h
  · cases h
theorem ok_fieldAddr (hT:TabOk P T) (r:RepM O E w n0 N m st a) {o:Oper} {t:TypeId} {x:Operand} {f:Nat} (ho:o.op=.fieldAddr t x f) {av:AV} (h:pureS T st (.fieldAddr t x f)=some av):OkV P E w st a o av:=by
  have hx:=ev_rv r x
  have hn:=ev_nm r.sc x
  simp only [pureS] at h
  split at h
  · rename_i fs _ _ _ _ e1
    obtain ⟨fl,hu,hfl⟩:=ty_str (hT.ty t _ e1) rfl
    split at h
    · rename_i off ft e2
      obtain ⟨fd,hfd,ho1,ht1⟩:=fieldsAre_get hfl f off ft e2
      have hfd':fl[f]? = some fd:=by rw [← Array.getElem?_toList];exact hfd
      split at h
      · rename_i y e3
        cases hb:Nat.blt 0 y.sz with
        | false=>rw [hb] at h;cases h
        | true=>
          rw [hb] at h
          simp only [cond_true] at h
          have hsz:¬ y.sz=0:=by have:0 < y.sz:=Nb hb;omega
          have go:∀ g p,a.eval x=.pointer (some ⟨g,p,none⟩)→(execOp a.eval o).run P w=.ok (.value (.pointer (some ⟨g,p+off,none⟩))) w:=fun g p hp=>by
            unfold execOp
            simp only [ho,hp,Instr.fieldAt,Sem.run_bind,run_underlying hu,Result.andThen_ok,hfd',Instr.sureAddr,fieldPlace,ht1,ty_size (hT.ty ft y e3),if_neg hsz,Sem.run_pure,ho1,addr_add]
          split at h
          · rename_i b off' e4
            rw [e4] at hx hn
            cases h
            exact ⟨_,go _ _ hx,rfl,hn⟩
          · rename_i xs off' e4
            rw [e4] at hx hn
            cases h
            obtain ⟨g,p,vs,hv,h1⟩:=hx
            exact ⟨_,go _ _ hv,⟨g,p,vs,by rw [Nat.add_assoc],h1⟩,hn⟩
          · rename_i τ v k i off' e4
            rw [e4] at hx hn
            cases h
            obtain ⟨g,n,c,h1,hv⟩:=hx
            exact ⟨_,go _ _ hv,⟨g,n,c,h1,by rw [Nat.add_assoc]⟩,hn⟩
          · cases h
      · cases h
    · cases h
  · cases h
theorem cellsA_rv {v:Value} {av:AV} {cs:List Ce} (h:cellsA av=some cs) (hv:RV E w v av):A2 (RC E w) v.cells.toList cs:=by
  unfold cellsA at h
  split at h
  · cases h
    have h1:v.oneCell'=true:=RC.one hv
    have:v.cells.toList=[v]:=by cases v <;> first|rfl|(cases h1;done)
    rw [this]
    exact .cons hv .nil
  · cases h
    obtain ⟨vs,rfl,ha⟩:=hv
    exact ha
  · cases h
theorem cellsA_nm {av:AV} {cs:List Ce} (h:cellsA av=some cs) (hn:NmV st av):∀ p∈cs.flatMap Ce.rids,st.hasR p:=by
  unfold cellsA at h
  split at h
  · cases h
    intro p hp
    exact hn.2 p (by rw [List.flatMap_cons,List.flatMap_nil,List.append_nil] at hp;exact hp)
  · cases h
    exact hn.2
  · cases h
theorem A2.splice {vs us:List Value} {cs xs:List Ce} (h:A2 (RC E w) vs cs) (h2:A2 (RC E w) us xs) (o:Nat):A2 (RC E w) (vs.take o++us++vs.drop (o+us.length)) (splice cs o xs):=by
  rw [Cg.splice_eq]
  rw [h2.len]
  exact ((h.take o).append h2).append (h.drop _)
theorem fold_set:∀ (us:List Value) (off k:Nat) (vs:List Value),off+k+us.length≤vs.length→(us.zipIdx k).foldl (fun (cs:Array Value) (p:Value × Nat)=>cs.setIfInBounds (off+p.2) p.1) vs.toArray=(vs.take (off+k)++us++vs.drop (off+k+us.length)).toArray
  | [],off,k,vs,h=>by simp
  | u :: us,off,k,vs,h=>by
    rw [List.length_cons] at h
    rw [List.zipIdx_cons,List.foldl_cons,List.setIfInBounds_toArray,fold_set us off (k+1) (vs.set (off+k) u) (by rw [List.length_set];omega)]
    congr 1
    rw [show off+(k+1)=off+k+1 by omega,List.take_succ_eq_append_getElem (by rw [List.length_set];omega),List.take_set_of_le (Nat.le_refl _),List.getElem_set_self,List.drop_set_of_lt (by omega),List.length_cons,show off+k+1+us.length=off+k+(us.length+1) by omega]
    simp
theorem fill_rv (r:RepM O E w n0 N m st a) {pl pl2:Nat→Option (Nat × Nat)} (hpl:∀ i p,pl i=some p→pl2 i=some p):∀ {parts:List (Nat × Operand)} {cs xs:List Ce} {vs:List Value},partsC st pl parts cs=some xs→A2 (RC E w) vs cs→∃ us,Instr.fill pl2 vs.toArray (parts.map fun p=>(p.1,a.eval p.2))=some us.toArray∧A2 (RC E w) us xs
  | [],cs,xs,vs,h,ha=>by
    cases h
    exact ⟨vs,rfl,ha⟩
  | (j,x) :: parts,cs,xs,vs,h,ha=>by
    unfold partsC at h
    split at h
    · rename_i off sz us e1 e2
      cases hb:Nat.beq us.length sz&&Nat.ble (off+us.length) cs.length with
      | false=>rw [hb] at h;cases h
      | true=>
        rw [hb] at h
        simp only [cond_true] at h
        simp only [Bool.and_eq_true] at hb
        have h1:=Nat.eq_of_beq_eq_true hb.1
        have h2:=Nb hb.2
        have hu:=cellsA_rv e2 (ev_rv r x)
        have hl:=hu.len
        rw [Array.length_toList] at hl
        obtain ⟨us',h3,h4⟩:=fill_rv r hpl h (ha.splice hu off)
        refine ⟨us',?_,h4⟩
        rw [List.map_cons,Instr.fill,hpl _ _ e1]
        simp only
        rw [if_neg (by
          simp only [ne_eq,List.size_toArray,Bool.or_eq_true,decide_eq_true_eq,not_or,Decidable.not_not]
          rw [hl,ha.len]
          exact ⟨h1,by omega⟩)]
        rw [← h3]
        congr 1
        rw [← Array.foldl_toList,Array.toList_zipIdx,fold_set _ off 0 vs (by rw [Array.length_toList,hl,ha.len];omega)]
        rw [Nat.add_zero]
    · cases h
theorem ceIs_rv {c:Ce} {v:Value} (h:ceIs c v=true):RC E w v c:=by
  unfold ceIs at h
  split at h
  · simp only [Bool.and_eq_true,decide_eq_true_eq] at h
    obtain ⟨rfl,rfl⟩:=h
    exact RT.lit rfl
  · simp only [beq_iff_eq] at h
    subst h
    exact RT.lit rfl
  · rename_i s s'
    simp only [Bool.and_eq_true,beq_iff_eq,Array.size_eq_zero_iff] at h
    have e:s'=s:=by
      cases s;cases s'
      simp_all
    subst e
    exact RT.lit rfl
  · exact rfl
  · exact rfl
  · exact rfl
  · cases h
theorem cesAre_rv:∀ {cs:List Ce} {vs:List Value},cesAre cs vs=true→A2 (RC E w) vs cs
  | [],[],_=>.nil
  | [],_ :: _,h=>by cases h
  | _ :: _,[],h=>by cases h
  | c :: cs,v :: vs,h=>by
    simp only [cesAre,Bool.and_eq_true] at h
    exact .cons (ceIs_rv h.1) (cesAre_rv h.2)
theorem cesAre_nm:∀ {cs:List Ce} {vs:List Value},cesAre cs vs=true→cs.flatMap Ce.rids=[]
  | [],[],_=>rfl
  | [],_ :: _,h=>by cases h
  | _ :: _,[],h=>by cases h
  | c :: cs,v :: vs,h=>by
    simp only [cesAre,Bool.and_eq_true] at h
    rw [List.flatMap_cons,cesAre_nm h.2,List.append_nil]
    have h:=h.1
    unfold ceIs at h
    split at h <;> first|rfl|(cases h;done)
theorem partsC_nm {m:Nat} (sc:Sc m st) {pl:Nat→Option (Nat × Nat)}:∀ {parts:List (Nat × Operand)} {cs xs:List Ce},partsC st pl parts cs=some xs→(∀ p∈cs.flatMap Ce.rids,st.hasR p)→∀ p∈xs.flatMap Ce.rids,st.hasR p
  | [],cs,xs,h,ha=>by
    cases h
    exact ha
  | (j,x) :: parts,cs,xs,h,ha=>by
    unfold partsC at h
    split at h
    · rename_i off sz us e1 e2
      cases hb:Nat.beq us.length sz&&Nat.ble (off+us.length) cs.length with
      | false=>rw [hb] at h;cases h
      | true=>
        rw [hb] at h
        refine partsC_nm sc h (fun p hp=>?_)
        obtain ⟨c,hc,hpc⟩:=List.mem_flatMap.1 hp
        rw [splice_eq] at hc
        rcases List.mem_append.1 hc with hc|hc
        · rcases List.mem_append.1 hc with hc|hc
          · exact ha p (List.mem_flatMap.2 ⟨c,List.mem_of_mem_take hc,hpc⟩)
          · exact cellsA_nm e2 (ev_nm sc x) p (List.mem_flatMap.2 ⟨c,hc,hpc⟩)
        · exact ha p (List.mem_flatMap.2 ⟨c,List.mem_of_mem_drop hc,hpc⟩)
    · cases h
theorem places_run {fl:List Field} {fs:List (Nat × Nat)} (h:fieldsAre P fl fs=true):∃ places,fl.mapM (fun f=>(P.info? f.type).map fun i=>(f.offset,i.size))=some places∧∀ (i o ft:Nat) y,fs[i]? = some (o,ft)→tyOkB P ft y=true→places[i]? = some (o,y.sz):=by
  induction fl generalizing fs with
  | nil=>
    cases fs with
    | nil=>exact ⟨[],rfl,fun i o ft y h=>by simp at h⟩
    | cons _ _=>cases h
  | cons f fl ih=>
    cases fs with
    | nil=>cases h
    | cons p fs=>
      obtain ⟨o',t'⟩:=p
      simp only [fieldsAre,Bool.and_eq_true] at h
      obtain ⟨⟨⟨h1,h2⟩,h3⟩,h4⟩:=h
      have h1:=Nat.eq_of_beq_eq_true h1
      have h2:=Nat.eq_of_beq_eq_true h2
      obtain ⟨i0,hi0⟩:=Option.isSome_iff_exists.1 h3
      obtain ⟨places,h5,h6⟩:=ih h4
      refine ⟨(o',i0.size) :: places,?_,fun i o ft y hi hy=>?_⟩
      · simp [List.mapM_cons,h2,hi0,h5,h1]
      · rcases i with _|i
        · cases hi
          obtain ⟨i1,_,g1,g2,_⟩:=ty_info hy
          rw [hi0] at g1
          cases g1
          simp [g2]
        · exact h6 i o ft y hi hy
theorem ok_build (hT:TabOk P T) (r:RepM O E w n0 N m st a) {o:Oper} {t:TypeId} {parts:Array (Nat × Operand)} (ho:o.op=.build t parts) {av:AV} (h:pureS T st (.build t parts)=some av):OkV P E w st a o av:=by
  simp only [pureS] at h
  split at h
  · rename_i fs _ _ z _ e1
    have hty:=hT.ty t _ e1
    obtain ⟨fl,hu,hfl⟩:=ty_str hty rfl
    obtain ⟨i,zv,hi,_,_,hz,hzc⟩:=ty_info hty
    obtain ⟨places,hpl,hplace⟩:=places_run hfl
    split at h
    · rename_i cs hcs
      cases h
      obtain ⟨us,h1,h2⟩:=fill_rv r (pl2:=fun i=>places.toArray[i]?) (fun i p hp=>by
        split at hp
        · rename_i off ft e2
          split at hp
          · rename_i y e3
            cases hp
            have:=hplace i off ft y e2 (hT.ty ft y e3)
            simpa using this
          · cases hp
        · cases hp) hcs (cesAre_rv (E:=E) (w:=w) hzc)
      refine ⟨.agg us.toArray,?_,⟨us,rfl,h2⟩,fun b hb=>(by cases hb),partsC_nm r.sc hcs (fun p hp=>by rw [cesAre_nm hzc] at hp;cases hp)⟩
      unfold execOp
      simp only [ho,Sem.run_bind]
      rw [run_build (P:=P) w t _ us.toArray (by
        unfold Program.built
        simp only [hi,hu,hz,hpl]
        rw [← h1]
        congr 1
        simp)]
      rfl
    · cases h
  · rename_i n e _ _ z _ e1
    have hty:=hT.ty t _ e1
    have hu:=ty_arr hty rfl
    obtain ⟨i,zv,hi,_,_,hz,hzc⟩:=ty_info hty
    split at h
    · rename_i y e2
      split at h
      · rename_i cs hcs
        cases h
        obtain ⟨us,h1,h2⟩:=fill_rv r (pl2:=fun i=>some (i*y.sz,y.sz)) (fun i p hp=>hp) hcs (cesAre_rv (E:=E) (w:=w) hzc)
        refine ⟨.agg us.toArray,?_,⟨us,rfl,h2⟩,fun b hb=>(by cases hb),partsC_nm r.sc hcs (fun p hp=>by rw [cesAre_nm hzc] at hp;cases hp)⟩
        obtain ⟨ie,_,hie,hies,_⟩:=ty_info (hT.ty e y e2)
        unfold execOp
        simp only [ho,Sem.run_bind]
        rw [run_build (P:=P) w t _ us.toArray (by
          unfold Program.built
          simp only [hi,hu,hz,hie,hies]
          rw [← h1]
          congr 1
          simp)]
        rfl
      · cases h
    · cases h
  · cases h
theorem ok_len (hT:TabOk P T) (r:RepM O E w n0 N m st a) {o:Oper} {c:Call} (ho:o.op=.call c) {av:AV} (h:pureS T st (.call c)=some av):OkV P E w st a o av:=by
  obtain ⟨cl,ar,ty⟩:=c
  simp only [pureS] at h
  split at h
  · rename_i x t e2 e3
    obtain rfl:ar=#[x]:=Array.toList_inj.1 e2
    obtain rfl:ty=#[t]:=Array.toList_inj.1 e3
    have hx:=ev_rv r x
    clear e2 e3
    split at h
    · rename_i e1
      split at h
      · rename_i s e
        rw [e] at hx
        cases h
        have hd:=ty_string (hT.ty t _ e1) rfl
        refine ok_val (u:=.int .i64 s.size) (by unfold execOp;simp [ho,rv_lit hx,resolve,invoke,builtin,Builtin.len_,run_underlying hd];rfl) rfl rfl
      · cases h
    · rename_i e1
      have hd:=ty_slc (hT.ty t _ e1) rfl
      split at h
      · rename_i n e
        cases h
        obtain ⟨ao,cap,hv⟩:∃ ao cap,a.eval x=.slice ao n cap:=lenA_len r hx e
        refine ok_val (u:=.int .i64 n) (by unfold execOp;simp [ho,hv,resolve,invoke,builtin,Builtin.len_,run_underlying hd];rfl) rfl rfl
      · cases h
    · cases h
  · rename_i x y t1 t2 e2 e3
    obtain rfl:ar=#[x,y]:=Array.toList_inj.1 e2
    have hx:=ev_rv r x
    have hy:=ev_rv r y
    clear e2 e3
    split at h
    · rename_i k n _ l e4 e5
      rw [e4] at hx
      rw [e5] at hy
      cases h
      refine ok_val (u:=.int k (if l > n then l else n)) (by unfold execOp;simp [ho,rv_lit hx,rv_lit hy,resolve,invoke,builtin,Builtin.max_,Builtin.max2]) rfl rfl
    · cases h
  · rename_i x y t1 t2 e2 e3
    obtain rfl:ar=#[x,y]:=Array.toList_inj.1 e2
    have hx:=ev_rv r x
    have hy:=ev_rv r y
    clear e2 e3
    split at h
    · rename_i k n _ l e4 e5
      rw [e4] at hx
      rw [e5] at hy
      cases h
      refine ok_val (u:=.int k (if l < n then l else n)) (by unfold execOp;simp [ho,rv_lit hx,rv_lit hy,resolve,invoke,builtin,Builtin.min_,Builtin.min2]) rfl rfl
    · cases h
  · cases h
theorem capsA_rv (r:RepM O E w n0 N m st a):∀ {xs:List Operand} {cs:List (Nat × Nat)},capsA st xs=some cs→xs.map a.eval=cs.map (capV E)∧∀ b∈cs.map (·.1),st.hasB b
  | [],cs,h=>by
    obtain rfl:=Option.some.inj h
    exact ⟨rfl,fun _ h=>by cases h⟩
  | x :: xs,cs,h=>by
    unfold capsA at h
    split at h
    · rename_i b o cs' e1 e2
      cases h
      obtain ⟨h1,h2⟩:=capsA_rv r e2
      have hx:=ev_rv r x
      have hn:=ev_nm r.sc x
      rw [e1] at hx hn
      refine ⟨by rw [List.map_cons,List.map_cons,h1];exact congrArg (· :: _) hx,fun b' hb=>?_⟩
      rcases List.mem_cons.1 hb with rfl|hb
      · exact hn.1 _ List.mem_cons_self
      · exact h2 b' hb
    · cases h
theorem ok_makeFunc (r:RepM O E w n0 N m st a) {o:Oper} {fn:Fn} {first caps:Array Operand} (ho:o.op=.makeFunc fn first caps) {av:AV} (h:pureS T st (.makeFunc fn first caps)=some av):OkV P E w st a o av:=by
  simp only [pureS] at h
  split at h
  · rename_i f cs hf hc
    cases h
    obtain ⟨h1,h2⟩:=capsA_rv r hc
    obtain rfl:first=#[]:=Array.toList_inj.1 hf
    refine ⟨.func (.func f) #[] (cs.map (capV E)).toArray,?_,rfl,h2,fun p hp=>by cases hp⟩
    unfold execOp
    have:caps.map a.eval=(cs.map (capV E)).toArray:=Array.toList_inj.1 (by rw [Array.toList_map,h1])
    simp only [ho,Instr.makeFunc,this,Sem.run_bind,Sem.run_pure,Result.andThen_ok,Array.map_empty]
  · cases h
theorem ok_pure (hT:TabOk P T) (r:RepM O E w n0 N m st a) {o:Oper} {av:AV} (h:pureS T st o.op=some av):OkV P E w st a o av:=by
  obtain ⟨dst,op,type,pos,after,guard⟩:=o
  simp only at h
  cases op with
  | move x=>
    cases h
    exact ⟨a.eval x,by unfold execOp;rfl,ev_rv r x,ev_nm r.sc x⟩
  | assign x=>
    cases h
    exact ⟨a.eval x,by unfold execOp;rfl,ev_rv r x,ev_nm r.sc x⟩
  | load t x=>exact ok_load hT r rfl h
  | nilCheck x=>exact ok_nil r rfl h
  | binOp op t x y t'=>exact ok_bin hT r rfl h
  | unOp op t x=>exact ok_un r rfl h
  | convert src dst x=>exact ok_conv hT r rfl h
  | field t x f=>exact ok_field hT r rfl h
  | fieldAddr t x f=>exact ok_fieldAddr hT r rfl h
  | extract x i=>exact ok_extract r rfl h
  | build t ps=>exact ok_build hT r rfl h
  | call c=>exact ok_len hT r rfl h
  | makeFunc fn first caps=>exact ok_makeFunc r rfl h
  | _=>cases h
end
end
section
variable {P:Program} {T:Nat→Option Ty} {O:Gst}
def Done (P:Program) (O:Gst) (o:Oper) (a:Act) (w:World) (n0 N m:Nat) (st:St) (d:Dl):Prop:=∀ (K:Act→World→Prop) (Q:Exit→Act→World→Prop),(∀ E' v w',RepM O E' w' n0 N m (st.app o.dst d) (a.put o.dst v)→Below n0 w w'→K (a.put o.dst v) w')→o.wp P a w K Q
theorem Mv.refl (st:St) (E:Env) (w:World) (X Y:Nat→Prop):Mv st E w E w X Y:=⟨Nat.le_refl _,fun _ _ _=>rfl,fun _ h _=>⟨rfl,h⟩,fun _ _ _=>rfl,fun _ _ _ _ _ h=>⟨rfl,h⟩,fun _ _ _ _ _=>rfl,fun _ _ _ _ _ _ _ h=>⟨rfl,h⟩,fun _ _ _=>rfl,fun _ _ _ _ _ _ _ _ h=>⟨rfl,h⟩⟩
theorem dlsc_val {m:Nat} {st:St} {v:AV} (h:NmV st v):DlSc m st (.val v):=⟨fun _ _ _ _ h=>(by cases h),fun b hb=>.inl (h.1 b hb),fun p hp=>.inl (h.2 p hp),fun _ _ h=>(by cases h),fun _ _ h=>(by cases h),fun _ _ _ h=>(by cases h)⟩
section
variable {E:Env} {w:World} {n0 N m id:Nat} {st:St} {a:Act}
theorem OkV.done {o:Oper} {av:AV} (h:OkV P E w st a o av) (r:RepM O E w n0 N m st a) (hd:∀ x,o.dst=some x→x < N):Done P O o a w n0 N m st (.val av):=by
 obtain ⟨v,hv,hr,hn⟩:=h
 intro K Q hK
 unfold Oper.wp
 rw [hv]
 exact hK E v w (r.app hd (Mv.refl _ _ _ _ _) (dlsc_val hn) hr (fun _ _ h=>by cases h) (fun _ _ h=>by cases h)) (Below.refl _ _)
def Fresh (st:St) (id:Nat):Prop:=∀ i,id≤i→i < id+128→lk st.bx i=none∧lk st.rw i=none
def Env.nb (E:Env) (g i:Nat):Env:=⟨fun b=>if b < g then E.rl b else .bx i,fun j=>if j=i then g else E.bk j,E.vl⟩
theorem mv_nb {w':World} (hb:Below w.heap.size w w') (hf:lk st.bx id=none) (X Y:Nat→Prop):Mv st E w (E.nb w.heap.size id) w' X Y:=
 Mv.below hb (fun b hlt=>by simp only [Env.nb,if_pos hlt]) (fun i cs hi=>by
  simp only [Env.nb]
  rw [if_neg (fun e=>by rw [e,hf] at hi;cases hi)]) (fun _ _ _ _ _=>rfl)
theorem done_new (r:RepM O E w n0 N m st a) {o:Oper} (hd:∀ x,o.dst=some x→x < N) (hf:Fresh st id) (hm:id < m) {vs:List Value} {cs:List Ce} {t:TypeId} (hrun:(execOp a.eval o).run P w=.ok (.value (.pointer (some ⟨w.heap.size,0,none⟩))) (w.alloc (.cells vs.toArray t))) (hc:A2 (RC E w) vs cs) (hn:∀ p∈cs.flatMap Ce.rids,st.hasR p) :
  Done P O o a w n0 N m st ⟨.ptr id 0,[(id,cs)],[]⟩:=by
 intro K Q hK
 unfold Oper.wp
 rw [hrun]
 have hb:Below w.heap.size w (w.alloc (.cells vs.toArray t)):=(Below.refl _ _).alloc (Nat.le_refl _) _
 have hfb:=(hf id (Nat.le_refl _) (by omega)).1
 have mv:=mv_nb (E:=E) hb hfb (fun i=>∃ cs',lk [(id,cs)] i=some cs') (fun τ=>∃ R,lk ([]:List (Nat × Row)) τ=some R)
 refine hK (E.nb w.heap.size id) _ _ (r.app hd mv ⟨fun _ _ _ _ h=>(by cases h),fun b hb=>.inr ?_,fun p hp=>(by cases hp),fun b cs' h=>?_,fun _ _ h=>(by cases h),fun _ _ _ h=>(by cases h)⟩ ?_ (fun i cs' hi=>?_) (fun _ _ h=>by cases h)) (hb.mono r.hi)
 ·obtain rfl:b=id:=by simpa [AV.bids,AV.bid1] using hb
  exact ⟨cs,by simp [lk]⟩
 ·rw [lk_cons] at h
  split at h
  ·rename_i e
   subst e
   cases h
   exact ⟨fun p hp=>.inl (hn p hp),hm⟩
  ·cases h
 ·show _=_
  simp [Env.nb]
 ·rw [lk_cons] at hi
  split at hi
  ·rename_i e
   subst e
   cases hi
   refine ⟨vs,t,by simp only [Env.nb,if_pos];exact r.hi,?_,by simp [Env.nb],hc.fr mv.size mv.cold (fun p hp=>mv.vr (hn p hp))⟩
   simp only [Env.nb,if_pos]
   exact heap_alloc_new w _
  ·cases hi
theorem done_alloc (hT:TabOk P T) (r:RepM O E w n0 N m st a) {o:Oper} (hd:∀ x,o.dst=some x→x < N) (hf:Fresh st id) (hm:id < m) {e:Nat} {y:Ty} (ho:o.op=.alloc e) (hy:T e=some y):Done P O o a w n0 N m st ⟨.ptr id 0,[(id,y.z)],[]⟩:=by
 obtain ⟨i,zv,hi,_,_,hz,hzc⟩:=ty_info (hT.ty e y hy)
 refine done_new r hd hf hm (vs:=zv.cells.toList) (t:=e) ?_ (cesAre_rv hzc) (fun p hp=>by rw [cesAre_nm hzc] at hp;cases hp)
 unfold execOp
 simp [ho,Instr.alloc,zeroValue,typeInfo,hi,hz,newVar,newRow]
theorem done_box (r:RepM O E w n0 N m st a) {o:Oper} (hd:∀ x,o.dst=some x→x < N) (hf:Fresh st id) (hm:id < m) {e:Nat} {x:Operand} {cs:List Ce} (ho:o.op=.box e x) (hx:cellsA (ev st x)=some cs):Done P O o a w n0 N m st ⟨.ptr id 0,[(id,cs)],[]⟩:=by
 refine done_new r hd hf hm (vs:=(a.eval x).cells.toList) (t:=e) ?_ (cellsA_rv hx (ev_rv r x)) (cellsA_nm hx (ev_nm r.sc x))
 unfold execOp
 simp [ho,Instr.box,newVar,newRow]
theorem Bk.set {w:World} {b:Nat} {t:TypeId} {cs:List Value} (h:Bk w b t cs) (i:Nat) (u:Value):Bk (w.setCell ⟨b,i,none⟩ u) b t (cs.set i u):=by
 unfold Bk at *
 simp only [World.setCell,Array.getElem?_modify]
 simp [h]
theorem Bk.sets {b:Nat} {t:TypeId}:∀ {cs:List Value} (o:Nat) (us:List Value) {w:World},Bk w b t cs→o+us.length≤cs.length→Bk (w.setCells b o us) b t (cs.take o++us++cs.drop (o+us.length))
 | cs,o,[],w,h,_=>by
  rw [List.append_nil,List.length_nil,Nat.add_zero,List.take_append_drop]
  exact h
 | cs,o,u :: us,w,h,hl=>by
  rw [List.length_cons] at hl
  have h1:=Bk.sets (o+1) us (h.set o u) (by rw [List.length_set];omega)
  rw [List.take_succ_eq_append_getElem (by rw [List.length_set];omega),List.take_set_of_le (Nat.le_refl o),List.getElem_set_self,List.drop_set_of_lt (by omega)] at h1
  have e:cs.take o++[u]++us++cs.drop (o+1+us.length)=cs.take o++u :: us++cs.drop (o+(us.length+1)):=by
   rw [show o+1+us.length=o+(us.length+1) by omega]
   simp
  rw [e] at h1
  exact h1
theorem tv_sets_size (b:Nat):∀ (us:List Value) (o:Nat) (w:World),(w.setCells b o us).heap.size=w.heap.size
 | [],_,_=>rfl
 | u :: r,o,w=>by rw [World.setCells,tv_sets_size b r];simp [World.setCell]
theorem tv_heap_sets (b:Nat):∀ (us:List Value) (o:Nat) (w:World) (k:Nat),k≠b→(w.setCells b o us).heap[k]? = w.heap[k]?
 | [],_,_,_,_=>rfl
 | u :: r,o,w,k,hk=>(tv_heap_sets b r (o+1) _ k hk).trans (Below.heap_setCell w ⟨b,o,none⟩ u k hk)
theorem tv_below_sets {B:Nat} {w:World}:∀ (us:List Value) (i:Nat) (w':World),Below B w w'→∀ b,B≤b→Below B w (w'.setCells b i us)
 | [],_,_,h,_,_=>h
 | u :: r,i,w',h,b,hb=>tv_below_sets r (i+1) (w'.setCell ⟨b,i,none⟩ u) ⟨h.os,h.tape,h.output,by have:=h.size;simpa [World.setCell] using this,fun k hk=>(Below.heap_setCell w' ⟨b,i,none⟩ u k (fun e=>by have:k=b:=e;omega)).trans (h.block k hk)⟩ b hb
theorem run_storeAt (hT:TabOk P T) {t:Nat} {y:Ty} (hy:T t=some y) {g p:Nat} {v:Value} (hl:v.cells.size=y.sz) (ht:w.there g p y.sz) (h1:∀ u∈v.cells.toList,u.oneCell'=true) :
  (Instr.storeAt t (.pointer (some ⟨g,p,none⟩)) v).run P w=.ok () (w.setCells g p v.cells.toList):=by
 have hs:=run_storeCells_cells (P:=P) g p v.cells.toList 0 w (fun j hj=>by simpa using (ht j (by rw [← hl];simpa using hj)).1) (fun j hj=>by simpa using (ht j (by rw [← hl];simpa using hj)).2) h1
 rw [Nat.add_zero] at hs
 simp [Instr.storeAt,Instr.sureAddr,storeVar,ty_size (hT.ty t y hy),hl,hs]
theorem done_storeB (hT:TabOk P T) (r:RepM O E w n0 N m st a) {o:Oper} (hd:∀ x,o.dst=some x→x < N) {t:Nat} {ax x:Operand} {y:Ty} {us:List Ce} {b off:Nat} {cs:List Ce} (ho:o.op=.store t ax x) (hy:T t=some y) (hx:cellsA (ev st x)=some us) (hl:us.length=y.sz) (hax:ev st ax=.ptr b off) (hb:lk st.bx b=some cs) (hoff:off+us.length≤cs.length) :
  Done P O o a w n0 N m st ⟨.bot,[(b,splice cs off us)],[]⟩:=by
 have ha:=ev_rv r ax
 rw [hax] at ha
 have ha:a.eval ax=.pointer (some ⟨E.bk b,off,none⟩):=ha
 obtain ⟨vs,tb,h1,h2,h3,h4⟩:=r.box b cs hb
 have hu:=cellsA_rv hx (ev_rv r x)
 have hul:=hu.len
 have hn:=cellsA_nm hx (ev_nm r.sc x)
 have hbn:=r.sc.br b cs hb
 have hol:off+(a.eval x).cells.toList.length≤vs.length:=by rw [hul,h4.len];exact hoff
 have hk2:=h2.sets off _ hol
 have hrun:=run_storeAt (P:=P) (w:=w) hT hy (g:=E.bk b) (p:=off) (v:=a.eval x) (by rw [← Array.length_toList,hul,hl]) (fun j hj=>by
  rw [cell_of_row _ _ _ _ _ _ h2]
  refine ⟨?_,by simp [World.frozen?,show w.heap[E.bk b]? = _ from h2]⟩
  rw [List.getElem?_toArray,List.getElem?_eq_getElem (by rw [h4.len];omega)]
  rfl) (A2.one hu)
 intro K Q hK
 unfold Oper.wp execOp
 simp only [ho,ha,Sem.run_bind,hrun,Result.andThen_ok,Sem.run_pure,Oper.upon]
 have hne:∀ {k},k≠E.bk b→(w.setCells (E.bk b) off (a.eval x).cells.toList).heap[k]? = w.heap[k]?:=fun hk=>tv_heap_sets _ _ _ _ _ hk
 have mv:Mv st E w E (w.setCells (E.bk b) off (a.eval x).cells.toList) (fun i=>∃ cs',lk [(b,splice cs off us)] i=some cs') (fun τ=>∃ R,lk ([]:List (Nat × Row)) τ=some R):=by
  refine ⟨by rw [tv_sets_size];exact Nat.le_refl _,fun _ _ _=>rfl,fun k hk _=>⟨hne (fun e=>by rw [e,h3] at hk;cases hk),hk⟩,fun _ _ _=>rfl,fun i cs' hi hX _ hrl=>⟨hne (fun e=>?_),hrl⟩,fun _ _ _ _ _=>rfl,fun τ R hτ _ g hg _ hrl=>⟨hne (fun e=>by rw [e,h3] at hrl;cases hrl),hrl⟩,fun k hk _=>hne (fun e=>by rw [e,h3] at hk;cases hk),fun τ R hτ _ g j x _ hrl=>⟨hne (fun e=>by rw [e,h3] at hrl;cases hrl),hrl⟩⟩
  rw [e,h3] at hrl
  cases hrl
  exact hX ⟨splice cs off us,by simp [lk]⟩
 refine hK E _ _ (r.app hd mv ⟨fun _ _ _ _ h=>(by cases h),fun b hb=>(by cases hb),fun p hp=>(by cases hp),fun b' cs' h=>?_,fun _ _ h=>(by cases h),fun _ _ _ h=>(by cases h)⟩ trivial (fun i cs' hi=>?_) (fun _ _ h=>by cases h)) (tv_below_sets _ _ _ (Below.refl _ _) _ h1)
 ·rw [lk_cons] at h
  split at h
  ·rename_i e
   subst e
   cases h
   refine ⟨fun p hp=>?_,r.sc.fb b cs hb⟩
   obtain ⟨c,hc,hpc⟩:=List.mem_flatMap.1 hp
   rw [splice_eq] at hc
   rcases List.mem_append.1 hc with hc|hc
   ·rcases List.mem_append.1 hc with hc|hc
    ·exact .inl (hbn p (List.mem_flatMap.2 ⟨c,List.mem_of_mem_take hc,hpc⟩))
    ·exact .inl (hn p (List.mem_flatMap.2 ⟨c,hc,hpc⟩))
   ·exact .inl (hbn p (List.mem_flatMap.2 ⟨c,List.mem_of_mem_drop hc,hpc⟩))
  ·cases h
 ·rw [lk_cons] at hi
  split at hi
  ·rename_i e
   subst e
   cases hi
   refine ⟨_,tb,h1,hk2,h3,?_⟩
   exact A2.splice (h4.fr mv.size mv.cold (fun p hp=>mv.vr (hbn p hp))) (hu.fr mv.size mv.cold (fun p hp=>mv.vr (hn p hp))) off
  ·cases hi
end
end
section
variable {P:Program} {T:Nat→Option Ty} {O:Gst}
theorem flat_splice {k:Nat}:∀ (es:List (Cl k)) (i:Nat) (x y:Cl k) (o:Nat) (us:List Value),es[i]? = some x→o+us.length≤k→y.1=x.1.take o++us++x.1.drop (o+us.length)→(es.set i y).flatMap Subtype.val=(es.flatMap Subtype.val).take (i*k+o)++us++(es.flatMap Subtype.val).drop (i*k+o+us.length)
 | [],i,x,y,o,us,h,_,_=>by simp at h
 | e :: es,0,x,y,o,us,h,hl,hy=>by
  obtain rfl:e=x:=by simpa using h
  have hk:=e.2.1
  rw [List.set_cons_zero,List.flatMap_cons,List.flatMap_cons,hy,Nat.zero_mul,Nat.zero_add,List.take_append_of_le_length (by omega),List.drop_append_of_le_length (by omega)]
  simp
 | e :: es,i+1,x,y,o,us,h,hl,hy=>by
  have ih:=flat_splice es i x y o us (by simpa using h) hl hy
  have hk:=e.2.1
  rw [List.set_cons_succ,List.flatMap_cons,List.flatMap_cons,ih,List.take_append,List.drop_append,List.take_of_length_le (l:=e.1) (by rw [hk,Nat.add_mul];omega),List.drop_of_length_le (l:=e.1) (by rw [hk,Nat.add_mul];omega),hk]
  rw [show (i+1)*k+o - k=i*k+o by rw [Nat.add_mul];omega,show (i+1)*k+o+us.length - k=i*k+o+us.length by rw [Nat.add_mul];omega]
  simp
theorem take_splice {α:Type} (l us:List α) (p n:Nat) (h:p+us.length≤n) (hn:n≤l.length):(l.take p++us++l.drop (p+us.length)).take n=(l.take n).take p++us++(l.take n).drop (p+us.length):=by
 have h1:(l.take p++us).length=p+us.length:=by rw [List.length_append,List.length_take];omega
 rw [List.take_append,h1,List.take_of_length_le (by omega),List.take_take,Nat.min_eq_left (by omega),List.drop_take]
section
variable {E:Env} {w:World} {n0 N m id:Nat} {st:St} {a:Act}
theorem own_at {ty k:Nat} {v:Value} {es:List (Cl k)} (h1:w.ownsRow n0 ty k v es.length (es.flatMap Subtype.val)) {i:Nat} {x:Cl k} (hx:es[i]? = some x):∃ (g cap:Nat) (cur:Array Value),v=.slice (some ⟨g,0,none⟩) es.length cap∧n0≤g∧w.heap[g]? = some (.cells cur ty (0,0))∧es.length≤cap∧cap≤maxLen∧cur.size=cap*k∧cur.toList.take (es.length*k)=es.flatMap Subtype.val∧
  ∀ (j:Nat) u,x.1[j]? = some u→w.cell? ⟨g,i*k+j,none⟩=some u:=by
 have hil:=(List.getElem?_eq_some_iff.1 hx).1
 rcases h1.2 with ⟨_,h0⟩|⟨g,cap,cur,hv,hg,hgg,hc,hm,hs,ht⟩
 ·omega
 ·refine ⟨g,cap,cur,hv,hg,hgg,hc,hm,hs,ht,fun j u hu=>?_⟩
  have hj:j < k:=by have:=(List.getElem?_eq_some_iff.1 hu).1;rwa [Cl.len] at this
  have hg2:=flat_get (enc:=Subtype.val) Cl.len es i _ hx j hj
  rw [cell_of_row _ _ _ _ _ _ hgg]
  rw [← ht,List.getElem?_take] at hg2
  have hlt:i*k+j < es.length*k:=by
   have:(i+1)*k≤es.length*k:=Nat.mul_le_mul_right _ hil
   rw [Nat.add_mul] at this
   omega
  rw [if_pos hlt] at hg2
  rw [← Array.getElem?_toList,hg2]
  exact hu
theorem row_at {τ:Nat} {R:Row} (h:Ow E w n0 (.rw τ) R.ty R.k (E.vl τ R.ver) R.xs) {i:Nat} {xs:List Tr} (hi:R.xs[i]? = some xs):∃ (es:List (Cl R.k)) (g cap:Nat) (x:Cl R.k),E.vl τ R.ver=.slice (some ⟨g,0,none⟩) es.length cap∧w.ownsRow n0 R.ty R.k (E.vl τ R.ver) es.length (es.flatMap Subtype.val)∧Ets E.F w es R.xs∧es[i]? = some x∧RTL E.F w x.1 xs∧
  ∀ (j:Nat) u,x.1[j]? = some u→w.cell? ⟨g,i*R.k+j,none⟩=some u:=by
 obtain ⟨es,h1,h2,h3⟩:=h
 have hil:=(List.getElem?_eq_some_iff.1 hi).1
 rw [← h2.len] at hil
 have hx:=List.getElem?_eq_getElem hil
 obtain ⟨g,cap,cur,hv,_,_,_,_,_,_,h4⟩:=own_at h1 hx
 exact ⟨es,g,cap,_,hv,h1,h2,hx,h2.at_ i _ _ hx hi,h4⟩
theorem done_loadE (hT:TabOk P T) (r:RepM O E w n0 N m st a) {o:Oper} (hd:∀ x,o.dst=some x→x < N) {t:Nat} {x:Operand} {y:Ty} {τ ver k i off:Nat} {R:Row} {xs:List Tr} {v:AV} (ho:o.op=.load t x) (hx:ev st x=.eptr τ ver k i off) (hy:T t=some y) (hR:lk st.rw τ=some R) (hver:R.ver=ver) (hk:R.k=k) (hdp:R.dp=none) (hi:R.xs[i]? = some xs) (hc:cutT y xs off=some v):Done P O o a w n0 N m st (.val v):=by
 have ha:=ev_rv r x
 rw [hx] at ha
 obtain ⟨g,n,c,h1,hv⟩:=ha
 obtain ⟨es,g',cap,x',e1,_,_,_,h4,h5⟩:=row_at ((r.row τ R hR).ow hdp) hi
 rw [hver,h1] at e1
 cases e1
 obtain ⟨u,hu,hr⟩:=load_rv (P:=P) (hT.ty t y hy) h5 (rtl_a2 h4) (cutT_cut hc)
 refine OkV.done ⟨u,?_,hr.rv,cutT_nm hc⟩ r hd
 rw [hk] at hu
 unfold execOp
 simp only [ho,hv,Sem.run_bind,hu,Result.andThen_ok,Sem.run_pure]
theorem cut_agree {y:Ty} {bs cs:List Ce} {o:Nat} (hl:bs.length=cs.length) (h:∀ j,o≤j→j < o+y.wd→bs[j]? = cs[j]?):cut y bs o=cut y cs o:=by
 unfold cut
 unfold Ty.wd at h
 split
 ·rename_i ha
  rw [if_pos ha] at h
  rw [hl]
  have:(bs.drop o).take y.sz=(cs.drop o).take y.sz:=by
   refine List.ext_getElem? fun j=>?_
   rw [List.getElem?_take,List.getElem?_take]
   split
   ·rw [List.getElem?_drop,List.getElem?_drop]
    exact h (o+j) (by omega) (by omega)
   ·rfl
  rw [this]
 ·rename_i ha
  rw [if_neg ha] at h
  rw [h o (Nat.le_refl _) (by omega)]
theorem lnAll_ok {o n:Nat}:∀ {l:List (Nat × Nat × Nat × Nat)},lnAll o n l=true→∀ x∈l,o≤x.2.1→x.2.1 < o+n→False
 | a :: l,h,x,hx,h1,h2=>by
  unfold lnAll at h
  split at h
  ·cases h
  ·rename_i hb
   rcases List.mem_cons.1 hx with rfl|hx
   ·rw [show (Nat.ble o x.2.1&&Nat.blt x.2.1 (o+n))=true from Bool.and_eq_true_iff.2 ⟨Nat.ble_eq_true_of_le h1,Nat.ble_eq_true_of_le h2⟩] at hb
    cases hb
   ·exact lnAll_ok h x hx h1 h2
 | [],_,x,hx,_,_=>by cases hx
theorem freeD_ok {o n:Nat}:∀ {l:List (Nat × Nat × Nat)},freeD o n l=true→∀ x∈l,o≤x.1→x.1 < o+n→False
 | a :: l,h,x,hx,h1,h2=>by
  unfold freeD at h
  split at h
  ·cases h
  ·rename_i hb
   rcases List.mem_cons.1 hx with rfl|hx
   ·rw [show (Nat.ble o x.1&&Nat.blt x.1 (o+n))=true from Bool.and_eq_true_iff.2 ⟨Nat.ble_eq_true_of_le h1,Nat.ble_eq_true_of_le h2⟩] at hb
    cases hb
   ·exact freeD_ok h x hx h1 h2
 | [],_,x,hx,_,_=>by cases hx
theorem lnOf_ok {o i ρ u:Nat}:∀ {l:List (Nat × Nat × Nat × Nat)},lnOf o l=some (i,ρ,u)→(i,o,ρ,u)∈l
 | (a1,a2,a3,a4) :: l,h=>by
  unfold lnOf at h
  split at h
  ·rename_i hb
   cases h
   obtain rfl:=Nat.eq_of_beq_eq_true hb
   exact List.mem_cons_self
  ·exact List.mem_cons_of_mem _ (lnOf_ok h)
 | [],h=>by cases h
theorem a2_of {α β:Type} {R:α→β→Prop}:∀ {xs:List α} {ys:List β},xs.length=ys.length→(∀ (i:Nat) x y,xs[i]? = some x→ys[i]? = some y→R x y)→A2 R xs ys
 | [],[],_,_=>.nil
 | x :: xs,y :: ys,hl,h=>.cons (h 0 x y rfl rfl) (a2_of (by simpa using hl) fun i x y h1 h2=>h (i+1) x y h1 h2)
 | [],_ :: _,hl,_=>by cases hl
 | _ :: _,[],hl,_=>by cases hl
theorem done_loadD (hT:TabOk P T) (r:RepM O E w n0 N m st a) {o:Oper} (hd:∀ x,o.dst=some x→x < N) {t:Nat} {x:Operand} {y:Ty} {τ ver k i off:Nat} {R:Row} {d:Dp} {xs:List Tr} {v:AV} (ho:o.op=.load t x) (hx:ev st x=.eptr τ ver k i off) (hy:T t=some y) (hR:lk st.rw τ=some R) (hver:R.ver=ver) (hk:R.k=k) (hdp:R.dp=some d) (hln:lnAll off y.wd d.ln=true) (hi:R.xs[i]? = some xs) (hc:cutT y xs off=some v) (hD:freeD off y.wd d.D=true∨d.c≤i):Done P O o a w n0 N m st (.val v):=by
 have ha:=ev_rv r x
 rw [hx] at ha
 obtain ⟨g,n,c,h1,hv⟩:=ha
 have hM:d.isM=false:=by
  cases hm:d.isM with
  | false=>rfl
  | true=>
   rcases (r.row τ R hR).mp (by unfold Row.isM;rw [hdp];exact hm) with ⟨e,_⟩|⟨_,_,_,e,_⟩ <;> (rw [hver,h1] at e;cases e)
 obtain ⟨es,g1,g2,g3⟩:=(r.row τ R hR).rd hdp hM
 have hil:=(List.getElem?_eq_some_iff.1 hi).1
 rw [← g2.len] at hil
 have hex:=List.getElem?_eq_getElem hil
 obtain ⟨g',cap,cur,e1,_,_,_,_,_,_,h5⟩:=own_at g1 hex
 rw [hver,h1] at e1
 cases e1
 have hlk:=g2.ln i _ _ hex hi
 have hbl:((xs.mapIdx fun j t=>if off≤j∧j < off+y.wd then Ce.t t else Ce.bot)).length=(xs.map Ce.t).length:=by simp
 have hag:=cut_agree (y:=y) (o:=off) hbl (fun j q1 q2=>by
  rw [List.getElem?_mapIdx,List.getElem?_map]
  cases xs[j]? with
  | none=>rfl
  | some t=>simp only [Option.map_some,if_pos (Ai q1 q2)])
 obtain ⟨u,hu,hr⟩:=load_rv (P:=P) (hT.ty t y hy) h5 (a2_of (R:=RC E w) (ys:=xs.mapIdx fun j t=>if off≤j∧j < off+y.wd then Ce.t t else Ce.bot) (by rw [List.length_mapIdx,Cl.len];exact hlk.symm) (fun j u c q1 q2=>by
  rw [List.getElem?_mapIdx] at q2
  cases hj:xs[j]? with
  | none=>rw [hj] at q2;cases q2
  | some t=>
   rw [hj] at q2
   simp only [Option.map_some,Option.some.injEq] at q2
   split at q2
   ·rename_i hin
    subst q2
    have hce:=g2.at_ i _ _ hex hi j u t q1 hj
    refine (hce.2 fun ρ u' hm=>lnAll_ok hln _ hm hin.1 hin.2).2 fun ty k' hm hlt=>?_
    rcases hD with hD|hD
    ·exact freeD_ok hD _ hm hin.1 hin.2
    ·omega
   ·subst q2
    exact g2.one i _ hex u (List.mem_of_getElem? q1))) (hag.trans (cutT_cut hc))
 refine OkV.done ⟨u,?_,hr.rv,cutT_nm hc⟩ r hd
 rw [hk] at hu
 unfold execOp
 simp only [ho,hv,Sem.run_bind,hu,Result.andThen_ok,Sem.run_pure]
theorem done_loadL (hT:TabOk P T) (r:RepM O E w n0 N m st a) {o:Oper} (hd:∀ x,o.dst=some x→x < N) {t:Nat} {x:Operand} {y:Ty} {τ ver k i off ρ u:Nat} {R:Row} {d:Dp} (ho:o.op=.load t x) (hx:ev st x=.eptr τ ver k i off) (hy:T t=some y) (hR:lk st.rw τ=some R) (hver:R.ver=ver) (hk:R.k=k) (hdp:R.dp=some d) (hln:lnOf off d.ln=some (i,ρ,u)) (hag:y.isAgg=false) (hi:i < R.xs.length) (hoff:off < R.k):Done P O o a w n0 N m st (.val (.c (.row ρ u))):=by
 have ha:=ev_rv r x
 rw [hx] at ha
 obtain ⟨g,n,c,h1,hv⟩:=ha
 have hM:d.isM=false:=by
  cases hm:d.isM with
  | false=>rfl
  | true=>
   rcases (r.row τ R hR).mp (by unfold Row.isM;rw [hdp];exact hm) with ⟨e,_⟩|⟨_,_,_,e,_⟩ <;> (rw [hver,h1] at e;cases e)
 obtain ⟨es,g1,g2,g3⟩:=(r.row τ R hR).rd hdp hM
 have hil:=hi
 rw [← g2.len] at hil
 have hex:=List.getElem?_eq_getElem hil
 have hxi:=List.getElem?_eq_getElem hi
 obtain ⟨g',cap,cur,e1,_,_,_,_,_,_,h5⟩:=own_at g1 hex
 rw [hver,h1] at e1
 cases e1
 have hlk:=g2.ln i _ _ hex hxi
 have hm:=lnOf_ok hln
 have hcut:cut y ((R.xs[i]).mapIdx fun j _=>if j=off then Ce.row ρ u else Ce.bot) off=some (.c (.row ρ u)):=by
  unfold cut
  rw [hag]
  rw [if_neg (by simp),List.getElem?_mapIdx,List.getElem?_eq_getElem (by omega)]
  simp
 obtain ⟨u',hu,hr⟩:=load_rv (P:=P) (hT.ty t y hy) h5 (a2_of (R:=RC E w) (ys:=(R.xs[i]).mapIdx fun j _=>if j=off then Ce.row ρ u else Ce.bot) (by rw [List.length_mapIdx,Cl.len];exact hlk.symm) (fun j u' c q1 q2=>by
  rw [List.getElem?_mapIdx] at q2
  cases hj:(R.xs[i])[j]? with
  | none=>rw [hj] at q2;cases q2
  | some t=>
   rw [hj] at q2
   simp only [Option.map_some,Option.some.injEq] at q2
   split at q2
   ·rename_i hin
    subst q2 hin
    exact (g2.at_ i _ _ hex hxi j u' t q1 hj).1 ρ u hm
   ·subst q2
    exact g2.one i _ hex u' (List.mem_of_getElem? q1))) hcut
 refine OkV.done ⟨u',?_,hr.rv,⟨fun b hb=>(by cases hb),fun p hp=>?_⟩⟩ r hd
 ·rw [hk] at hu
  unfold execOp
  simp only [ho,hv,Sem.run_bind,hu,Result.andThen_ok,Sem.run_pure]
 ·obtain rfl:p=(ρ,u):=by simpa [AV.rids,AV.rid1,Ce.rids] using hp
  exact r.sc.rl τ R d hR hdp _ hm
theorem plainT_rtl:∀ {cs:List Ce} {ts:List Tr} {vs:List Value},plainT cs=some ts→A2 (RC E w) vs cs→RTL E.F w vs ts
 | [],ts,_,h,.nil=>by
  cases h
  exact .nil
 | .t x :: cs,ts,_,h,.cons h1 h2=>by
  unfold plainT at h
  split at h
  ·rename_i xs hxs
   cases h
   exact .cons h1 (plainT_rtl hxs h2)
  ·cases h
 | .nil :: cs,ts,_,h,.cons h1 h2=>by
  unfold plainT at h
  split at h
  ·rename_i xs hxs
   cases h
   refine .cons ?_ (plainT_rtl hxs h2)
   rw [show _=Value.slice none 0 0 from h1]
   exact .slNil (fun _=>rfl)
  ·cases h
 | .row _ _ :: _,_,_,h,_=>by cases h
 | .bot :: _,_,_,h,_=>by cases h
theorem store_core (hT:TabOk P T) (r:RepM O E w n0 N m st a) {o:Oper} {t:Nat} {ax x:Operand} {y:Ty} {us:List Ce} {τ ver i off:Nat} {R:Row} (R':Row) {es:List (Cl R.k)} {x':Cl R.k} (ho:o.op=.store t ax x) (hy:T t=some y) (hu:A2 (RC E w) (a.eval x).cells.toList us) (hl:us.length=y.sz) (hax:ev st ax=.eptr τ ver R.k i off) (hver:R.ver=ver) (hown:w.ownsRow n0 R.ty R.k (E.vl τ R.ver) es.length (es.flatMap Subtype.val)) (hrl:∀ g,(E.vl τ R.ver).ownBlock=some g→E.rl g=.rw τ) (hes:es[i]? = some x') (hoff:off+us.length≤R.k) :
  ∃ (w':World) (y':Cl R.k),y'.1=x'.1.take off++(a.eval x).cells.toList++x'.1.drop (off+(a.eval x).cells.toList.length)∧(∀ (K:Act→World→Prop) (Q:Exit→Act→World→Prop),K (a.put o.dst (.tuple #[])) w'→o.wp P a w K Q)∧Mv st E w E w' (fun i=>∃ cs',lk ([]:List (Nat × List Ce)) i=some cs') (fun τ'=>∃ R1,lk [(τ,R')] τ'=some R1)∧
   w'.ownsRow n0 R.ty R.k (E.vl τ R.ver) (es.set i y').length ((es.set i y').flatMap Subtype.val)∧Below n0 w w'∧(∀ g j q,E.rl g=.nst τ j q→w'.heap[g]? = w.heap[g]?):=by
 have ha:=ev_rv r ax
 rw [hax] at ha
 obtain ⟨g,n,c,h1,hv⟩:=ha
 obtain ⟨g',cap,cur,e1,hg0,hgg,hcap,hml,hcs,hct,h5⟩:=own_at hown hes
 have hrl:=hrl g' (by rw [e1];rfl)
 rw [hver,h1] at e1
 cases e1
 have hul:=hu.len
 have hil:=(List.getElem?_eq_some_iff.1 hes).1
 have hp2:i*R.k+off+(a.eval x).cells.toList.length≤es.length*R.k:=by
  have:(i+1)*R.k≤es.length*R.k:=Nat.mul_le_mul_right _ hil
  rw [Nat.add_mul] at this
  rw [hul]
  omega
 have hcl:es.length*R.k≤cur.size:=by rw [hcs];exact Nat.mul_le_mul_right _ hcap
 have hbk:Bk w g R.ty cur.toList:=hgg
 have hbk2:=hbk.sets (i*R.k+off) (a.eval x).cells.toList (by rw [Array.length_toList (xs:=cur)];omega)
 have hrun:=run_storeAt (P:=P) (w:=w) hT hy (g:=g) (p:=i*R.k+off) (v:=a.eval x) (by rw [← Array.length_toList,hu.len,hl]) (fun j hj=>by
  rw [cell_of_row _ _ _ _ _ _ hgg]
  refine ⟨?_,by simp [World.frozen?,hgg]⟩
  rw [Array.getElem?_eq_getElem (by have:=hu.len;omega)]
  rfl) (A2.one hu)
 obtain ⟨y',hy'⟩:∃ y':Cl R.k,y'.1=x'.1.take off++(a.eval x).cells.toList++x'.1.drop (off+(a.eval x).cells.toList.length):=⟨⟨_,by
  simp only [List.length_append,List.length_take,List.length_drop,Cl.len]
  omega,fun u hu'=>by
  rcases List.mem_append.1 hu' with hu'|hu'
  ·rcases List.mem_append.1 hu' with hu'|hu'
   ·exact x'.one u (List.mem_of_mem_take hu')
   ·exact A2.one hu u hu'
  ·exact x'.one u (List.mem_of_mem_drop hu')⟩,rfl⟩
 have hne:∀ {k'},k'≠g→(w.setCells g (i*R.k+off) (a.eval x).cells.toList).heap[k']? = w.heap[k']?:=fun hk=>tv_heap_sets _ _ _ _ _ hk
 have hsz:(w.setCells g (i*R.k+off) (a.eval x).cells.toList).heap.size=w.heap.size:=tv_sets_size _ _ _ _
 refine ⟨w.setCells g (i*R.k+off) (a.eval x).cells.toList,y',hy',fun K Q hK=>?_,?_,?_,tv_below_sets _ _ _ (Below.refl _ _) _ hg0,fun g' j q hq=>hne fun e=>by rw [e,hrl] at hq;cases hq⟩
 ·unfold Oper.wp execOp
  simp only [ho,hv,Sem.run_bind,hrun,Result.andThen_ok,Sem.run_pure,Oper.upon]
  exact hK
 ·refine ⟨by rw [hsz];exact Nat.le_refl _,fun _ _ _=>rfl,fun k hk' _=>⟨hne (fun e=>by rw [e,hrl] at hk';cases hk'),hk'⟩,fun _ _ _=>rfl,fun i cs' hi hX _ hrl'=>⟨hne (fun e=>by rw [e,hrl] at hrl';cases hrl'),hrl'⟩,fun _ _ _ _ _=>rfl,fun τ' R' hτ hY g' hg' _ hrl'=>⟨hne (fun e=>?_),hrl'⟩,fun k hk' _=>hne (fun e=>by rw [e,hrl] at hk';cases hk'),fun τ' R' hτ hY g' j q _ hrl'=>⟨hne (fun e=>by rw [e,hrl] at hrl';cases hrl'),hrl'⟩⟩
  rw [e,hrl] at hrl'
  cases hrl'
  exact hY ⟨_,lk_cons _ _ _ _ |>.trans (if_pos rfl)⟩
 ·rw [hver,h1,List.length_set]
  refine ⟨flat_len Cl.len _ |>.trans (by rw [List.length_set]),.inr ⟨g,c,_,rfl,hg0,hbk2,hcap,hml,?_,?_⟩⟩
  ·have q0:(a.eval x).cells.toList.length=(a.eval x).cells.size:=Array.length_toList
   simp only [List.size_toArray,List.length_append,List.length_take,List.length_drop,Array.length_toList]
   omega
  ·rw [List.toList_toArray,take_splice _ _ _ _ hp2 (by rw [Array.length_toList];exact hcl),hct,flat_splice es i x' y' off _ hes (by rw [hul];exact hoff) hy']
theorem done_storeE (hT:TabOk P T) (r:RepM O E w n0 N m st a) {o:Oper} (hd:∀ x,o.dst=some x→x < N) {t:Nat} {ax x:Operand} {y:Ty} {us:List Ce} {ts:List Tr} {τ ver k i off:Nat} {R:Row} {xs:List Tr} (ho:o.op=.store t ax x) (hy:T t=some y) (hx:cellsA (ev st x)=some us) (hl:us.length=y.sz) (hax:ev st ax=.eptr τ ver k i off) (hR:lk st.rw τ=some R) (hver:R.ver=ver) (hk:R.k=k) (hdp:R.dp=none) (hp:plainT us=some ts) (hi:R.xs[i]? = some xs) (hoff:off+ts.length≤R.k) :
  Done P O o a w n0 N m st ⟨.bot,[],[(τ,{ R with xs:=R.xs.set i (spliceT xs off ts) })]⟩:=by
 have hu:=cellsA_rv hx (ev_rv r x)
 have hut:=plainT_rtl hp hu
 have hul:=hut.len
 have hll:us.length=ts.length:=hu.len.symm.trans hul
 obtain ⟨es,hown,hets,hrl⟩:=(r.row τ R hR).ow hdp
 have hil:=(List.getElem?_eq_some_iff.1 hi).1
 rw [← hets.len] at hil
 have hes:=List.getElem?_eq_getElem hil
 have h4:=hets.at_ i _ _ hes hi
 subst hk
 obtain ⟨w',y',hy',hrun,mv,own',hb,_⟩:=store_core hT r { R with xs:=R.xs.set i (spliceT xs off ts) } ho hy hu hl hax hver hown hrl hes (by omega)
 intro K Q hK
 refine hrun K Q (hK E _ w' (r.app hd mv ⟨fun τ' R1 R2 e1 e2=>?_,fun b hb=>(by cases hb),fun p hp=>(by cases hp),fun _ _ h=>(by cases h),fun τ' R' h=>?_,fun τ' R' d' h hd'=>?_⟩ trivial (fun _ _ h=>by cases h) (fun τ' R' h=>?_)) hb)
 ·rw [lk_cons] at e2
  split at e2
  ·rename_i e
   subst e
   cases e2
   rw [hR] at e1
   cases e1
   exact Nat.le_refl _
  ·cases e2
 ·rw [lk_cons] at h
  split at h
  ·rename_i e
   subst e
   exact r.sc.fr τ R hR
  ·cases h
 ·rw [lk_cons] at h
  split at h
  ·cases h
   have hd':R.dp=some d':=hd'
   rw [hdp] at hd'
   cases hd'
  ·cases h
 ·rw [lk_cons] at h
  split at h
  ·rename_i e
   subst e
   cases h
   refine Ow.rr hdp ⟨es.set i y',own',⟨by rw [List.length_set,List.length_set];exact hets.len,fun j vs us' q1 q2=>?_⟩,hrl⟩
   have fr:∀ {vs ts},RTL E.F w vs ts→RTL E.F w' vs ts:=fun h=>h.frame mv.size (fun b hb hlt=>(mv.cold b hb hlt).1) (fun b hb _=>hb)
   by_cases hj:i=j
   ·subst hj
    rw [List.getElem?_set_self hil] at q1
    rw [List.getElem?_set_self (by rw [← hets.len];exact hil)] at q2
    cases q1
    cases q2
    rw [hy']
    rw [spliceT_eq]
    rw [hul]
    exact fr ((((h4.a2).take off).append hut.a2).append ((h4.a2).drop _)).rtl
   ·rw [List.getElem?_set_ne hj] at q1 q2
    exact fr (hets.at_ j vs us' q1 q2)
  ·cases h
theorem cellsD_ok {i:Nat}:∀ {us:List Ce} {o:Nat} {ts:List Tr} {nl:List (Nat × Nat × Nat × Nat)},cellsD st i o us=some (ts,nl)→us.length=ts.length∧(∀ x∈nl,∃ j ρ u,us[j]? = some (.row ρ u)∧x=(i,o+j,ρ,u))∧(∀ j ρ u,us[j]? = some (.row ρ u)→(i,o+j,ρ,u)∈nl)∧∀ (j:Nat) c t,us[j]? = some c→ts[j]? = some t→treeC st c=some t
 | [],o,ts,nl,h=>by
  cases h
  exact ⟨rfl,fun x hx=>(by cases hx),fun j ρ u hj=>(by simp at hj),fun j c t hj=>by simp at hj⟩
 | c :: us,o,ts,nl,h=>by
  unfold cellsD at h
  split at h
  ·rename_i t ts' nl' h1 h2
   cases h
   obtain ⟨a1,a2,a3,a4⟩:=cellsD_ok h2
   refine ⟨by simp [a1],fun x hx=>?_,fun j ρ u hj=>?_,fun j c' t' hj ht=>?_⟩
   ·have key:(∃ ρ u,c=.row ρ u∧x=(i,o,ρ,u))∨x∈nl':=by
     cases c with
     | row ρ u=>
      rcases List.mem_cons.1 hx with rfl|hx
      ·exact .inl ⟨ρ,u,rfl,rfl⟩
      ·exact .inr hx
     | _=>exact .inr hx
    rcases key with ⟨ρ,u,rfl,rfl⟩|hx
    ·exact ⟨0,ρ,u,rfl,rfl⟩
    ·obtain ⟨j,ρ,u,h3,rfl⟩:=a2 x hx
     exact ⟨j+1,ρ,u,h3,by rw [show o+(j+1)=o+1+j by omega]⟩
   ·cases j with
    | zero=>
     obtain rfl:=Option.some.inj hj
     exact List.mem_cons_self
    | succ j=>
     have:=a3 j ρ u hj
     rw [show o+(j+1)=o+1+j by omega]
     cases c with
     | row=>exact List.mem_cons_of_mem _ this
     | _=>exact this
   ·cases j with
    | zero=>
     obtain rfl:=Option.some.inj hj
     obtain rfl:=Option.some.inj ht
     exact h1
    | succ j=>exact a4 j c' t' hj ht
  ·cases h
theorem offD_ok:∀ {us:List Ce} {o:Nat} {D:List (Nat × Nat × Nat)},offD o us D=true→∀ (j:Nat) c,us[j]? = some c→(∃ ρ u,c=.row ρ u)∨∀ x∈D,x.1≠o+j
 | [],_,_,_,j,c,hj=>by simp at hj
 | c0 :: us,o,D,h,j,c,hj=>by
  have h2:(∃ ρ u,c0=.row ρ u)∨freeD o 1 D=true:=by
   cases c0 with
   | row ρ u=>exact .inl ⟨ρ,u,rfl⟩
   | _=>exact .inr (Bool.and_eq_true_iff.1 h).1
  have h3:offD (o+1) us D=true:=by
   cases c0 with
   | row ρ u=>exact h
   | _=>exact (Bool.and_eq_true_iff.1 h).2
  cases j with
  | zero=>
   obtain rfl:=Option.some.inj hj
   exact h2.imp id fun h2 x hx e=>freeD_ok h2 x hx (by omega) (by omega)
  | succ j=>
   rcases offD_ok h3 j c hj with h4|h4
   ·exact .inl h4
   ·exact .inr fun x hx e=>h4 x hx (by omega)
theorem lnAt_ok {i o n:Nat}:∀ {l:List (Nat × Nat × Nat × Nat)},lnAt i o n l→∀ x∈l,o≤x.2.1→x.2.1 < o+n→x.1=i
 | a :: l,h,x,hx,h1,h2=>by
  obtain ⟨h3,h4⟩:=h
  rcases List.mem_cons.1 hx with rfl|hx
  ·rw [show (Nat.ble o x.2.1&&Nat.blt x.2.1 (o+n))=true from Bool.and_eq_true_iff.2 ⟨Nat.ble_eq_true_of_le h1,Nat.ble_eq_true_of_le h2⟩] at h3
   exact h3
  ·exact lnAt_ok h4 x hx h1 h2
 | [],_,x,hx,_,_=>by cases hx
theorem lnOut_ok {o n:Nat} {x:Nat × Nat × Nat × Nat}:∀ {l:List (Nat × Nat × Nat × Nat)},x∈lnOut o n l↔x∈l∧¬ (o≤x.2.1∧x.2.1 < o+n)
 | []=>by simp [lnOut]
 | a :: l=>by
  have ih:=lnOut_ok (o:=o) (n:=n) (x:=x) (l:=l)
  unfold lnOut
  split
  ·rename_i hb
   have hb:=Bool.and_eq_true_iff.1 hb
   have h1:=Nb hb.1
   have h2:a.2.1 < o+n:=Nb hb.2
   rw [ih]
   constructor
   ·exact fun h=>⟨List.mem_cons_of_mem _ h.1,h.2⟩
   ·rintro ⟨h3,h4⟩
    rcases List.mem_cons.1 h3 with rfl|h3
    ·exact (h4 ⟨h1,h2⟩).elim
    ·exact ⟨h3,h4⟩
  ·rename_i hb
   have hb:¬ (o≤a.2.1∧a.2.1 < o+n):=fun h=>by
    rw [show (Nat.ble o a.2.1&&Nat.blt a.2.1 (o+n))=true from Bool.and_eq_true_iff.2 ⟨Nat.ble_eq_true_of_le h.1,Nat.ble_eq_true_of_le h.2⟩] at hb
    cases hb
   rw [List.mem_cons,List.mem_cons,ih]
   constructor
   ·rintro (rfl|h)
    ·exact ⟨.inl rfl,hb⟩
    ·exact ⟨.inr h.1,h.2⟩
   ·rintro ⟨rfl|h,h2⟩
    ·exact .inl rfl
    ·exact .inr ⟨h,h2⟩
theorem CeD.ch {τ j o:Nat} {d d':Dp} {v:Value} {t:Tr} (hD:d'.D=d.D) (hc:d'.c=d.c) (hl:∀ ρ u,(j,o,ρ,u)∈d'.ln↔(j,o,ρ,u)∈d.ln) (h:CeD E w n0 τ j o d v t):CeD E w n0 τ j o d' v t:=
 ⟨fun ρ u hm=>h.1 ρ u ((hl ρ u).1 hm),fun hno=>by
  rw [hD,hc]
  exact h.2 fun ρ u hm=>hno ρ u ((hl ρ u).2 hm)⟩
theorem done_storeD (hT:TabOk P T) (r:RepM O E w n0 N m st a) {o:Oper} (hd:∀ x,o.dst=some x→x < N) {t:Nat} {ax x:Operand} {y:Ty} {us:List Ce} {ts:List Tr} {nl:List (Nat × Nat × Nat × Nat)} {τ ver k i off:Nat} {R:Row} {d:Dp} {xs:List Tr} (ho:o.op=.store t ax x) (hy:T t=some y) (hx:cellsA (ev st x)=some us) (hl:us.length=y.sz) (hax:ev st ax=.eptr τ ver k i off) (hR:lk st.rw τ=some R) (hver:R.ver=ver) (hk:R.k=k) (hdp:R.dp=some d) (hcd:cellsD st i off us=some (ts,nl)) (hi:R.xs[i]? = some xs) (hoff:off+ts.length≤R.k) (hat:lnAt i off ts.length d.ln) (hfd:offD off us d.D=true∨d.c≤i) :
  Done P O o a w n0 N m st ⟨.bot,[],[(τ,{ R with xs:=R.xs.set i (spliceT xs off ts),dp:=some ⟨d.D,d.c,nl++lnOut off ts.length d.ln⟩ })]⟩:=by
 have hu:=cellsA_rv hx (ev_rv r x)
 obtain ⟨c1,c2,c3,c4⟩:=cellsD_ok hcd
 have hM:d.isM=false:=by
  cases hm:d.isM with
  | false=>rfl
  | true=>
   have ha:=ev_rv r ax
   rw [hax] at ha
   obtain ⟨_,_,_,h1,_⟩:=ha
   rcases (r.row τ R hR).mp (by unfold Row.isM;rw [hdp];exact hm) with ⟨e,_⟩|⟨_,_,_,e,_⟩ <;> (rw [hver,h1] at e;cases e)
 obtain ⟨es,hown,hets,hrl⟩:=(r.row τ R hR).rd hdp hM
 have hil:=(List.getElem?_eq_some_iff.1 hi).1
 rw [← hets.len] at hil
 have hes:=List.getElem?_eq_getElem hil
 have hxl:=hets.ln i _ _ hes hi
 subst hk
 obtain ⟨w',y',hy',hrun,mv,own',hb,hnst⟩:=store_core hT r { R with xs:=R.xs.set i (spliceT xs off ts),dp:=some ⟨d.D,d.c,nl++lnOut off ts.length d.ln⟩ } ho hy hu hl hax hver hown hrl hes (by omega)
 have hul:=hu.len
 have fre:∀ {j o v t},CeD E w n0 τ j o d v t→CeD E w' n0 τ j o d v t:=fun h=>h.fr mv.size (fun b hb hlt=>⟨(mv.cold b hb hlt).1,hb⟩) (fun _ _ _=>rfl) fun g _ hr=>⟨hnst g _ _ hr,hr⟩
 intro K Q hK
 refine hrun K Q (hK E _ w' (r.app hd mv ⟨fun τ' R1 R2 e1 e2=>?_,fun b hb=>(by cases hb),fun p hp=>(by cases hp),fun _ _ h=>(by cases h),fun τ' R' h=>?_,fun τ' R' d' h hd' l hl'=>.inl ?_⟩ trivial (fun _ _ h=>by cases h) (fun τ' R' h=>?_)) hb)
 ·rw [lk_cons] at e2
  split at e2
  ·rename_i e
   subst e
   cases e2
   rw [hR] at e1
   cases e1
   exact Nat.le_refl _
  ·cases e2
 ·rw [lk_cons] at h
  split at h
  ·rename_i e
   subst e
   exact r.sc.fr τ R hR
  ·cases h
 ·rw [lk_cons] at h
  split at h
  ·cases h
   cases hd'
   rcases List.mem_append.1 hl' with hl'|hl'
   ·obtain ⟨j,ρ,u,h1,rfl⟩:=c2 l hl'
    exact cellsA_nm hx (ev_nm r.sc x) (ρ,u) (List.mem_flatMap.2 ⟨_,List.mem_of_getElem? h1,List.mem_cons_self⟩)
   ·exact r.sc.rl τ R d hR hdp l (lnOut_ok.1 hl').1
  ·cases h
 ·rw [lk_cons] at h
  split at h
  ·rename_i e
   subst e
   cases h
   refine RD.rr rfl (show Dp.isM ⟨d.D,d.c,nl++lnOut off ts.length d.ln⟩=false from hM) ?_
   show RD E w' n0 τ ⟨d.D,d.c,nl++lnOut off ts.length d.ln⟩ R.ty R.k (E.vl τ R.ver) (R.xs.set i (spliceT xs off ts))
   refine ⟨es.set i y',own',⟨by rw [List.length_set,List.length_set];exact hets.len,fun j vs us' q1 q2=>?_,fun j vs q1 u=>vs.one u,fun j vs us' q1 q2 p v t q3 q4=>?_⟩,hrl⟩
   ·by_cases hj:i=j
    ·subst hj
     rw [List.getElem?_set_self (by rw [← hets.len];exact hil)] at q2
     cases q2
     rw [spliceT_eq,List.length_append,List.length_append,List.length_take,List.length_drop]
     omega
    ·rw [List.getElem?_set_ne hj] at q1 q2
     exact hets.ln j vs us' q1 q2
   ·by_cases hj:i=j
    ·subst hj
     rw [List.getElem?_set_self hil] at q1
     rw [List.getElem?_set_self (by rw [← hets.len];exact hil)] at q2
     cases q1
     cases q2
     rw [hy'] at q3
     rw [spliceT_eq] at q4
     by_cases hin:off≤p∧p < off+ts.length
     ·obtain ⟨j0,rfl⟩:∃ j0,p=off+j0:=⟨p - off,by omega⟩
      have e1:((es[i]).1.take off).length=off:=by rw [List.length_take,Cl.len];omega
      have e2:(xs.take off).length=off:=by rw [List.length_take];omega
      rw [List.append_assoc,List.getElem?_append_right (by omega),e1,Nat.add_sub_cancel_left,List.getElem?_append_left (by omega)] at q3
      rw [List.append_assoc,List.getElem?_append_right (by omega),e2,Nat.add_sub_cancel_left,List.getElem?_append_left (by omega)] at q4
      have hcj:us[j0]? = some (us[j0]'(by omega)):=List.getElem?_eq_getElem _
      obtain ⟨v',hv',hrc⟩:=hu.get j0 _ hcj
      rw [q3] at hv'
      cases hv'
      have htc:=c4 j0 _ t hcj q4
      obtain ⟨c,hc⟩:∃ c,us[j0]'(by omega)=c:=⟨_,rfl⟩
      rw [hc] at hcj hrc htc
      have hlk:∀ ρ u,(i,off+j0,ρ,u)∈nl++lnOut off ts.length d.ln→c=.row ρ u:=fun ρ u hm=>by
       rcases List.mem_append.1 hm with hm|hm
       ·obtain ⟨j1,ρ',u',h1,h2⟩:=c2 _ hm
        simp only [Prod.mk.injEq] at h2
        obtain ⟨_,h3,rfl,rfl⟩:=h2
        obtain rfl:j0=j1:=by omega
        rw [hcj] at h1
        exact Option.some.inj h1
       ·exact ((lnOut_ok.1 hm).2 hin).elim
      refine ⟨fun ρ u hm=>?_,fun hno=>⟨fun ty k hm hlt=>?_,fun _=>?_⟩⟩
      ·rw [hlk ρ u hm] at hrc
       exact hrc
      ·rcases hfd with hfd|hfd
       ·rcases offD_ok hfd j0 c hcj with ⟨ρ,u,rfl⟩|h5
        ·exact (hno ρ u (List.mem_append_left _ (c3 j0 ρ u hcj))).elim
        ·exact (h5 _ hm rfl).elim
       ·exact absurd hlt (Nat.not_lt.2 hfd)
      ·cases c with
       | row ρ u=>exact (hno ρ u (List.mem_append_left _ (c3 j0 ρ u hcj))).elim
       | t x=>
        cases htc
        exact RT.frame mv.size (fun b hb hlt=>(mv.cold b hb hlt).1) (fun b hb _=>hb) hrc
       | nil=>
        cases htc
        rw [show v=_ from hrc]
        exact .slNil fun _=>rfl
       | bot=>cases htc
     ·have q3':(es[i]).1[p]? = some v:=by
       rw [← q3]
       have e1:((es[i]).1.take off).length=off:=by rw [List.length_take,Cl.len];omega
       by_cases hlo:p < off
       ·rw [List.append_assoc,List.getElem?_append_left (by omega),List.getElem?_take,if_pos hlo]
       ·rw [List.getElem?_append_right (by rw [List.length_append];omega),List.getElem?_drop,List.length_append,e1]
        congr 1
        omega
      have q4':xs[p]? = some t:=by
       rw [← q4]
       have e2:(xs.take off).length=off:=by rw [List.length_take];omega
       by_cases hlo:p < off
       ·rw [List.append_assoc,List.getElem?_append_left (by omega),List.getElem?_take,if_pos hlo]
       ·rw [List.getElem?_append_right (by rw [List.length_append];omega),List.getElem?_drop,List.length_append,e2]
        congr 1
        omega
      refine CeD.ch (d:=d) (h:=fre (hets.at_ i _ _ hes hi p v t q3' q4')) rfl rfl fun ρ u=>?_
      rw [List.mem_append,lnOut_ok]
      constructor
      ·rintro (hm|hm)
       ·obtain ⟨j1,ρ',u',h1,h2⟩:=c2 _ hm
        simp only [Prod.mk.injEq] at h2
        have:=(List.getElem?_eq_some_iff.1 h1).1
        exact (hin (by omega)).elim
       ·exact hm.1
      ·exact fun hm=>.inr ⟨hm,hin⟩
    ·rw [List.getElem?_set_ne hj] at q1 q2
     refine CeD.ch (d:=d) (h:=fre (hets.at_ j vs us' q1 q2 p v t q3 q4)) rfl rfl fun ρ u=>?_
     rw [List.mem_append,lnOut_ok]
     constructor
     ·rintro (hm|hm)
      ·obtain ⟨j1,ρ',u',h1,h2⟩:=c2 _ hm
       simp only [Prod.mk.injEq] at h2
       exact (hj h2.1.symm).elim
      ·exact hm.1
     ·exact fun hm=>.inr ⟨hm,fun hin=>hj (lnAt_ok hat _ hm hin.1 hin.2).symm⟩
  ·cases h
end
end
section
variable {P:Program} {T:Nat→Option Ty} {O:Gst}
section
variable {E:Env} {w:World} {n0 N m id:Nat} {st:St} {a:Act}
theorem int_of {ix:Operand} {kk:IntKind} {n:Int} (r:RepM O E w n0 N m st a) (h:ev st ix=.c (.t (.lit (.int kk n)))):a.eval ix=.int kk n:=by
 have:=ev_rv r ix
 rw [h] at this
 exact rv_lit this
theorem ok_pick (r:RepM O E w n0 N m st a) {o:Oper} {c x y:Operand} {t:Bool} (ho:o.op=.pick c x y) (h:ev st c=.c (.t (.lit (.bool t)))):OkV P E w st a o (cond t (ev st x) (ev st y)):=by
 have hc:=ev_rv r c
 rw [h] at hc
 have hc:=rv_lit hc
 cases t with
 | true=>exact ⟨a.eval x,by unfold execOp;simp [ho,hc,asBool],ev_rv r x,ev_nm r.sc x⟩
 | false=>exact ⟨a.eval y,by unfold execOp;simp [ho,hc,asBool],ev_rv r y,ev_nm r.sc y⟩
theorem run_ix (hT:TabOk P T) {o:Oper} {t e:Nat} {x ix:Operand} {s b:Nat} {z:List Ce} {q:List Lk} {kk:IntKind} {n:Int} {y:Ty} {j len cap g p:Nat} (ho:o.op=.indexAddr t x ix) (ht:T t=some ⟨.slc e,s,b,z,q⟩) (hi:a.eval ix=.int kk n) (he:T e=some y) (hx:a.eval x=.slice (some ⟨g,p,none⟩) len cap) (hn:n=j) (hj:j < len) :
  (execOp a.eval o).run P w=.ok (.value (.pointer (some ⟨g,p+j*y.sz,none⟩))) w:=by
 have hu:=ty_slc (hT.ty t _ ht) rfl
 subst hn
 unfold execOp
 have hlt:(0:Int)≤(j:Int)∧(j:Int) < (len:Int):=⟨by omega,by omega⟩
 simp only [ho,hi,hx,Instr.indexAt,asIntOf,Sem.run_bind,Sem.run_pure,Result.andThen_ok,run_underlying hu,if_pos hlt,ty_size (hT.ty e y he),Int.toNat_natCast,addr_add,Sem.run_ite]
theorem rt_some {F:Nat→Prop} {v:Value} {k:Nat} {xs:List (List Tr)} (h:RT F w v (.sl k xs)) {j:Nat} {ts:List Tr} (hj:xs[j]? = some ts):∃ g p cap vs,v=.slice (some ⟨g,p,none⟩) xs.length cap∧F g∧g < w.heap.size∧(∀ (i:Nat) u,vs[i]? = some u→w.cell? ⟨g,p+j*k+i,none⟩=some u)∧RTL F w vs ts:=by
 cases h with
 | slNil=>simp at hj
 | slSome h1 h2 h3 h4 h5=>
  obtain ⟨vs,_,h6,h7⟩:=h5.get j ts hj
  subst h1
  exact ⟨_,_,_,vs,rfl,h3,h4,h6,h7⟩
theorem ok_ixT (hT:TabOk P T) (r:RepM O E w n0 N m st a) {o:Oper} {t e:Nat} {x ix:Operand} {s b:Nat} {z:List Ce} {q:List Lk} {kk:IntKind} {n:Int} {y:Ty} {k:Nat} {xs:List (List Tr)} {j:Nat} {ts:List Tr} (ho:o.op=.indexAddr t x ix) (ht:T t=some ⟨.slc e,s,b,z,q⟩) (hi:ev st ix=.c (.t (.lit (.int kk n)))) (he:T e=some y) (hx:ev st x=.c (.t (.sl k xs))) (hk:k=y.sz) (hn:n=j) (hj:xs[j]? = some ts):OkV P E w st a o (.iptr ts 0):=by
 have ha:=ev_rv r x
 rw [hx] at ha
 obtain ⟨g,p,cap,vs,hv,h1,h2,h3,h4⟩:=rt_some (show RT E.F w (a.eval x) (.sl k xs) from ha) hj
 refine ⟨_,run_ix hT ho ht (int_of r hi) he hv hn (List.getElem?_eq_some_iff.1 hj).1,⟨g,p+j*y.sz,vs,by rw [Nat.add_zero],h1,h2,?_,h4⟩,fun b hb=>(by cases hb),fun p hp=>(by cases hp)⟩
 rw [← hk]
 exact h3
theorem ok_ixR (hT:TabOk P T) (r:RepM O E w n0 N m st a) {o:Oper} {t e:Nat} {x ix:Operand} {s b:Nat} {z:List Ce} {q:List Lk} {kk:IntKind} {n:Int} {y:Ty} {τ ver:Nat} {R:Row} {j:Nat} (ho:o.op=.indexAddr t x ix) (ht:T t=some ⟨.slc e,s,b,z,q⟩) (hi:ev st ix=.c (.t (.lit (.int kk n)))) (he:T e=some y) (hx:ev st x=.c (.row τ ver)) (hR:lk st.rw τ=some R) (hver:R.ver=ver) (hk:R.k=y.sz) (hM:R.isM=false) (hn:n=j) (hj:j < R.xs.length):OkV P E w st a o (.eptr τ ver R.k j 0):=by
 have ha:=ev_rv r x
 have hnm:=ev_nm r.sc x
 rw [hx] at ha hnm
 have hv:a.eval x=E.vl τ ver:=ha.1
 obtain ⟨es,h1,h2,_⟩:=(r.row τ R hR).hd hM
 obtain ⟨g,cap,cur,e1,_⟩:=own_at h1 (List.getElem?_eq_getElem (i:=j) (by rw [h2];exact hj))
 rw [hver] at e1
 rw [e1] at hv
 refine ⟨_,run_ix hT ho ht (int_of r hi) he hv hn (by rw [h2];exact hj),⟨g,es.length,cap,e1,by rw [Nat.zero_add,Nat.add_zero,hk]⟩,hnm⟩
theorem run_ixA (hT:TabOk P T) {o:Oper} {t m' e:Nat} {x ix:Operand} {s b:Nat} {z:List Ce} {q:List Lk} {kk:IntKind} {n:Int} {y:Ty} {j g p:Nat} (ho:o.op=.indexAddr t x ix) (ht:T t=some ⟨.arr m' e,s,b,z,q⟩) (hi:a.eval ix=.int kk n) (he:T e=some y) (hx:a.eval x=.pointer (some ⟨g,p,none⟩)) (hn:n=j) (hj:j < m') :
  (execOp a.eval o).run P w=.ok (.value (.pointer (some ⟨g,p+j*y.sz,none⟩))) w:=by
 have hu:=ty_arr (hT.ty t _ ht) rfl
 subst hn
 unfold execOp
 have hlt:(0:Int)≤(j:Int)∧(j:Int) < (m':Int):=⟨by omega,by omega⟩
 simp only [ho,hi,hx,Instr.indexAt,asIntOf,Instr.sureAddr,Sem.run_bind,Sem.run_pure,Result.andThen_ok,run_underlying hu,if_pos hlt,ty_size (hT.ty e y he),Int.toNat_natCast,addr_add,Sem.run_ite]
theorem ok_ixAp (hT:TabOk P T) (r:RepM O E w n0 N m st a) {o:Oper} {t m' e:Nat} {x ix:Operand} {s b:Nat} {z:List Ce} {q:List Lk} {kk:IntKind} {n:Int} {y:Ty} {g off j:Nat} (ho:o.op=.indexAddr t x ix) (ht:T t=some ⟨.arr m' e,s,b,z,q⟩) (hi:ev st ix=.c (.t (.lit (.int kk n)))) (he:T e=some y) (hx:ev st x=.ptr g off) (hn:n=j) (hj:j < m'):OkV P E w st a o (.ptr g (off+j*y.sz)):=by
 have ha:=ev_rv r x
 have hnm:=ev_nm r.sc x
 rw [hx] at ha hnm
 exact ⟨_,run_ixA hT ho ht (int_of r hi) he ha hn hj,rfl,hnm⟩
theorem ok_ixAi (hT:TabOk P T) (r:RepM O E w n0 N m st a) {o:Oper} {t m' e:Nat} {x ix:Operand} {s b:Nat} {z:List Ce} {q:List Lk} {kk:IntKind} {n:Int} {y:Ty} {xs:List Tr} {off j:Nat} (ho:o.op=.indexAddr t x ix) (ht:T t=some ⟨.arr m' e,s,b,z,q⟩) (hi:ev st ix=.c (.t (.lit (.int kk n)))) (he:T e=some y) (hx:ev st x=.iptr xs off) (hn:n=j) (hj:j < m'):OkV P E w st a o (.iptr xs (off+j*y.sz)):=by
 have ha:=ev_rv r x
 have hnm:=ev_nm r.sc x
 rw [hx] at ha hnm
 obtain ⟨g,p,vs,hv,h1⟩:=ha
 exact ⟨_,run_ixA hT ho ht (int_of r hi) he hv hn hj,⟨g,p,vs,by rw [Nat.add_assoc],h1⟩,hnm⟩
theorem ok_ixAe (hT:TabOk P T) (r:RepM O E w n0 N m st a) {o:Oper} {t m' e:Nat} {x ix:Operand} {s b:Nat} {z:List Ce} {q:List Lk} {kk:IntKind} {n:Int} {y:Ty} {τ ver k i off j:Nat} (ho:o.op=.indexAddr t x ix) (ht:T t=some ⟨.arr m' e,s,b,z,q⟩) (hi:ev st ix=.c (.t (.lit (.int kk n)))) (he:T e=some y) (hx:ev st x=.eptr τ ver k i off) (hn:n=j) (hj:j < m'):OkV P E w st a o (.eptr τ ver k i (off+j*y.sz)):=by
 have ha:=ev_rv r x
 have hnm:=ev_nm r.sc x
 rw [hx] at ha hnm
 obtain ⟨g,n',c,h1,hv⟩:=ha
 exact ⟨_,run_ixA hT ho ht (int_of r hi) he hv hn hj,⟨g,n',c,h1,by rw [Nat.add_assoc]⟩,hnm⟩
theorem ok_ixS (hT:TabOk P T) (r:RepM O E w n0 N m st a) {o:Oper} {t:Nat} {x ix:Operand} {s b:Nat} {z:List Ce} {q:List Lk} {kk:IntKind} {n:Int} {str:ByteArray} {j:Nat} (h:j < str.size) (ho:o.op=.index t x ix) (ht:T t=some ⟨.string,s,b,z,q⟩) (hx:ev st x=.c (.t (.lit (.string str)))) (hi:ev st ix=.c (.t (.lit (.int kk n)))) (hn:n=j):OkV P E w st a o (.c (.t (.lit (.int .u8 (str[j]'h).toNat)))):=by
 have hu:=ty_string (hT.ty t _ ht) rfl
 have hv:=ev_rv r x
 rw [hx] at hv
 have hv:=rv_lit hv
 subst hn
 refine ok_val ?_ rfl rfl
 unfold execOp
 simp only [ho,int_of r hi,hv,Instr.index,asIntOf,Sem.run_bind,Sem.run_pure,Result.andThen_ok,run_underlying hu]
 simp [h]
theorem ok_ixV (hT:TabOk P T) (r:RepM O E w n0 N m st a) {o:Oper} {t m' e:Nat} {x ix:Operand} {s b:Nat} {z:List Ce} {q:List Lk} {kk:IntKind} {n:Int} {y:Ty} {cs:List Ce} {j:Nat} {v:AV} (ho:o.op=.index t x ix) (ht:T t=some ⟨.arr m' e,s,b,z,q⟩) (hx:ev st x=.agg cs) (hi:ev st ix=.c (.t (.lit (.int kk n)))) (he:T e=some y) (hn:n=j) (hj:j < m') (hc:cut y cs (j*y.sz)=some v):OkV P E w st a o v:=by
 have hu:=ty_arr (hT.ty t _ ht) rfl
 have hv:=ev_rv r x
 have hnm:=ev_nm r.sc x
 rw [hx] at hv hnm
 obtain ⟨vs,hv,ha⟩:=hv
 subst hn
 obtain ⟨u,hp,hr⟩:=part_rv (P:=P) (hT.ty e y he) ha hc
 have hlt:(0:Int)≤(j:Int)∧(j:Int) < (m':Int):=⟨by omega,by omega⟩
 refine ⟨u,?_,hr.rv,cut_nm hc hnm.2⟩
 unfold execOp
 simp only [ho,int_of r hi,hv,Instr.index,asIntOf,Sem.run_bind,Sem.run_pure,Result.andThen_ok,run_underlying hu,if_pos hlt,ty_size (hT.ty e y he),Int.toNat_natCast,hp]
theorem bound_run (r:RepM O E w n0 N m st a) {x:Option Operand} {z n:Nat} (h:bound st x z n):x.map a.eval=none∧n=z∨∃ k,x.map a.eval=some (.int k n):=by
 cases x with
 | none=>exact .inl ⟨rfl,h⟩
 | some x=>
  unfold bound at h
  simp only at h
  split at h
  ·rename_i k m' e
   subst h
   exact .inr ⟨k,congrArg some (int_of r e)⟩
  ·exact h.elim
theorem bounds_run (r:RepM O E w n0 N m st a) {isSl:Bool} {lo hi:Option Operand} {len cap l h:Nat} (hl:bound st lo 0 l) (hh:bound st hi len h) (h1:l≤h) (h2:h≤len) (hc:len≤cap):(Instr.sliceBounds isSl len cap (lo.map a.eval) (hi.map a.eval) none).run P w=.ok (l,h,cap) w:=by
 have c1:(0:Int)≤(h:Int)∧(h:Int)≤(cap:Int):=⟨by omega,by omega⟩
 have c2:(0:Int)≤(l:Int)∧(l:Int)≤(h:Int):=⟨by omega,by omega⟩
 have c3:(0:Int)≤(l:Int)∧(l:Int)≤(len:Int):=⟨by omega,by omega⟩
 rcases bound_run r hl with ⟨e1,rfl⟩|⟨k1,e1⟩ <;> rcases bound_run r hh with ⟨e2,rfl⟩|⟨k2,e2⟩
 ·simp [Instr.sliceBounds,e1,e2]
 ·simp [Instr.sliceBounds,e1,e2,run_sliceBound w _ _ _ _ c1.1 c1.2]
 ·simp [Instr.sliceBounds,e1,e2,run_sliceBound w _ _ _ _ c3.1 c3.2]
 ·simp [Instr.sliceBounds,e1,e2,run_sliceBound w _ _ _ _ c1.1 c1.2,run_sliceBound w _ _ _ _ c2.1 c2.2]
theorem ok_slS (hT:TabOk P T) (r:RepM O E w n0 N m st a) {o:Oper} {t:Nat} {x:Operand} {lo hi:Option Operand} {s b:Nat} {z:List Ce} {q:List Lk} {str:ByteArray} {l h:Nat} (ho:o.op=.slice t x lo hi none) (ht:T t=some ⟨.string,s,b,z,q⟩) (hx:ev st x=.c (.t (.lit (.string str)))) (hl:bound st lo 0 l) (hh:bound st hi str.size h) (h1:l≤h) (h2:h≤str.size):OkV P E w st a o (.s (str.extract l h)):=by
 have hu:=ty_string (hT.ty t _ ht) rfl
 have hv:=ev_rv r x
 rw [hx] at hv
 have hv:=rv_lit hv
 refine ok_val (u:=.string (str.extract l h)) ?_ rfl rfl
 unfold execOp
 simp [ho,hv,Instr.sliceAt,Instr.slice,run_underlying hu,bounds_run r hl hh h1 h2 (Nat.le_refl _)]
theorem RTE.drop {F:Nat→Prop} {k g:Nat}:∀ {xs:List (List Tr)} {o:Nat} (l:Nat),RTE F w k g o xs→RTE F w k g (o+l*k) (xs.drop l)
 | _,_,0,h=>by simpa using h
 | [],_,l+1,_=>by simpa using RTE.nil
 | x :: xs,o,l+1,.cons _ _ _ h=>by
  have:=RTE.drop l h
  rwa [show o+k+l*k=o+(l+1)*k by rw [Nat.add_mul];omega] at this
theorem RTE.take {F:Nat→Prop} {k g:Nat}:∀ {xs:List (List Tr)} {o:Nat} (l:Nat),RTE F w k g o xs→RTE F w k g o (xs.take l)
 | _,_,0,h=>.nil
 | [],_,l+1,_=>by simpa using RTE.nil
 | x :: xs,o,l+1,.cons h1 h2 h3 h=>.cons h1 h2 h3 (RTE.take l h)
theorem RT.cases' {F:Nat→Prop} {v:Value} {k:Nat} {xs:List (List Tr)} (h:RT F w v (.sl k xs)):xs=[]∨∃ g o cap,v=.slice (some ⟨g,o,none⟩) xs.length cap∧xs.length≤cap∧F g∧g < w.heap.size∧RTE F w k g o xs:=by
 cases h with
 | slNil=>exact .inl rfl
 | slSome h1 h2 h3 h4 h5=>
  subst h1
  exact .inr ⟨_,_,_,rfl,h2,h3,h4,h5⟩
theorem ok_slT (hT:TabOk P T) (r:RepM O E w n0 N m st a) {o:Oper} {t e:Nat} {x:Operand} {lo hi:Option Operand} {s b:Nat} {z:List Ce} {q:List Lk} {y:Ty} {k:Nat} {xs:List (List Tr)} {l h:Nat} (ho:o.op=.slice t x lo hi none) (ht:T t=some ⟨.slc e,s,b,z,q⟩) (hx:ev st x=.c (.t (.sl k xs))) (he:T e=some y) (hk:k=y.sz) (hl:bound st lo 0 l) (hh:bound st hi xs.length h) (h1:l≤h) (h2:h≤xs.length):OkV P E w st a o (.c (.t (.sl k ((xs.take h).drop l)))):=by
 have hu:=ty_slc (hT.ty t _ ht) rfl
 have hv:=ev_rv r x
 rw [hx] at hv
 have hv:RT E.F w (a.eval x) (.sl k xs):=hv
 obtain ⟨ao,cap,hv1,hc,hnil⟩:=RT.len hv
 have hlen:((xs.take h).drop l).length=h - l:=by rw [List.length_drop,List.length_take];omega
 refine ⟨.slice (if cap=l then ao else ao.map (·.add (l*y.sz))) (h - l) (cap - l),?_,?_,fun b hb=>(by cases hb),fun p hp=>(by cases hp)⟩
 ·unfold execOp
  simp [ho,hv1,Instr.sliceAt,Instr.slice,run_underlying hu,bounds_run r hl hh h1 h2 hc,ty_size (hT.ty e y he)]
 ·show RT E.F w _ _
  by_cases hz:h - l=0
  ·have:(xs.take h).drop l=[]:=List.eq_nil_of_length_eq_zero (by omega)
   rw [this,hz]
   refine .slNil (fun hn=>?_)
   split at hn
   ·rw [hnil hn];omega
   ·cases ao with
    | none=>rw [hnil rfl];omega
    | some p=>cases hn
  ·rcases hv.cases' with h0|⟨g,p,cap',hv2,_,h3,h4,h5⟩
   ·rw [h0] at h2
    simp at h2
    omega
   ·rw [hv1] at hv2
    cases hv2
    rw [if_neg (by omega)]
    simp only [Option.map_some,addr_add]
    refine .slSome (by rw [hlen]) (by omega) h3 h4 ?_
    rw [← hk]
    exact (h5.take h).drop l
end
end
section
variable {P:Program} {T:Nat→Option Ty} {O:Gst}
theorem tv_append (w:World) (base:Nat) (t ty e:TypeId) {i:TypeInfo} {z:Value} {k bytes:Nat} (ht:P.underlying t=some (.slice e)) (hi:P.info? e=some i) (hz:i.zero=some z) (hsize:i.size=k) (hby:i.bytes=bytes) (hzs:z.cells.size=k) (hsz:0 < k)
  (v:Value) (n:Nat) (xs:List Value) (hown:w.ownsRow base e k v n xs)
  (a:Addr) (m c:Nat) (news:List Value) (hl:news.length=m*k) (hnews:∀ j u,news[j]? = some u→w.cell? (a.add j)=some u) (h1:∀ u∈news,u.oneCell'=true)
  (h63:n+m≤maxLen) (hbytes:(n+m)*bytes≤140737488355328) (hbase:base≤w.heap.size) :
  ∃ v' w',(Builtin.append_ #[t,t] ty #[v,.slice (some a) m c]).run P w=.ok v' w'∧w'.ownsRow base e k v' (n+m) (xs++news)∧w.grownBy w' v.ownBlock∧(v'.ownBlock=v.ownBlock∨v'.ownBlock=some w.heap.size):=by
 obtain ⟨v',w',hr,h2,h3,_⟩:=run_append_own (P:=P) w base t ty e i z k bytes ht hi hz hsize hby hzs hsz v n xs hown a m c news hl hnews h1 h63 hbytes hbase
 refine ⟨v',w',hr,h2,h3,?_⟩
 have hsmall:n+m≤9223372036854775807:=by simp only [maxLen] at h63;omega
 subst hsize
 subst hby
 rcases hown.2 with ⟨rfl,rfl⟩|⟨g,cap,cur,rfl,hbg,hg,hnc,hcm,hcs,htake⟩
 ·by_cases hm:m=0
  ·subst hm
   have hn:news=[]:=List.eq_nil_of_length_eq_zero (by simpa using hl)
   subst hn
   have hq:(Builtin.append_ #[t,t] ty #[.slice none 0 0,.slice (some a) 0 c]).run P w=.ok (.slice none 0 0) w:=by
    simp [Builtin.append_,run_underlying ht,Go.sizeOf,typeInfo,hi,Builtin.lenOf,Builtin.firstCells,loadCells,loadCellsFrom]
   rw [hq] at hr
   cases hr
   exact .inl rfl
  ·have hq:=run_append_nil (P:=P) w t ty e i z ht hi hz a m c news hl hnews (by omega) (by omega) (by have hb:=hbytes;simp only [Nat.zero_add] at hb;omega)
   rw [hq] at hr
   cases hr
   exact .inr rfl
 ·by_cases hroom:n+m≤cap
  ·have hfit:n*i.size+news.length≤cur.size:=by rw [hl,hcs,← Nat.add_mul];exact Nat.mul_le_mul_right _ hroom
   have hq:=run_append_room (P:=P) w t ty e i ht hi g n cap cur hg a m c news hl hnews h1 hroom hfit
   rw [hq] at hr
   cases hr
   exact .inl rfl
  ·have holds:∀ j u,xs[j]? = some u→w.cell? ((⟨g,0,none⟩:Addr).add j)=some u:=hown.cells (g:=g) rfl
   have hq:=run_append_grow (P:=P) w t ty e i z ht hi hz ⟨g,0,none⟩ n cap xs hown.1 holds a m c news hl hnews (by omega) (by omega) (growslice_fits (by omega) hbytes)
   rw [hq] at hr
   cases hr
   exact .inr rfl
section
variable {E:Env} {w:World} {n0 N m id:Nat} {st:St} {a:Act}
theorem RTE.raw {F:Nat→Prop} {k g:Nat}:∀ {xs:List (List Tr)} {o:Nat},RTE F w k g o xs→∃ es:List (Cl k),Ets F w es xs∧∀ (j:Nat) u,(es.flatMap Subtype.val)[j]? = some u→w.cell? ⟨g,o+j,none⟩=some u
 | _,_,.nil=>⟨[],⟨rfl,fun j vs ts h=>by simp at h⟩,fun j u h=>by simp at h⟩
 | _,o,.cons (vs:=vs) hl hc h1 h2=>by
  obtain ⟨es,h3,h4⟩:=RTE.raw h2
  refine ⟨⟨vs,hl,h1.one⟩ :: es,⟨by simp [h3.len],fun j vs' ds' e1 e2=>?_⟩,fun j u hu=>?_⟩
  ·rcases j with _|j
   ·obtain rfl:=Option.some.inj e1
    obtain rfl:=Option.some.inj e2
    exact h1
   ·exact h3.at_ j vs' ds' e1 e2
  ·rw [List.flatMap_cons] at hu
   by_cases hj:j < vs.length
   ·rw [List.getElem?_append_left hj] at hu
    exact hc j u hu
   ·rw [List.getElem?_append_right (by simpa using hj)] at hu
    have:=h4 _ u hu
    rwa [show o+k+(j - vs.length)=o+j by omega] at this
theorem src_ok (r:RepM O E w n0 N m st a) {v:Value} {av:AV} {k kk:Nat} {ys:List (List Tr)} (hv:RV E w v av) (h:elemsA st av=some (k,ys)) (hk:k=kk∨ys=[]):∃ ao cap,∃ es:List (Cl kk),v=.slice ao ys.length cap∧(ao=none→cap=0)∧ys.length≤cap∧Ets E.F w es ys∧∀ ad,ao=some ad→∀ (j:Nat) u,(es.flatMap Subtype.val)[j]? = some u→w.cell? (ad.add j)=some u:=by
 have empty:∀ {ao cap},v=.slice ao 0 cap→(ao=none→cap=0)→ys=[]→∃ ao cap,∃ es:List (Cl kk),v=.slice ao ys.length cap∧(ao=none→cap=0)∧ys.length≤cap∧Ets E.F w es ys∧∀ ad,ao=some ad→∀ (j:Nat) u,(es.flatMap Subtype.val)[j]? = some u→w.cell? (ad.add j)=some u:=fun h1 h2 h3=>by
  subst h3
  exact ⟨_,_,[],h1,h2,Nat.zero_le _,⟨rfl,fun j vs ts h=>by simp at h⟩,fun ad _ j u hu=>by simp at hu⟩
 unfold elemsA at h
 split at h
 ·rename_i c
  split at h
  ·rename_i k' xs' hc
   cases h
   unfold treeC at hc
   split at hc
   ·cases hc
    have hv:RT E.F w v (.sl k ys):=hv
    obtain ⟨ao,cap,h1,h2,h3⟩:=RT.len hv
    rcases hv.cases' with h0|⟨g,o,cap',h4,h5,h6,h7,h8⟩
    ·subst h0
     exact empty h1 h3 rfl
    ·rcases hk with rfl|hk
     ·obtain ⟨es,h9,h10⟩:=h8.raw
      refine ⟨_,_,es,h4,fun h=>(by cases h),h5,h9,fun ad had j u hu=>?_⟩
      cases had
      rw [addr_add]
      exact h10 j u hu
     ·subst hk
      exact empty h1 h3 rfl
   ·cases hc
    exact empty hv (fun _=>rfl) rfl
   ·rename_i τ ver
    split at hc
    ·rename_i R hR
     cases hb:Nat.beq R.ver ver&&R.dp.isNone with
     | false=>rw [hb] at hc;cases hc
     | true=>
      rw [hb] at hc
      cases hc
      have hb:=Bool.and_eq_true_iff.1 hb
      obtain ⟨es,h1,h2,_⟩:=(r.row τ R hR).ow (by simpa using hb.2)
      have hver:=Nat.eq_of_beq_eq_true hb.1
      obtain ⟨ao,cap,h3,h4,h5⟩:=row_len h1
      have hv2:v=E.vl τ ver:=hv.1
      rw [h2.len] at h3 h4
      rw [← hver,h3] at hv2
      rcases hk with rfl|hk
      ·refine ⟨ao,cap,es,hv2,h5,h4,h2,fun ad had j u hu=>?_⟩
       subst had
       rcases h1.2 with ⟨h6,_⟩|⟨g,cap2,cur,h6,_⟩
       ·rw [h3] at h6;cases h6
       ·have h7:=h1.cells (g:=g) (by rw [h6];rfl) j u hu
        rw [h3,h2.len] at h6
        cases h6
        exact h7
      ·rw [hk] at hv2
       exact empty hv2 h5 hk
    ·cases hc
   ·cases hc
  ·cases h
 ·cases h
def Env.nr (E:Env) (g i:Nat) (v:Value):Env:=⟨fun b=>if b < g then E.rl b else .rw i,E.bk,fun τ ver=>if τ=i then v else E.vl τ ver⟩
theorem row_new (r:RepM O E w n0 N m st a) {o:Oper} (hd:∀ x,o.dst=some x→x < N) (hf:Fresh st id) (hm:id < m) {w':World} {v':Value} {ty k:Nat} {es:List (Cl k)} {xs:List (List Tr)} (hb:Below w.heap.size w w') (own:w'.ownsRow w.heap.size ty k v' es.length (es.flatMap Subtype.val)) (hets:Ets E.F w es xs) (h1:v'.oneCell'=true) :
  RepM O (E.nr w.heap.size id v') w' n0 N m (st.app o.dst ⟨.c (.row id 0),[],[(id,⟨ty,k,0,xs,none⟩)]⟩) (a.put o.dst v'):=by
 have hfr:=(hf id (Nat.le_refl _) (by omega)).2
 have mv:Mv st E w (E.nr w.heap.size id v') w' (fun i=>∃ cs',lk ([]:List (Nat × List Ce)) i=some cs') (fun τ=>∃ R,lk [(id,(⟨ty,k,0,xs,none⟩:Row))] τ=some R):=
  Mv.below hb (fun b hlt=>by simp only [Env.nr,if_pos hlt]) (fun _ _ _=>rfl) (fun τ R v hτ _=>by
   simp only [Env.nr]
   rw [if_neg (fun e=>by rw [e,hfr] at hτ;cases hτ)])
 refine r.app hd mv ⟨fun τ R R' e1 e2=>?_,fun b hb=>(by cases hb),fun p hp=>.inr ?_,fun _ _ h=>(by cases h),fun τ R h=>?_,fun τ R d h hd=>?_⟩ ⟨by simp [Env.nr],h1⟩ (fun _ _ h=>by cases h) (fun τ R h=>?_)
 ·rw [lk_cons] at e2
  split at e2
  ·rename_i e
   subst e
   rw [hfr] at e1
   cases e1
  ·cases e2
 ·obtain rfl:p=(id,0):=by simpa [AV.rids,AV.rid1,Ce.rids,Dl.val] using hp
  exact ⟨_,lk_cons _ _ _ _ |>.trans (if_pos rfl),Nat.le_refl _⟩
 ·rw [lk_cons] at h
  split at h
  ·rename_i e
   subst e
   exact hm
  ·cases h
 ·rw [lk_cons] at h
  split at h
  ·cases h
   cases hd
  ·cases h
 ·rw [lk_cons] at h
  split at h
  ·rename_i e
   subst e
   cases h
   refine Ow.rr rfl ⟨es,?_,hets.fr mv.size (fun b hb hlt=>(mv.cold b hb hlt).1) (fun b hb hlt=>(mv.cold b hb hlt).2),fun g hg=>?_⟩
   ·simp only [Env.nr,if_pos]
    refine ⟨own.1,?_⟩
    rcases own.2 with h|⟨g,cap,cur,h2,h3,h4⟩
    ·exact .inl h
    ·exact .inr ⟨g,cap,cur,h2,Nat.le_trans r.hi h3,h4⟩
   ·simp only [Env.nr,if_pos] at hg ⊢
    have:=(own.lt g hg).1
    rw [if_neg (by omega)]
  ·cases h
theorem Below.of_none {w w':World} (h:w.grownBy w' none):Below w.heap.size w w':=⟨h.os,h.tape,h.output,h.size,fun k hk=>h.block k hk (by simp)⟩
theorem own_one {w':World} {B e k n:Nat} {v:Value} {xs:List Value} (h:w'.ownsRow B e k v n xs):v.oneCell'=true:=by
 rcases h.2 with ⟨rfl,_⟩|⟨g,cap,cur,rfl,_⟩ <;> rfl
theorem flat_one {k:Nat} (es:List (Cl k)):∀ u∈es.flatMap Subtype.val,u.oneCell'=true:=fun u hu=>by
 obtain ⟨y,_,hy⟩:=List.mem_flatMap.1 hu
 exact Cl.one y u hy
theorem run_append_nothing0 (w:World) (t ty e:TypeId) {i:TypeInfo} {k:Nat} (ht:P.underlying t=some (.slice e)) (hi:P.info? e=some i) {B n:Nat} {v:Value} {xs:List Value} (hown:w.ownsRow B e k v n xs):(Builtin.append_ #[t,t] ty #[v,.slice none 0 0]).run P w=.ok v w:=
 run_append_owned_none (P:=P) (w:=w) B t ty e i k ht hi v n xs hown
theorem done_appN (hT:TabOk P T) (r:RepM O E w n0 N m st a) {o:Oper} (hd:∀ x,o.dst=some x→x < N) (hf:Fresh st id) (hm:id < m) {s x:Operand} {t e:Nat} {sz b:Nat} {z:List Ce} {q:List Lk} {y:Ty} {k:Nat} {ys:List (List Tr)} (ho:o.op=.call ⟨.builtin .append,#[s,x],#[t,t]⟩) (ht:T t=some ⟨.slc e,sz,b,z,q⟩) (he:T e=some y) (hx:elemsA st (ev st x)=some (k,ys)) (hs:ev st s=.c .nil) (hk:k=y.sz∨ys=[]) (hby:ys.length*y.by_≤140737488355328) (hl:ys.length < 140737488355328) (hsz:0 < y.sz) :
  Done P O o a w n0 N m st ⟨.c (.row id 0),[],[(id,⟨e,y.sz,0,ys,none⟩)]⟩:=by
 have hu:=ty_slc (hT.ty t _ ht) rfl
 obtain ⟨i,zv,h1,h2,h3,h4,_,h5⟩:=ty_info0 (hT.ty e y he)
 have hsv:=ev_rv r s
 rw [hs] at hsv
 have hsv:a.eval s=.slice none 0 0:=hsv
 obtain ⟨ao,cap,es,hxv,hn,hc,hets,hcells⟩:=src_ok r (ev_rv r x) hx hk
 intro K Q hK
 have nil0:=World.ownsRow_nil w w.heap.size e y.sz
 cases ao with
 | none=>
  have hc0:=hn rfl
  have hy:ys=[]:=List.eq_nil_of_length_eq_zero (by omega)
  subst hy
  have:es=[]:=List.eq_nil_of_length_eq_zero (by rw [hets.len];rfl)
  subst this
  rw [hc0] at hxv
  have hr:=run_append_nothing0 (P:=P) w t o.type e hu h1 nil0
  exact Lib.wp_append_run w s x t t ho _ _ hsv hxv _ _ hr (hK _ _ _ (row_new r hd hf hm (Below.refl _ _) (es:=[]) nil0 hets rfl) (Below.refl _ _))
 | some ad=>
  obtain ⟨v',w',hr,hown,hg,_⟩:=tv_append (P:=P) w w.heap.size t o.type e hu h1 h4 h2 h3 (h5.trans h2) hsz _ 0 [] nil0 ad ys.length cap (es.flatMap Subtype.val) (by rw [flat_len Cl.len,hets.len]) (hcells ad rfl) (flat_one es) (by simp only [maxLen];omega) (by rw [Nat.zero_add];exact hby) (Nat.le_refl _)
  rw [Nat.zero_add,List.nil_append,← hets.len] at hown
  have hb:Below w.heap.size w w':=Below.of_none hg
  exact Lib.wp_append_run w s x t t ho _ _ hsv hxv _ _ hr (hK _ _ _ (row_new r hd hf hm hb hown hets (own_one hown)) (hb.mono r.hi))
def Env.gr (E:Env) (g τ ver:Nat) (v:Value):Env:=⟨fun b=>if b < g then E.rl b else .rw τ,E.bk,fun τ' ver'=>if τ'=τ∧ver'=ver then v else E.vl τ' ver'⟩
theorem done_appR (hT:TabOk P T) (r:RepM O E w n0 N m st a) {o:Oper} (hd:∀ x,o.dst=some x→x < N) {s x:Operand} {t e:Nat} {sz b:Nat} {z:List Ce} {q:List Lk} {y:Ty} {k:Nat} {ys:List (List Tr)} {τ ver:Nat} {R:Row} (ho:o.op=.call ⟨.builtin .append,#[s,x],#[t,t]⟩) (ht:T t=some ⟨.slc e,sz,b,z,q⟩) (he:T e=some y) (hx:elemsA st (ev st x)=some (k,ys)) (hs:ev st s=.c (.row τ ver)) (hR:lk st.rw τ=some R) (hver:R.ver=ver) (hRk:R.k=y.sz) (hRt:R.ty=e) (hdp:R.dp=none) (hk:k=y.sz∨ys=[]) (hby:(R.xs.length+ys.length)*y.by_≤140737488355328) (hl:R.xs.length+ys.length < 140737488355328) (hsz:0 < y.sz) :
  Done P O o a w n0 N m st ⟨.c (.row τ (ver+1)),[],[(τ,{ R with ver:=ver+1,xs:=R.xs++ys })]⟩:=by
 have hu:=ty_slc (hT.ty t _ ht) rfl
 obtain ⟨i,zv,h1,h2,h3,h4,_,h5⟩:=ty_info0 (hT.ty e y he)
 have hsv:=ev_rv r s
 rw [hs] at hsv
 have hsv:a.eval s=E.vl τ ver:=hsv.1
 rw [← hRk] at hk
 obtain ⟨ao,cap,es,hxv,hn,hc,hets,hcells⟩:=src_ok r (ev_rv r x) hx hk
 obtain ⟨es0,ro,ho0,hrl⟩:=(r.row τ R hR).ow hdp
 subst hRt
 rw [hver] at ro hrl
 -- what follows from the new slice
 have fin:∀ v' w',w'.ownsRow n0 R.ty R.k v' (es0.length+es.length) (es0.flatMap Subtype.val++es.flatMap Subtype.val)→w.grownBy w' (E.vl τ ver).ownBlock→(v'.ownBlock=(E.vl τ ver).ownBlock∨v'.ownBlock=some w.heap.size)→
   RepM O (E.gr w.heap.size τ (ver+1) v') w' n0 N m (st.app o.dst ⟨.c (.row τ (ver+1)),[],[(τ,{ R with ver:=ver+1,xs:=R.xs++ys })]⟩) (a.put o.dst v')∧Below n0 w w':=fun v' w' own hg hob=>by
  have hvne:∀ g,(E.vl τ ver).ownBlock=some g→E.rl g=.rw τ:=hrl
  have old:∀ b,b < w.heap.size→E.rl b≠.rw τ→w'.heap[b]? = w.heap[b]?:=fun b hlt hne=>hg.block b hlt (fun e=>hne (hvne b e.symm))
  have mv:Mv st E w (E.gr w.heap.size τ (ver+1) v') w' (fun i=>∃ cs',lk ([]:List (Nat × List Ce)) i=some cs') (fun τ'=>∃ R',lk [(τ,({ R with ver:=ver+1,xs:=R.xs++ys }:Row))] τ'=some R'):=by
   refine ⟨hg.size,fun b hlt _=>by simp only [Env.gr,if_pos hlt],fun b hb hlt=>⟨old b hlt (by rw [hb];simp),by simp only [Env.gr,if_pos hlt];exact hb⟩,fun _ _ _=>rfl,fun i cs hi _ hlt hrl'=>⟨old _ hlt (by rw [hrl'];simp),by simp only [Env.gr,if_pos hlt];exact hrl'⟩,fun τ' R' v hτ hv=>?_,fun τ' R' hτ hY g hg' hlt hrl'=>⟨old g hlt (by
    rw [hrl']
    intro e
    cases e
    exact hY ⟨_,lk_cons _ _ _ _ |>.trans (if_pos rfl)⟩),by simp only [Env.gr,if_pos hlt];exact hrl'⟩,fun b hb hlt=>old b hlt (by rw [hb];simp),fun τ' R' hτ hY g j q hlt hrl'=>⟨old g hlt (by rw [hrl'];simp),by simp only [Env.gr,if_pos hlt];exact hrl'⟩⟩
   simp only [Env.gr]
   rw [if_neg]
   rintro ⟨e1,e2⟩
   subst e1
   rw [hR] at hτ
   cases hτ
   omega
  refine ⟨r.app hd mv ⟨fun τ' R1 R2 e1 e2=>?_,fun b hb=>(by cases hb),fun p hp=>.inr ?_,fun _ _ h=>(by cases h),fun τ' R' h=>?_,fun τ' R' d' h hd'=>?_⟩ ⟨by simp [Env.gr],own_one own⟩ (fun _ _ h=>by cases h) (fun τ' R' h=>?_),⟨hg.os,hg.tape,hg.output,hg.size,fun b hb=>hg.block b (Nat.lt_of_lt_of_le hb r.hi) (fun e=>by have:=(ro.lt b e.symm).1;omega)⟩⟩
  ·rw [lk_cons] at e2
   split at e2
   ·rename_i e
    subst e
    cases e2
    rw [hR] at e1
    cases e1
    show R.ver≤ver+1
    omega
   ·cases e2
  ·obtain rfl:p=(τ,ver+1):=by simpa [AV.rids,AV.rid1,Ce.rids] using hp
   exact ⟨_,lk_cons _ _ _ _ |>.trans (if_pos rfl),Nat.le_refl _⟩
  ·rw [lk_cons] at h
   split at h
   ·rename_i e
    subst e
    exact r.sc.fr τ R hR
   ·cases h
  ·rw [lk_cons] at h
   split at h
   ·cases h
    have hd':R.dp=some d':=hd'
    rw [hdp] at hd'
    cases hd'
   ·cases h
  ·rw [lk_cons] at h
   split at h
   ·rename_i e
    subst e
    cases h
    have fr:∀ {vs ts},RTL E.F w vs ts→RTL (E.gr w.heap.size τ (ver+1) v').F w' vs ts:=fun h=>h.frame mv.size (fun b hb hlt=>(mv.cold b hb hlt).1) (fun b hb hlt=>(mv.cold b hb hlt).2)
    refine Ow.rr hdp ⟨es0++es,?_,⟨by rw [List.length_append,List.length_append,ho0.len,hets.len],fun j vs ts q1 q2=>?_⟩,fun g hg'=>?_⟩
    ·have:(E.gr w.heap.size τ (ver+1) v').vl τ (ver+1)=v':=by simp [Env.gr]
     show World.ownsRow _ n0 R.ty R.k ((E.gr w.heap.size τ (ver+1) v').vl τ (ver+1)) _ _
     rw [this,List.length_append,List.flatMap_append]
     exact own
    ·by_cases hj:j < es0.length
     ·rw [List.getElem?_append_left hj] at q1
      rw [List.getElem?_append_left (by rw [← ho0.len];exact hj)] at q2
      exact fr (ho0.at_ j vs ts q1 q2)
     ·rw [List.getElem?_append_right (by omega)] at q1
      rw [List.getElem?_append_right (by rw [← ho0.len];omega),← ho0.len] at q2
      exact fr (hets.at_ _ vs ts q1 q2)
    ·have hg':((E.gr w.heap.size τ (ver+1) v').vl τ (ver+1)).ownBlock=some g:=hg'
     have:(E.gr w.heap.size τ (ver+1) v').vl τ (ver+1)=v':=by simp [Env.gr]
     rw [this] at hg'
     show (if g < w.heap.size then E.rl g else .rw τ)=.rw τ
     split
     ·rename_i hlt
      rcases hob with h|h
      ·rw [h] at hg'
       exact hrl g hg'
      ·rw [h] at hg'
       cases hg'
       omega
     ·rfl
   ·cases h
 intro K Q hK
 cases ao with
 | none=>
  have hc0:=hn rfl
  have hy:ys=[]:=List.eq_nil_of_length_eq_zero (by omega)
  subst hy
  have:es=[]:=List.eq_nil_of_length_eq_zero (by rw [hets.len];rfl)
  subst this
  rw [hc0] at hxv
  have hr:=run_append_nothing0 (P:=P) w t o.type R.ty hu h1 ro
  obtain ⟨f1,f2⟩:=fin (E.vl τ ver) w (by simpa using ro) ⟨rfl,rfl,rfl,Nat.le_refl _,fun _ _ _=>rfl⟩ (.inl rfl)
  exact Lib.wp_append_run w s x t t ho _ _ hsv hxv _ _ hr (hK _ _ _ f1 f2)
 | some ad=>
  obtain ⟨v',w',hr,hown,hg,hob⟩:=tv_append (P:=P) w n0 t o.type R.ty hu h1 h4 (h2.trans hRk.symm) h3 ((h5.trans h2).trans hRk.symm) (by rw [hRk];exact hsz) _ es0.length _ ro ad ys.length cap (es.flatMap Subtype.val) (by rw [flat_len Cl.len,hets.len]) (hcells ad rfl) (flat_one es) (by rw [ho0.len];simp only [maxLen];omega) (by rw [ho0.len];exact hby) r.hi
  rw [← hets.len] at hown
  obtain ⟨f1,f2⟩:=fin v' w' hown hg hob
  exact Lib.wp_append_run w s x t t ho _ _ hsv hxv _ _ hr (hK _ _ _ f1 f2)
end
end
section
variable {P:Program} {T:Nat→Option Ty} {O:Gst}
section
variable {E:Env} {w:World} {n0 N m id:Nat} {st:St} {a:Act}
theorem fill_sl (r:RepM O E w n0 N m st a) {sz:Nat}:∀ {parts:List (Nat × Operand)} {i:Nat} {xs:List (List Tr)},partsT st sz i parts=some xs→∀ vs:List Value,(i+parts.length)*sz≤vs.length→
  ∃ es:List (Cl sz),Ets E.F w es xs∧es.length=parts.length∧Instr.fill (fun i=>some (i*sz,sz)) vs.toArray (parts.map fun p=>(p.1,a.eval p.2))=some (vs.take (i*sz)++es.flatMap Subtype.val++vs.drop ((i+parts.length)*sz)).toArray
 | [],i,xs,h,vs,hl=>by
  cases h
  exact ⟨[],⟨rfl,fun j vs ts h=>by simp at h⟩,rfl,by simp [Instr.fill]⟩
 | (j,x) :: parts,i,xs,h,vs,hl=>by
  unfold partsT at h
  cases hb:Nat.beq i j with
  | false=>rw [hb] at h;cases h
  | true=>
   rw [hb] at h
   simp only [cond_true] at h
   obtain rfl:=Nat.eq_of_beq_eq_true hb
   split at h
   ·rename_i us e1
    split at h
    ·rename_i ts e2
     cases hb2:Nat.beq ts.length sz with
     | false=>rw [hb2] at h;cases h
     | true=>
      rw [hb2] at h
      simp only [cond_true] at h
      have h1:=Nat.eq_of_beq_eq_true hb2
      split at h
      ·rename_i xs' e3
       cases h
       have hu:=cellsA_rv e1 (ev_rv r x)
       have hut:=plainT_rtl e2 hu
       have hul:(a.eval x).cells.toList.length=sz:=hut.len.trans h1
       have hsz:(a.eval x).cells.size=sz:=by rw [← Array.length_toList];exact hul
       rw [List.length_cons] at hl
       have e4:(i+(parts.length+1))*sz=i*sz+sz+parts.length*sz:=by rw [Nat.add_mul,Nat.add_mul];omega
       rw [e4] at hl
       have hl2:(vs.take (i*sz)++(a.eval x).cells.toList++vs.drop (i*sz+(a.eval x).cells.toList.length)).length=vs.length:=by
        simp only [List.length_append,List.length_take,List.length_drop]
        omega
       obtain ⟨es,h2,h3,h4⟩:=fill_sl r e3 (vs.take (i*sz)++(a.eval x).cells.toList++vs.drop (i*sz+(a.eval x).cells.toList.length)) (by rw [hl2,Nat.add_mul,Nat.add_mul];omega)
       refine ⟨⟨(a.eval x).cells.toList,hul,A2.one hu⟩ :: es,⟨by simp [h2.len],fun j vs' ts' q1 q2=>?_⟩,by simp [h3],?_⟩
       ·rcases j with _|j
        ·cases q1
         cases q2
         exact hut
        ·exact h2.at_ j vs' ts' q1 q2
       ·rw [List.map_cons,Instr.fill]
        simp only
        rw [if_neg (by
         simp only [ne_eq,List.size_toArray,Bool.or_eq_true,decide_eq_true_eq,not_or,Decidable.not_not]
         exact ⟨hsz,by omega⟩)]
        rw [← Array.foldl_toList,Array.toList_zipIdx,fold_set _ (i*sz) 0 vs (by omega),Nat.add_zero,h4]
        congr 2
        rw [List.flatMap_cons,List.length_cons,e4]
        show _=List.take (i*sz) vs++((a.eval x).cells.toList++es.flatMap Subtype.val)++_
        rw [hul]
        have e5:(i+1)*sz=i*sz+sz:=by rw [Nat.add_mul];omega
        have e6:(i+1+parts.length)*sz=i*sz+sz+parts.length*sz:=by rw [Nat.add_mul,Nat.add_mul];omega
        have e7:(vs.take (i*sz)++(a.eval x).cells.toList).length=i*sz+sz:=by rw [List.length_append,List.length_take];omega
        rw [e5,e6,List.take_append,e7,List.take_of_length_le (by omega),Nat.sub_self,List.take_zero,List.append_nil,List.drop_append,e7,List.drop_of_length_le (by omega),List.nil_append,List.drop_drop]
        rw [show i*sz+sz+(i*sz+sz+parts.length*sz - (i*sz+sz))=i*sz+sz+parts.length*sz by omega]
        simp
      ·cases h
    ·cases h
   ·cases h
theorem done_bsl (hT:TabOk P T) (r:RepM O E w n0 N m st a) {o:Oper} (hd:∀ x,o.dst=some x→x < N) (hf:Fresh st id) (hm:id < m) {t e:Nat} {len:Nat} {parts:Array (Nat × Operand)} {s b:Nat} {z:List Ce} {q:List Lk} {y:Ty} {xs:List (List Tr)} (ho:o.op=.buildSlice t len parts) (ht:T t=some ⟨.slc e,s,b,z,q⟩) (he:T e=some y) (hp:partsT st y.sz 0 parts.toList=some xs) (hl:xs.length=len) (hs:len*y.sz≤10000) (h0:0 < y.sz) :
  Done P O o a w n0 N m st ⟨.c (.row id 0),[],[(id,⟨e,y.sz,0,xs,none⟩)]⟩:=by
 have hu:=ty_slc (hT.ty t _ ht) rfl
 obtain ⟨i,zv,h1,h2,h3,h4,_,h5⟩:=ty_info0 (hT.ty e y he)
 obtain ⟨vs,hvs⟩:∃ vs:List Value,vs=((Array.range (len*i.size)).map (fun j=>zv.cells[j % zv.cells.size]!)).toList:=⟨_,rfl⟩
 have hvl:vs.length=len*y.sz:=by rw [hvs,h2];simp
 have key:∃ es:List (Cl y.sz),Ets E.F w es xs∧es.length=len∧(Instr.buildSlice t len (parts.map fun (i,x)=>(i,a.eval x))).run P w=.ok (.slice (some ⟨w.heap.size,0,none⟩) len len) (w.alloc (.cells (es.flatMap Subtype.val).toArray e)):=by
  have hpl:parts.toList.length=xs.length:=by
   have:∀ (ps:List (Nat × Operand)) (i:Nat) xs,partsT st y.sz i ps=some xs→ps.length=xs.length:=by
    intro ps
    induction ps with
    | nil=>intro i xs h;cases h;rfl
    | cons p ps ih=>
     intro i xs h
     obtain ⟨j,x⟩:=p
     unfold partsT at h
     cases hb:Nat.beq i j with
     | false=>rw [hb] at h;cases h
     | true=>
      rw [hb] at h
      simp only [cond_true] at h
      split at h
      ·split at h
       ·rename_i ts _
        cases hb2:Nat.beq ts.length y.sz with
        | false=>rw [hb2] at h;cases h
        | true=>
         rw [hb2] at h
         simp only [cond_true] at h
         split at h
         ·rename_i xs' e3
          cases h
          simp [ih _ _ e3]
         ·cases h
       ·cases h
      ·cases h
   exact this _ _ _ hp
  obtain ⟨es,h6,h7,h8⟩:=fill_sl r hp vs (by rw [Nat.zero_add,hpl,hl,hvl];exact Nat.le_refl _)
  rw [hpl,hl] at h7
  rw [hpl,hl,Nat.zero_mul,Nat.zero_add,List.take_zero,List.nil_append,List.drop_of_length_le (by omega),List.append_nil] at h8
  have h9:(parts.map fun (i,x)=>(i,a.eval x)).toList=parts.toList.map fun p=>(p.1,a.eval p.2):=by simp
  refine ⟨es,h6,h7,?_⟩
  by_cases hz:len=0
  ·subst hz
   have he0:es=[]:=List.eq_nil_of_length_eq_zero h7
   have hp0:parts=#[]:=Array.toList_inj.1 (List.eq_nil_of_length_eq_zero (by rw [hpl];exact hl))
   subst he0
   subst hp0
   have e0:Array.range 0=#[]:=by simp
   simp [Instr.buildSlice,run_underlying hu,Go.sizeOf,typeInfo,h1,Instr.fill,newRow,e0]
  ·refine run_buildSlice w t e len _ (es.flatMap Subtype.val).toArray i zv hu h1 h4 (by rw [h2];omega) (by rw [h2];exact fun h=>by rcases Nat.mul_eq_zero.1 h with h|h <;> omega) ?_
   rw [h9,h2]
   rw [hvs,h2] at h8
   exact h8
 obtain ⟨es,h6,h7,hrun⟩:=key
 have hb:Below w.heap.size w (w.alloc (.cells (es.flatMap Subtype.val).toArray e)):=(Below.refl _ _).alloc (Nat.le_refl _) _
 have hfl:(es.flatMap Subtype.val).length=len*y.sz:=by rw [flat_len Cl.len,h7]
 have own:(w.alloc (.cells (es.flatMap Subtype.val).toArray e)).ownsRow w.heap.size e y.sz (.slice (some ⟨w.heap.size,0,none⟩) len len) es.length (es.flatMap Subtype.val):=by
  refine ⟨by rw [hfl,h7],.inr ⟨w.heap.size,len,_,by rw [h7],Nat.le_refl _,heap_alloc_new w _,by omega,?_,?_,?_⟩⟩
  ·have:len≤len*y.sz:=Nat.le_mul_of_pos_right _ h0
   simp only [maxLen]
   omega
  ·rw [List.size_toArray,hfl]
  ·rw [List.toList_toArray,List.take_of_length_le (by rw [hfl,h7];exact Nat.le_refl _)]
 intro K Q hK
 unfold Oper.wp execOp
 simp only [ho,Sem.run_bind,hrun,Result.andThen_ok,Sem.run_pure,Oper.upon]
 exact hK _ _ _ (row_new r hd hf hm hb own h6 rfl) (hb.mono r.hi)
theorem own_rt {ty k:Nat} {v:Value} {es:List (Cl k)} {xs:List (List Tr)} {G:Nat→Prop} (h1:w.ownsRow n0 ty k v es.length (es.flatMap Subtype.val)) (hl:es.length=xs.length) (hG:∀ g,v.ownBlock=some g→g < w.heap.size→G g) (hel:∀ (j:Nat) (x:Cl k) ts,es[j]? = some x→xs[j]? = some ts→RTL G w x.1 ts):RT G w v (.sl k xs):=by
 obtain ⟨ao,cap,h4,h5,h6⟩:=row_len h1
 by_cases hx:xs=[]
 ·have:es=[]:=List.eq_nil_of_length_eq_zero (by rw [hl,hx];rfl)
  subst this
  rw [hx,h4]
  exact .slNil h6
 ·have hp:0 < es.length:=by rw [hl];exact List.length_pos_iff.2 hx
  obtain ⟨g,cap',cur,e1,_,hgg,hc,_⟩:=own_at h1 (List.getElem?_eq_getElem hp)
  have hlt:=(Array.getElem?_eq_some_iff.1 hgg).1
  refine e1▸.slSome hl hc (hG g (by rw [e1];rfl) hlt) hlt (RTE.mk _ _ fun j ts hj=>?_)
  have hj2:j < es.length:=by rw [hl];exact (List.getElem?_eq_some_iff.1 hj).1
  have hex:=List.getElem?_eq_getElem hj2
  obtain ⟨g2,_,_,e2,_,_,_,_,_,_,h8⟩:=own_at h1 hex
  rw [e1] at e2
  simp only [Value.slice.injEq,Option.some.injEq,Addr.mk.injEq] at e2
  obtain ⟨⟨rfl,_⟩,_,_⟩:=e2
  exact ⟨_,Cl.len _,fun i u hu=>by rw [Nat.zero_add];exact h8 i u hu,hel j _ ts hex hj⟩
theorem ow_rt {q:BRole} {ty k:Nat} {v:Value} {xs:List (List Tr)} {G:Nat→Prop} (h:Ow E w n0 q ty k v xs) (hG:∀ b,b < w.heap.size→E.rl b=.cold∨E.rl b=q→G b):RT G w v (.sl k xs):=by
 obtain ⟨es,h1,h2,h3⟩:=h
 exact own_rt h1 h2.len (fun g hg hlt=>hG g hlt (.inr (h3 g hg))) fun j x ts q1 q2=>(h2.at_ j x ts q1 q2).frame (Nat.le_refl _) (fun _ _ _=>rfl) fun b hb hlt=>hG b hlt (.inl hb)
theorem row_rt {τ:Nat} {R:Row} {G:Nat→Prop} (h:RR E w n0 τ R) (hs:R.shut=true) (hG:∀ b,b < w.heap.size→E.rl b=.cold∨(E.rl b=.rw τ∨∃ j o,E.rl b=.nst τ j o)→G b):RT G w (E.vl τ R.ver) R.tr:=by
 cases hM:R.isM with
 | true=>
  rw [show R.tr=.mp R.xs by simp only [Row.tr,hM]]
  rcases h.mp hM with ⟨e1,e2⟩|⟨g,es,clock,e1,_,e3,e4,e5⟩
  ·rw [e1,e2]
   exact .mp0
  rw [e1]
  exact .mp e3 e4 (hG g (Array.getElem?_eq_some_iff.1 e3).1 (.inr (.inr ⟨0,0,e5⟩)))
 | false=>
 rw [show R.tr=.sl R.k R.xs by simp only [Row.tr,hM]]
 cases hd:R.dp with
 | none=>exact ow_rt (h.ow hd) fun b hb h=>hG b hb (h.imp id .inl)
 | some d=>
  have hl:=shut_ln hs hd
  obtain ⟨es,h1,h2,h3⟩:=h.rd hd (by unfold Row.isM at hM;rw [hd] at hM;exact hM)
  refine own_rt h1 h2.len (fun g hg hlt=>hG g hlt (.inr (.inl (h3 g hg)))) fun j x ts q1 q2=>(a2_of (by rw [x.len];exact (h2.ln j x ts q1 q2).symm) fun o u t q3 q4=>?_).rtl
  obtain ⟨_,h5⟩:=h2.at_ j x ts q1 q2 o u t q3 q4
  obtain ⟨h6,h7⟩:=h5 (fun ρ u=>by rw [hl];exact List.not_mem_nil)
  by_cases hin:∃ ty k,(o,ty,k)∈d.D∧j < d.c
  ·obtain ⟨ty,k,p1,p2⟩:=hin
   obtain ⟨xs,rfl,p4⟩:=h6 ty k p1 p2
   exact ow_rt p4 fun b hb h=>hG b hb (h.imp id fun h=>.inr ⟨j,o,h⟩)
  ·exact (h7 fun ty k p1 p2=>hin ⟨ty,k,p1,p2⟩).frame (Nat.le_refl _) (fun _ _ _=>rfl) fun b hb hlt=>hG b hlt (.inl hb)
def Env.co (E:Env):Env:=⟨fun b=>match E.rl b with
 | .rw _=>.cold
 | .nst _ _ _=>.cold
 | .bx _=>.cold
 | x=>x,E.bk,E.vl⟩
def AllCo (E E0:Env):Prop:=(∀ b τ,(E.rl b=.rw τ∨∃ j o,E.rl b=.nst τ j o)→E0.rl b=.cold)∧∀ b i,E.rl b=.bx i→E0.rl b=.cold
theorem fitC_rc {E0:Env} (r:RepM O E w n0 N m st a) (hc:∀ b,E.rl b=.cold→E0.rl b=.cold) {v:Value} {x y:Ce} (hr:x.rids=[]∨∀ b τ,(E.rl b=.rw τ∨∃ j o,E.rl b=.nst τ j o)→E0.rl b=.cold) (h:FitC st x y) (hv:RC E w v x):RC E0 w v y:=by
 unfold FitC at h
 split at h
 ·subst h
  exact RT.frame (Nat.le_refl _) (fun _ _ _=>rfl) (fun b hb _=>hc b hb) hv
 ·obtain ⟨k,rfl⟩:=h
  rw [show v=_ from hv]
  exact .slNil fun _=>rfl
 ·exact hv
 ·rename_i τ ver y
  split at h
  ·rename_i R hR
   obtain ⟨rfl,h⟩:=h
   obtain ⟨hsh,rfl⟩:=bi_elim h
   rw [hv.1]
   rcases hr with hr|hr
   ·cases hr
   ·exact row_rt (r.row τ R hR) hsh (fun b _ h=>by
     rcases h with h|h
     ·exact hc b h
     ·exact hr b τ h)
  ·exact h.elim
 ·exact h.elim
theorem fitL_a2 {E0:Env} (r:RepM O E w n0 N m st a) (hc:∀ b,E.rl b=.cold→E0.rl b=.cold):∀ {vs:List Value} {xs ys:List Ce},(xs.flatMap Ce.rids=[]∨∀ b τ,(E.rl b=.rw τ∨∃ j o,E.rl b=.nst τ j o)→E0.rl b=.cold)→FitL st xs ys→A2 (RC E w) vs xs→A2 (RC E0 w) vs ys
 | _,[],[],_,_,.nil=>.nil
 | _,x :: xs,y :: ys,hr,h,.cons h1 h2=>by
  have hr':(x.rids=[]∨∀ b τ,(E.rl b=.rw τ∨∃ j o,E.rl b=.nst τ j o)→E0.rl b=.cold)∧(xs.flatMap Ce.rids=[]∨∀ b τ,(E.rl b=.rw τ∨∃ j o,E.rl b=.nst τ j o)→E0.rl b=.cold):=by
   rcases hr with hr|hr
   ·rw [List.flatMap_cons,List.append_eq_nil_iff] at hr
    exact ⟨.inl hr.1,.inl hr.2⟩
   ·exact ⟨.inr hr,.inr hr⟩
  exact .cons (fitC_rc r hc hr'.1 h.1 h1) (fitL_a2 r hc hr'.2 h.2 h2)
 | _,[],_ :: _,_,h,_=>h.elim
 | _,_ :: _,[],_,h,_=>h.elim
theorem fitV_ri {E0:Env} (r:RepM O E w n0 N m st a) (hc:∀ b,E.rl b=.cold→E0.rl b=.cold) (hr:AllCo E E0):∀ {cs:List (Nat × Nat)} {ds:List (List Tr × Nat)},FitV st cs ds→A2 (fun u (c:List Tr × Nat)=>RI E0 w u c.1 c.2) (cs.map (capV E)) ds
 | [],[],_=>.nil
 | (b,o) :: cs,(ys,o') :: ds,h=>by
  obtain ⟨⟨rfl,h1⟩,h2⟩:=h
  refine .cons ?_ (fitV_ri r hc hr h2)
  split at h1
  ·rename_i us hus
   obtain ⟨vs,t,_,hb,hrl,ha⟩:=r.box b us hus
   exact ⟨E.bk b,0,vs,by rw [Nat.zero_add];rfl,hr.2 _ _ hrl,hb.lt,fun i u hu=>by
    rw [Nat.zero_add,cell_of_row _ _ _ _ _ _ hb]
    simpa using hu,(plainT_rtl h1 ha).frame (Nat.le_refl _) (fun _ _ _=>rfl) (fun b hb _=>hc b hb)⟩
  ·exact h1.elim
 | [],_ :: _,h=>h.elim
 | _ :: _,[],h=>h.elim
theorem fit_r1 {E0:Env} (r:RepM O E w n0 N m st a) (hc:∀ b,E.rl b=.cold→E0.rl b=.cold) {v:Value} {x y:AV} (hr:(x.rids=[]∧x.bids=[])∨AllCo E E0) (h:Fit st x y) (hv:RV E w v x):R1 E0 w v y:=by
 unfold Fit at h
 split at h
 ·exact fitC_rc r hc (hr.imp (·.1) (·.1)) h hv
 ·obtain ⟨vs,rfl,ha⟩:=hv
  exact ⟨vs,rfl,fitL_a2 r hc (hr.imp (·.1) (·.1)) h ha⟩
 ·exact hv
 ·obtain ⟨rfl,rfl⟩:=h
  obtain ⟨g,p,vs,rfl,h1,h2,h3,h4⟩:=hv
  exact ⟨g,p,vs,rfl,hc g h1,h2,h3,h4.frame (Nat.le_refl _) (fun _ _ _=>rfl) (fun b hb _=>hc b hb)⟩
 ·rename_i b o ys o'
  rcases hr with hr|hr
  ·cases hr.2
  ·cases fitV_ri r hc hr h with
   | cons h1 _=>
    rw [show v=capV E (b,o) from hv]
    exact h1
 ·obtain ⟨rfl,rfl⟩:=h
  obtain ⟨us,rfl,h⟩:=hv
  refine ⟨us,rfl,h.imp fun u c _ h=>?_⟩
  obtain ⟨g,p,vs,rfl,h1,h2,h3,h4⟩:=h
  exact ⟨g,p,vs,rfl,hc g h1,h2,h3,h4.frame (Nat.le_refl _) (fun _ _ _=>rfl) (fun b hb _=>hc b hb)⟩
 ·rename_i f cs g ds
  obtain ⟨rfl,h⟩:=h
  rcases hr with hr|hr
  ·have hcs:cs=[]:=by simpa [AV.bids,AV.bid1] using hr.2
   subst hcs
   cases ds with
   | nil=>exact ⟨[],hv,.nil⟩
   | cons _ _=>exact h.elim
  ·exact ⟨_,hv,fitV_ri r hc hr h⟩
 ·exact h.elim
theorem fits_a2 {E0:Env} (r:RepM O E w n0 N m st a) (hc:∀ b,E.rl b=.cold→E0.rl b=.cold):∀ {vs:List Value} {xs ys:List AV},(noRw xs=true∨AllCo E E0)→Fits st xs ys→A2 (RV E w) vs xs→A2 (R1 E0 w) vs ys
 | _,[],[],_,_,.nil=>.nil
 | _,x :: xs,y :: ys,hr,h,.cons h1 h2=>by
  have hr':((x.rids=[]∧x.bids=[])∨AllCo E E0)∧(noRw xs=true∨AllCo E E0):=by
   rcases hr with hr|hr
   ·unfold noRw at hr
    rw [List.all_cons,Bool.and_eq_true,Bool.and_eq_true,List.isEmpty_iff,List.isEmpty_iff] at hr
    exact ⟨.inl hr.1,.inl hr.2⟩
   ·exact ⟨.inr hr,.inr hr⟩
  exact .cons (fit_r1 r hc hr'.1 h.1 h1) (fits_a2 r hc hr'.2 h.2 h2)
 | _,[],_ :: _,_,h,_=>h.elim
 | _,_ :: _,[],_,h,_=>h.elim
theorem evs_a2 (r:RepM O E w n0 N m st a):∀ (xs:List Operand),A2 (RV E w) (xs.map a.eval) (xs.map (ev st))
 | []=>.nil
 | x :: xs=>.cons (ev_rv r x) (evs_a2 r xs)
theorem callA_rv (r:RepM O E w n0 N m st a) {f:Operand} {xs:List Operand} {g:Nat} {vs:List AV} (h:callA (xs.map (ev st)) (ev st f)=some (g,vs)):∃ us:List Value,a.eval f=.func (.func g) #[] us.toArray∧A2 (RV E w) (xs.map a.eval++us) vs:=by
 have hf:=ev_rv r f
 unfold callA at h
 split at h
 ·rename_i g' caps e
  cases h
  rw [e] at hf
  refine ⟨_,hf,(evs_a2 r xs).append ?_⟩
  have:∀ cs:List (Nat × Nat),A2 (RV E w) (cs.map (capV E)) (cs.map fun c=>AV.ptr c.1 c.2):=fun cs=>by
   induction cs with
   | nil=>exact .nil
   | cons c cs ih=>exact .cons rfl ih
  exact this caps
 ·rename_i g' caps e
  cases h
  rw [e] at hf
  obtain ⟨us,h1,h2⟩:=hf
  refine ⟨us,h1,(evs_a2 r xs).append ?_⟩
  have:∀ {us:List Value} {cs:List (List Tr × Nat)},A2 (fun u (c:List Tr × Nat)=>RI E w u c.1 c.2) us cs→A2 (RV E w) us (cs.map fun c=>AV.iptr c.1 c.2):=fun {us cs} h=>by
   induction h with
   | nil=>exact .nil
   | cons h1 _ ih=>exact .cons h1 ih
  exact this h2
 ·cases h
theorem lk_numR (id:Nat):∀ (rs:List Row) (j i:Nat),lk (numR id j rs) i=if id+j≤i then rs[i - (id+j)]? else none
 | [],j,i=>by simp [numR,lk]
 | R :: rs,j,i=>by
  rw [numR,lk_cons,lk_numR id rs (j+1) i]
  by_cases h:id+j=i
  ·subst h
   simp
  ·rw [if_neg h]
   by_cases h2:id+j≤i
   ·rw [if_pos h2,if_pos (by omega),show i - (id+j)=i - (id+(j+1))+1 by omega,List.getElem?_cons_succ]
   ·rw [if_neg h2,if_neg (by omega)]
theorem ren_bids1 (r:AV):(r.ren1 id).bid1=[]:=by cases r <;> rfl
theorem ren_bids (r:AV):(r.ren id).bids=[]:=by
 cases r with
 | tup ars=>
  show ((ars.map (AV.ren1 id)).flatMap AV.bid1)=[]
  induction ars with
  | nil=>rfl
  | cons a ars ih=>rw [List.map_cons,List.flatMap_cons,ih,ren_bids1];rfl
 | _=>rfl
theorem renC_rids {c:Ce} {p:Nat × Nat} (h:p∈(c.ren id).rids):∃ q∈c.rids,p=(id+q.1,q.2):=by
 cases c with
 | row τ ver=>
  obtain rfl:p=(id+τ,ver):=by simpa [Ce.ren,Ce.rids] using h
  exact ⟨(τ,ver),List.mem_cons_self,rfl⟩
 | _=>cases h
theorem ren1_rids {r:AV} {p:Nat × Nat} (h:p∈(r.ren1 id).rid1):∃ q∈r.rid1,p=(id+q.1,q.2):=by
 cases r with
 | c x=>exact renC_rids h
 | agg xs=>
  obtain ⟨c,hc,hp⟩:=List.mem_flatMap.1 (show p∈(xs.map (Ce.ren id)).flatMap Ce.rids from h)
  obtain ⟨x,hx,rfl⟩:=List.mem_map.1 hc
  obtain ⟨q,hq,e⟩:=renC_rids hp
  exact ⟨q,List.mem_flatMap.2 ⟨x,hx,hq⟩,e⟩
 | _=>cases h
theorem ren_rids {r:AV} {p:Nat × Nat} (h:p∈(r.ren id).rids):∃ q∈r.rids,p=(id+q.1,q.2):=by
 cases r with
 | tup ars=>
  obtain ⟨c,hc,hp⟩:=List.mem_flatMap.1 (show p∈(ars.map (AV.ren1 id)).flatMap AV.rid1 from h)
  obtain ⟨x,hx,rfl⟩:=List.mem_map.1 hc
  obtain ⟨q,hq,e⟩:=ren1_rids hp
  exact ⟨q,List.mem_flatMap.2 ⟨x,hx,hq⟩,e⟩
 | c x=>exact ren1_rids (r:=.c x) h
 | agg xs=>exact ren1_rids (r:=.agg xs) h
 | ptr b o=>exact ren1_rids (r:=.ptr b o) h
 | iptr b o=>exact ren1_rids (r:=.iptr b o) h
 | eptr a b c d e=>cases h
 | sub a b c d=>cases h
 | nilp=>cases h
 | fn f c=>cases h
 | fnI f c=>cases h
 | bot=>cases h
def Env.cl (E E':Env) (g i:Nat):Env:=⟨fun b=>if b < g then E.rl b else (match E'.rl b with
 | .cold=>.cold
 | .rw j=>.rw (i+j)
 | .nst j x y=>.nst (i+j) x y
 | _=>.non),E.bk,fun τ ver=>if i≤τ∧τ < i+128 then E'.vl (τ - i) ver else E.vl τ ver⟩
theorem done_call (r:RepM O E w n0 N m st a) {o:Oper} (hd:∀ x,o.dst=some x→x < N) (hf:Fresh st id) (hm:id+128≤m) {f:Operand} {args:Array Operand} {tys:Array TypeId} {g:Nat} {ars:List AV} {rv:AV} {rs:List Row} {fresh:Bool} (ho:o.op=.call ⟨.value f,args,tys⟩) {vs:List AV} (hfn:callA (args.toList.map (ev st)) (ev st f)=some (g,vs)) (hfit:Fits st vs ars) (ct:Ct P g ars rv rs fresh) (hal:fresh=true∨noRw vs=true) :
  Done P O o a w n0 N m st ⟨rv.ren id,[],numR id 0 rs⟩:=by
 obtain ⟨cv,hfv,hargs⟩:=callA_rv r hfn
 obtain ⟨E0,hE0,hE1,hE2⟩:∃ E0:Env,(∀ b,E.rl b=.cold→E0.rl b=.cold)∧(noRw vs=true∨AllCo E E0)∧(fresh=false→∀ b,E0.rl b=.cold→E.rl b=.cold):=by
  rcases hal with h|h
  ·exact ⟨E.co,fun b hb=>by unfold Env.co;simp only [hb],.inr ⟨fun b τ hb=>by
   rcases hb with hb|⟨j,o,hb⟩
   ·unfold Env.co;simp only [hb]
   ·unfold Env.co;simp only [hb],fun b τ hb=>by unfold Env.co;simp only [hb]⟩,fun hq=>by rw [h] at hq;cases hq⟩
  ·exact ⟨E,fun _ h=>h,.inl h,fun _ _ h=>h⟩
 have ha:=fits_a2 r hE0 hE1 hfit hargs
 have e1:(args.toList.map a.eval++cv).toArray=args.map a.eval++cv.toArray:=Array.toList_inj.1 (by simp)
 have hrun:(execOp a.eval o).run P w=.ok (.enter g (args.map a.eval++cv.toArray)) w:=by
  unfold execOp
  simp only [ho,resolve,hfv,Deferred.ofValue,Sem.run_bind,Sem.run_pure,Result.andThen_ok,invoke]
  have:=ct.ent (#[]++args.map a.eval++cv.toArray) w
  rw [this]
  simp
 intro K Q hK
 unfold Oper.wp
 rw [hrun]
 show Calls P g (args.map a.eval++cv.toArray) w _
 rw [← e1]
 refine (ct.run w _ E0 ha).mono ?_
 rintro e w' ⟨v,rfl,hb,E',hr,hrow,hcold⟩
 have hfz:=fun i h1 h2=>(hf i h1 h2)
 have mv:Mv st E w (E.cl E' w.heap.size id) w' (fun i=>∃ cs',lk ([]:List (Nat × List Ce)) i=some cs') (fun τ=>∃ R,lk (numR id 0 rs) τ=some R):=
  Mv.below hb (fun b hlt=>by simp only [Env.cl,if_pos hlt]) (fun _ _ _=>rfl) (fun τ R v hτ _=>by
   simp only [Env.cl]
   rw [if_neg (fun e=>by rw [(hfz τ e.1 e.2).2] at hτ;cases hτ)])
 have hcf:∀ b,E'.rl b=.cold→(E.cl E' w.heap.size id).rl b=.cold:=fun b hc=>by
  simp only [Env.cl]
  split
  ·rename_i hlt
   obtain ⟨h1,h2⟩:=hcold b hlt hc
   exact hE2 h1 b h2
  ·rw [hc]
 have fr:∀ {v t},RT E'.F w' v t→RT (E.cl E' w.heap.size id).F w' v t:=fun h=>h.frame (Nat.le_refl _) (fun _ _ _=>rfl) (fun b hb _=>hcf b hb)
 have frl:∀ {v t},RTL E'.F w' v t→RTL (E.cl E' w.heap.size id).F w' v t:=fun h=>h.frame (Nat.le_refl _) (fun _ _ _=>rfl) (fun b hb _=>hcf b hb)
 have vle:∀ j ver,j < 128→(E.cl E' w.heap.size id).vl (id+j) ver=E'.vl j ver:=fun j ver hj=>by
  simp only [Env.cl]
  rw [if_pos ⟨by omega,by omega⟩,Nat.add_sub_cancel_left]
 have few:∀ q∈rv.rids,q.1 < 128:=fun q hq=>by
  obtain ⟨R,h1,_⟩:=ct.rid q hq
  have:=(List.getElem?_eq_some_iff.1 h1).1
  have:=ct.few
  omega
 have rcr:∀ {v c},(∀ q∈Ce.rids c,q.1 < 128)→RC E' w' v c→RC (E.cl E' w.heap.size id) w' v (c.ren id):=fun {v c} hq h=>by
  cases c with
  | t x=>exact fr h
  | nil=>exact h
  | row τ ver=>exact ⟨h.1.trans (vle τ ver (hq _ List.mem_cons_self)).symm,h.2⟩
  | bot=>exact h
 have a2r:∀ {vs cs},(∀ q∈cs.flatMap Ce.rids,q.1 < 128)→A2 (RC E' w') vs cs→A2 (RC (E.cl E' w.heap.size id) w') vs (cs.map (Ce.ren id)):=fun {vs cs} hq h=>by
  induction h with
  | nil=>exact .nil
  | cons h1 _ ih=>
   rw [List.flatMap_cons] at hq
   exact .cons (rcr (fun q h=>hq q (List.mem_append_left _ h)) h1) (ih (fun q h=>hq q (List.mem_append_right _ h)))
 have r1r:∀ {v x},(∀ q∈AV.rid1 x,q.1 < 128)→R1 E' w' v x→R1 (E.cl E' w.heap.size id) w' v (x.ren1 id):=fun {v x} hq h=>by
  cases x with
  | c x=>exact rcr hq h
  | agg xs=>
   obtain ⟨vs,rfl,h⟩:=h
   exact ⟨vs,rfl,a2r hq h⟩
  | nilp=>exact h
  | tup ars=>exact h.elim
  | _=>exact trivial
 refine hK (E.cl E' w.heap.size id) v w' (r.app hd mv ⟨fun τ R R' e1 e2=>?_,fun b hb=>?_,fun p hp=>.inr ?_,fun _ _ h=>(by cases h),fun τ R h=>?_,fun τ R d' h hd' l hl=>?_⟩ ?_ (fun _ _ h=>by cases h) (fun τ R h=>?_)) (hb.mono r.hi)
 ·rw [lk_numR] at e2
  split at e2
  ·rename_i hle
   have h1:=(List.getElem?_eq_some_iff.1 e2).1
   have:=ct.few
   rw [(hfz τ (by omega) (by omega)).2] at e1
   cases e1
  ·cases e2
 ·rw [show (Dl.v ⟨rv.ren id,[],numR id 0 rs⟩).bids=[] from ren_bids rv] at hb
  cases hb
 ·obtain ⟨q,hq,rfl⟩:=ren_rids hp
  obtain ⟨R,h1,h2⟩:=ct.rid q hq
  refine ⟨R,?_,h2⟩
  rw [lk_numR,if_pos (by omega),show id+q.1 - (id+0)=q.1 by omega]
  exact h1
 ·rw [lk_numR] at h
  split at h
  ·rename_i hle
   have h1:=(List.getElem?_eq_some_iff.1 h).1
   have:=ct.few
   omega
  ·cases h
 ·rw [lk_numR] at h
  split at h
  ·rw [shut_ln (ct.shut R (List.mem_of_getElem? h)) hd'] at hl
   cases hl
  ·cases h
 ·show RV _ w' v (rv.ren id)
  cases rv with
  | tup ars=>
   obtain ⟨vs,rfl,h⟩:=hr
   refine ⟨vs,rfl,?_⟩
   have:∀ {vs:List Value} {ars:List AV},(∀ q∈ars.flatMap AV.rid1,q.1 < 128)→A2 (R1 E' w') vs ars→A2 (R1 (E.cl E' w.heap.size id) w') vs (ars.map (AV.ren1 id)):=fun {vs ars} hq h=>by
    induction h with
    | nil=>exact .nil
    | cons h1 _ ih=>
     rw [List.flatMap_cons] at hq
     exact .cons (r1r (fun q h=>hq q (List.mem_append_left _ h)) h1) (ih (fun q h=>hq q (List.mem_append_right _ h)))
   exact this few h
  | c x=>exact (r1r (x:=.c x) few hr).rv
  | agg x=>exact (r1r (x:=.agg x) few hr).rv
  | nilp=>exact (r1r (x:=.nilp) few hr).rv
  | _=>exact trivial
 ·rw [lk_numR] at h
  split at h
  ·rename_i hle
   have hj:=h
   have h1:=(List.getElem?_eq_some_iff.1 h).1
   have:=ct.few
   obtain ⟨j,rfl⟩:∃ j,τ=id+j:=⟨τ - id,by omega⟩
   rw [show id+j - (id+0)=j by omega] at hj h1
   refine (hrow j R hj).to r.hi rfl rfl rfl rfl (ct.shut R (List.mem_of_getElem? hj)) (vle j R.ver (by omega)) (fun b hb _=>hcf b hb) (fun b h6 _ h7=>?_) fun b x y h6 _ h7=>?_
   ·simp only [Env.cl]
    rw [if_neg (by omega),h7]
   ·simp only [Env.cl]
    rw [if_neg (by omega),h7]
  ·cases h
end
end
end Cg
end
