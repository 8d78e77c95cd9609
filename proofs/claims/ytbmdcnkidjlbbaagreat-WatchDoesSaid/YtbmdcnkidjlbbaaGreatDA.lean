/- Parts of the proof, joined: . -/
import Derived.WalkKit
import Derived.Lib.Hide
import Derived.Maps.AppendAt
import Derived.Laws.Strings
import Derived.Lib.OwnBridge
import Derived.Sort.OwnSortedInts
import Derived.WalkSmall
import Derived.Laws.AppendOwnNone
import Derived.Deep.Fields
import Derived.Deep.Slices
import Derived.OpenShut
import Derived.DeepKeys
import Derived.Orders
import Derived.Deep.MidRow
import Derived.Laws.Slices
import Derived.Laws.StructEq
import Derived.Laws.Tables
import Derived.Lib.AppendZeros
import Derived.Great.BuildSlice
open True renaming intro->ea
open List renaming getElem?_eq_getElem->ag,length_append->al,getElem?_eq_some_iff->an,length_cons->aZ,length_take->au,length_nil->bM,mem_cons_self->aB,getElem_mem->aH,mem_cons_of_mem->aM,length_drop->aO,take_succ_eq_append_getElem->aS,append_nil->aW,mem_of_getElem?->bc,mem_append->bh,getElem?_append_right->bm,getElem?_append_left->bz,nil_append->bE,getElem?_map->bI,mem_map->bL,length_set->bQ,mem_append_left->bR,mem_append_right->bT,map_cons->bW,flatMap_cons->bZ,append_assoc->b9,drop_eq_getElem_cons->cd
open Bool renaming and_eq_true->ah,not_eq_true'->cu,or_eq_true->cC
open Nat renaming eq_of_beq_eq_true->ai,le_refl->ak,zero_le->aA,le_trans->aX,zero_add->bw,mul_le_mul_right->cy,lt_of_lt_of_le->cA,add_zero->dm
open Option.some renaming inj->aY
open Array renaming length_toList->bP,getElem?_toList->dF
open Go
theorem Ai {a b : Prop}(x : a)(y : b) : a /\ b := ⟨x, y⟩
theorem Ei.{u}{α : Sort u}{p : α -> Prop}(w : α)(h : p w) : Exists p := ⟨w, h⟩
theorem Lm.{u, v}{α : Type u}{β : Type v}{ls : List α}(f : α -> β) : (ls.map f).length = ls.length := List.length_map f
theorem oM {p : Prop}(h : p := by omega) : p := h
theorem dE {p : Prop}(h : p := by decide) : p := h
theorem Nb {a b : Nat}(h : Nat.ble a b = true) : a <= b := Nat.le_of_ble_eq_true h
set_option maxRecDepth 100000
set_option maxHeartbeats 4000000
namespace Cg
section
open Go Go.RowKit
theorem vy {k:IntKind}{a b:Int}(h:a=b):Ending.returned (.int k a)=.returned (.int k b):=by rw[h]
theorem eU {a b:Bool}(h:a=b):Ending.returned (.bool a)=.returned (.bool b):=by rw[h]
def yg (P:Program)(t e:TypeId)(z:Value)(size bytes:Nat):Prop:=
 P.underlying t=some (.slice e)/\z.cells.size=size/\0 < size/\∃ i,P.info? e=some i/\i.zero=some z/\i.size=size/\i.bytes=bytes
theorem Ay (w:World)(us:List Value)(t:TypeId):∀ (j:Nat) u,us[j]? = some u->(w.alloc (.cells us.toArray t)).cell? ((⟨w.heap.size,0,none⟩:Addr).add j)=some u:=by
 intro j u hj;have Ri:(⟨w.heap.size,0,none⟩:Addr).add j=⟨w.heap.size,j,none⟩:=by unfold Addr.add;split <;> simp_all
 rw[Ri,cell_of_row _ _ j _ t (0,0) (heap_alloc_new w _)];simpa using hj
theorem Ht {w:World}{base:Nat}{e:TypeId}{size:Nat}{v:Value}{n:Nat}{xs:List Value}(h:w.ownsRow base e size v n xs)(hn:0 < n) :
  ∃ g cap,v=.slice (some ⟨g,0,none⟩) n cap/\base<=g/\g < w.heap.size/\n<=cap/\∀ (j:Nat) u,xs[j]? = some u->w.cell? ⟨g,j,none⟩=some u:=by
 rcases h.2 with⟨_,rfl⟩|⟨g,cap,cur,rfl,hb,hg,hnc,_,_,aiR⟩
 ·omega
 ·refine⟨g,cap,rfl,hb,(Array.getElem?_eq_some_iff.1 hg).1,hnc,fun j u hj=>?_⟩;have:=h.cells (g:=g) rfl j u hj;have Ri:(⟨g,0,none⟩:Addr).add j=⟨g,j,none⟩:=by unfold Addr.add;split <;> simp_all
  rwa [Ri] at this
theorem AE {a b:ByteArray}(h:a.data.toList=b.data.toList):a=b:=by
 cases a with|mk a=>cases b with|mk b=>exact congrArg ByteArray.mk (Array.toList_inj.1 h)
theorem zF {a b:ByteArray}:(a.toList==b.toList)=true↔a=b:=by
 rw[beq_iff_eq,ByteArray.toList_eq,ByteArray.toList_eq];exact⟨AE,fun h=>by rw[h]⟩
theorem tD {a b:ByteArray}(h:a=b):(a.toList==b.toList)=true:=zF.2 h
theorem qj {a b:ByteArray}(h:¬ a=b):(a.toList==b.toList)=false:=by rw[Bool.eq_false_iff];exact fun e=>h (zF.1 e)
theorem AM {P:Program}{w:World}{ops:Array Oper}{rest:List Oper}{o:Oper}{a:Act}{Q:Exit->Act->World->Prop}(vH:o.guard=none)(src dst e:TypeId)(x:Operand)(ho:o.op=.convert src dst x)
  (hs:P.underlying src=some .string) (hd:P.underlying dst=some (.slice e)) (he:P.underlying e=some (.int .u8)) (s:ByteArray) (hx:a.eval x=.string s)
  (h:∀ cap w',s.size<=cap->Below w.heap.size w w'->w'.heap.size=w.heap.size+1->(∀ (j:Nat) (hj:j < s.size),w'.cell? ⟨w.heap.size,j,none⟩=some (.int .u8 ((s[j]'hj).toNat:Int)))->
   wpList P ops Q rest (a.put o.dst (.slice (some ⟨w.heap.size,0,none⟩) s.size cap)) w'):wpList P ops Q (o :: rest) a w:=by
 refine wpList_plain vH fun K hK=>?_;unfold Oper.wp execOp;simp only[ho,hx,Sem.run_bind,run_bytes_of_string w src dst e s hs hd he,Result.andThen_ok,Sem.run_pure,Oper.upon];refine hK _ _ (h _ _ (grownCap_ge w s.size 0 e) (((Below.refl _ _).drew).alloc (ak _) _) ?_ ?_)
 ·show(w.heap.push _).size=_;simp
 ·intro j hj;have hb:(w.drew.alloc (.cells (bytesRow s (grownCap w s.size 0 e)) e ((bytesRow s (grownCap w s.size 0 e)).size,(bytesRow s (grownCap w s.size 0 e)).size+1))).heap[w.heap.size]? = some _:=heap_alloc_new w.drew _;rw[cell_of_row _ _ j _ _ _ hb,bytesRow_at s _ j hj];rfl
end
section
open Go Go.RowKit Go.Sort Go.Lib
section
variable {α:Type}
def gu (enc:α->Value)(w:World)(v:Value)(xs:List α):Prop:=
 ∃ ao cap,v=.slice ao xs.length cap/\(xs.length<=cap/\(ao=none->cap=0))/\(xs=[]\/∃ b o,ao=some ⟨b,o,none⟩/\b < w.heap.size/\∀ (j:Nat) x,xs[j]? = some x->w.cell? ⟨b,o+j,none⟩=some (enc x))
theorem gu.below {enc:α->Value}{w w':World}{v:Value}{xs:List α}(h:gu enc w v xs)(hb:Below w.heap.size w w'):gu enc w' v xs:=by
 obtain⟨ao,cap,rfl,hc,h⟩:=h;refine⟨ao,cap,rfl,hc,?_⟩;rcases h with h|⟨b,o,rfl,aU,hx⟩
 ·exact .inl h
 ·exact .inr ⟨b,o,rfl,cA aU hb.size,fun j x hj=>(hb.cell (p:=⟨b,o+j,none⟩) aU).trans (hx j x hj)⟩
theorem LC {enc:α->Value}{w:World}{base:Nat}{e:TypeId}{v:Value}{xs:List α}(h:w.ownsRow base e 1 v xs.length (xs.map enc)):gu enc w v xs:=by
 by_cases hn:xs=[]
 ·subst hn;rcases h.2 with⟨rfl,_⟩|⟨g,cap,cur,rfl,_,_,hc,_⟩
  ·exact⟨none,0,rfl,⟨ak _,fun _=>rfl⟩,.inl rfl⟩
  ·exact⟨_,cap,rfl,⟨hc,fun h=>by cases h⟩,.inl rfl⟩
 ·obtain⟨g,cap,rfl,_,aU,hc,hx⟩:=Ht h (List.length_pos_iff.2 hn);exact⟨_,cap,rfl,⟨hc,fun h=>by cases h⟩,.inr ⟨g,0,rfl,aU,fun j x hj=>by rw[bw];exact hx j _ (by simp[hj])⟩⟩
theorem zJ (enc:α->Value)(w:World)(xs:List α)(t:TypeId):gu enc (w.alloc (.cells (xs.map enc).toArray t)) (.slice (some ⟨w.heap.size,0,none⟩) xs.length xs.length) xs:=by
 refine⟨_,_,rfl,⟨ak _,fun h=>by cases h⟩,.inr ⟨w.heap.size,0,rfl,?_,fun j x hj=>?_⟩⟩
 ·show w.heap.size < (w.heap.push _).size;simp
 ·rw[bw,cell_of_row _ _ j _ t (0,0) (heap_alloc_new w _)];simp[hj]
theorem gu.form {enc:α->Value}{w:World}{v:Value}{xs:List α}(h:gu enc w v xs):∃ ao cap,v=.slice ao xs.length cap:=by
 obtain⟨ao,cap,rfl,_⟩:=h;exact⟨ao,cap,rfl⟩
theorem gu.cases {enc:α->Value}{w:World}{v:Value}{xs:List α}(h:gu enc w v xs):(xs=[]/\∃ ao cap,v=.slice ao 0 cap)\/
  (¬ xs=[]/\∃ b o cap,v=.slice (some ⟨b,o,none⟩) xs.length cap/\xs.length<=cap/\b < w.heap.size/\∀ (j:Nat) x,xs[j]? = some x->w.cell? ⟨b,o+j,none⟩=some (enc x)):=by
 obtain⟨ao,cap,rfl,hc,h⟩:=h
 by_cases hx:xs=[]
 ·subst hx;exact .inl ⟨rfl,ao,cap,rfl⟩
 ·rcases h with h|⟨b,o,rfl,aU,jh⟩
  ·exact absurd h hx
  ·exact .inr ⟨hx,b,o,cap,rfl,hc.1,aU,jh⟩
theorem xW {enc:α->Value}{w:World}{b o:Nat}{xs:List α}(z:α)(h:∀ (j:Nat) x,xs[j]? = some x->w.cell? ⟨b,o+j,none⟩=some (enc x)):∀ j,j < xs.length->w.cell? ⟨b,o+j,none⟩=some (enc (xs.getD j z)):=by
 intro j hj;rw[List.getD_eq_getElem?_getD,ag hj];exact h j _ (ag hj)
theorem Mi {w w':World}{B e size n:Nat}{v:Value}{xs:List Value}(h:w.ownsRow B e size v n xs)(hb:Below w.heap.size w w'):w'.ownsRow B e size v n xs:=by
 refine⟨h.1,?_⟩;rcases h.2 with hn|⟨g,cap,cur,rfl,hg,yl,rest⟩
 ·exact .inl hn
 ·exact .inr ⟨g,cap,cur,rfl,hg,by rw[hb.block g (Array.getElem?_eq_some_iff.1 yl).1];exact yl,rest⟩
theorem JR {w:World}{B B' e size n:Nat}{v:Value}{xs:List Value}(h:w.ownsRow B e size v n xs)(hb:B'<=B):w.ownsRow B' e size v n xs:=by
 refine⟨h.1,?_⟩;rcases h.2 with hn|⟨g,cap,cur,rfl,hg,rest⟩
 ·exact .inl hn
 ·exact .inr ⟨g,cap,cur,rfl,by omega,rest⟩
theorem x9 {B:Nat}{w0 w:World}(h:Below B w0 w)(hB:B<=w.heap.size)(os:Array Obj):Below B w0 (grow w os):=
 ⟨h.os,h.tape,h.output,by show w0.heap.size<=(w.heap++os).size;rw[Array.size_append];have:=h.size;omega,fun k hk=>by
  rw[heap_grow_old w os (by omega)];exact h.block k hk⟩
def SG (k:Nat)(enc:α->List Value)(w:World)(v:Value)(xs:List α):Prop:=
 ∃ ao cap,v=.slice ao xs.length cap/\(xs.length<=cap/\(ao=none->cap=0))/\(xs=[]\/∃ b o,ao=some ⟨b,o,none⟩/\b < w.heap.size/\∀ (j:Nat) x,xs[j]? = some x->∀ (i:Nat) u,(enc x)[i]? = some u->w.cell? ⟨b,o+j*k+i,none⟩=some u)
theorem SG.below {k:Nat}{enc:α->List Value}{w w':World}{v:Value}{xs:List α}(h:SG k enc w v xs)(hb:Below w.heap.size w w'):SG k enc w' v xs:=by
 obtain⟨ao,cap,rfl,hc,h⟩:=h;refine⟨ao,cap,rfl,hc,?_⟩;rcases h with h|⟨b,o,rfl,aU,hx⟩
 ·exact .inl h
 ·exact .inr ⟨b,o,rfl,cA aU hb.size,fun j x hj i u hu=>(hb.cell (p:=⟨b,o+j*k+i,none⟩) aU).trans (hx j x hj i u hu)⟩
theorem flat_get {k:Nat}{enc:α->List Value}(hk:∀ x,(enc x).length=k):∀ (xs:List α) (j:Nat) x,xs[j]? = some x->∀ (i:Nat),i < k->(xs.flatMap enc)[j*k+i]? = (enc x)[i]?
 | [],j,x,h,_,_=>by simp at h
 | y :: xs,0,x,h,i,hi=>by
  obtain rfl:y=x:=by simpa using h
  rw[bZ,Nat.zero_mul,bw,bz (by rw[hk];exact hi)]
 | y :: xs,j+1,x,h,i,hi=>by
  have ih:=flat_get hk xs j x (by simpa using h) i hi;rw[bZ,bm (by rw[hk,Nat.add_mul];omega),hk,show(j+1)*k+i - k=j*k+i by rw[Nat.add_mul];omega];exact ih
theorem fO {k:Nat}{enc:α->List Value}(hk:∀ x,(enc x).length=k)(xs:List α):(xs.flatMap enc).length=xs.length*k:=by
 induction xs with
 | nil=>simp
 | cons x xs ih=>rw[bZ,al,ih,hk,aZ,Nat.add_mul];omega
theorem iT {P:Program}{w:World}{ops:Array Oper}{rest:List Oper}{o:Oper}{a:Act}{Q:Exit->Act->World->Prop}(vH:o.guard=none)(s x:Operand)(t:TypeId)
  (ho:o.op=.call { callee:=.builtin .append,args:=#[s,x],argTypes:=#[t,t] })
  (base:Nat) {e:TypeId} {z:Value} {k bytes:Nat} (hE:yg P t e z k bytes)
  (v:Value) (n:Nat) (xs:List Value) (hs:a.eval s=v) (iB:w.ownsRow base e k v n xs)
  (enc:α->List Value) (hk:∀ x,(enc x).length=k) (h1:∀ y,∀ u∈enc y,u.oneCell'=true) (ys:List α) (vx:Value) (hx:a.eval x=vx) (hr:SG k enc w vx ys)
  (hn:(n+ys.length)*bytes<=140737488355328) (vF:n+ys.length < 140737488355328) (KG:base<=w.heap.size)
  (h:∀ v' w',w'.ownsRow base e k v' (n+ys.length) (xs++ys.flatMap enc)->w.grownBy w' v.ownBlock->Below base w w'->wpList P ops Q rest (a.put o.dst v') w') :
  wpList P ops Q (o :: rest) a w:=by
 obtain⟨ht,hzs,lY,i,hi,hz,KB,MX⟩:=hE;obtain⟨ao,cap,rfl,⟨hc,Fb⟩,hr⟩:=hr
 cases ao with
 | none=>
  have Cq:=Fb rfl;subst Cq;have hy:ys=[]:=List.eq_nil_of_length_eq_zero (by omega);subst hy;refine wpList_append_own_none vH s x t ho base e i k ht hi v n xs hs iB hx (h v w ?_ ⟨rfl,rfl,rfl,ak _,fun _ _ _=>rfl⟩ (Below.refl _ _));simpa using iB
 | some ad=>
  have qA:∀ (j:Nat) u,(ys.flatMap enc)[j]? = some u->w.cell? (ad.add j)=some u:=by
   intro j u hj;rcases hr with rfl|⟨b,oo,hao,_,jh⟩
   ·simp at hj
   ·cases hao
    have oY:=(an.1 hj).1;rw[fO hk] at oY;have hq:j / k < ys.length:=Nat.div_lt_of_lt_mul (by rw[Nat.mul_comm];exact oY);have hm:j % k < k:=Nat.mod_lt _ lY;have ha:(⟨b,oo,none⟩:Addr).add j=⟨b,oo+j,none⟩:=by unfold Addr.add;split <;> simp_all
    have Q9:j=j / k*k+j % k:=by rw[Nat.mul_comm];exact(Nat.div_add_mod j k).symm
    have hg:=flat_get hk ys (j / k) _ (ag hq) (j % k) hm;rw[<- Q9,hj] at hg
    have Ri:(⟨b,oo,none⟩:Addr).add j=⟨b,oo+j / k*k+j % k,none⟩:=by
     rw[ha,Nat.add_assoc,<- Q9]
    rw[Ri];exact jh (j / k) _ (ag hq) (j % k) u hg.symm
  refine wpList_append_own w vH s x t ho base e i z k bytes ht hi hz KB MX hzs lY v n xs hs iB ad ys.length cap (ys.flatMap enc) hx (fO hk ys) qA (fun u hu=>by
   obtain⟨y,_,hu⟩:=List.mem_flatMap.1 hu;exact h1 y u hu) (by simp only[maxLen];omega) hn KG ?_
  intro v' w' aiY XI _;exact h v' w' aiY XI ((Below.refl base w).grown XI KG fun k hk=>(iB.lt k hk).1)
end
inductive Lk where
 | int
 | u64
 | bool
 | str
deriving DecidableEq
inductive K where
 | lit (k:Lk)
 | sl (e:List K) (bytes:Nat)
inductive D where
 | lit (v:Value)
 | sl (xs:List (List D))
instance:Inhabited D:=⟨.sl []⟩
def isLit:Lk->Value->Prop
 | .int,v=>∃ n,v=.int .i64 n
 | .u64,v=>∃ n,v=.int .u64 n
 | .bool,v=>∃ b,v=.bool b
 | .str,v=>∃ s,v=.string s
mutual
inductive SK (F:Nat->Prop) (L:Nat) (w:World):K->Value->D->Prop
 | lit {k:Lk} {v:Value}:isLit k v->SK F L w (.lit k) v (.lit v)
 | gV {e:List K} {lP:Nat} {ao:Option Addr} {cap:Nat}:(ao=none->cap=0)->SK F L w (.sl e lP) (.slice ao 0 cap) (.sl [])
 | jS {e:List K} {lP b o cap n:Nat} {xs:List (List D)}:n=xs.length->n<=cap->n*lP<=L->F b->b < w.heap.size->WW F L w e b o xs->SK F L w (.sl e lP) (.slice (some ⟨b,o,none⟩) n cap) (.sl xs)
inductive vo (F:Nat->Prop) (L:Nat) (w:World):List K->List Value->List D->Prop
 | nil:vo F L w [] [] []
 | cons {k:K} {v:Value} {d:D} {ks:List K} {vs:List Value} {ds:List D}:SK F L w k v d->vo F L w ks vs ds->vo F L w (k :: ks) (v :: vs) (d :: ds)
inductive WW (F:Nat->Prop) (L:Nat) (w:World):List K->Nat->Nat->List (List D)->Prop
 | nil {e:List K} {b o:Nat}:WW F L w e b o []
 | cons {e:List K} {b o:Nat} {vs:List Value} {ds:List D} {xs:List (List D)}:(∀ (i:Nat) u,vs[i]? = some u->w.cell? ⟨b,o+i,none⟩=some u)->vo F L w e vs ds->WW F L w e b (o+e.length) xs->WW F L w e b o (ds :: xs)
end
theorem SK.frame {F G:Nat->Prop}{L M:Nat}{w w':World}(hLM:L<=M)(hs:w.heap.size<=w'.heap.size)(hb:∀ b,F b->b < w.heap.size->w'.heap[b]? = w.heap[b]?)(NY:∀ b,F b->b < w.heap.size->G b){k:K}{v:Value}{d:D}(h:SK F L w k v d):SK G M w' k v d:=by
 refine SK.rec (motive_1:=fun k v d _=>SK G M w' k v d) (motive_2:=fun ks vs ds _=>vo G M w' ks vs ds) (motive_3:=fun e b o xs _=>F b->b < w.heap.size->WW G M w' e b o xs) ?_ ?_ ?_ ?_ ?_ ?_ ?_ h
 ·exact fun hl=>.lit hl
 ·exact fun hc=>.gV hc
 ·exact fun h1 h2 h5 h3 h4 _ ih=>.jS h1 h2 (aX h5 hLM) (NY _ h3 h4) (cA h4 hs) (ih h3 h4)
 ·exact .nil
 ·exact fun _ _ Im Il=>.cons Im Il
 ·exact fun _ _=>.nil
 ·exact fun hc _ _ Im Il hF aU=>.cons (fun i u hu=>(World.cell?_of_block (a:=⟨_,_,none⟩) (hb _ hF aU)).trans (hc i u hu)) Im (Il hF aU)
theorem vo.frame {F G:Nat->Prop}{L M:Nat}{w w':World}(hLM:L<=M)(hs:w.heap.size<=w'.heap.size)(hb:∀ b,F b->b < w.heap.size->w'.heap[b]? = w.heap[b]?)(NY:∀ b,F b->b < w.heap.size->G b):∀ {ks:List K} {vs:List Value} {ds:List D},vo F L w ks vs ds->vo G M w' ks vs ds
 | _,_,_,.nil=>.nil
 | _,_,_,.cons h1 h2=>.cons (h1.frame hLM hs hb NY) (vo.frame hLM hs hb NY h2)
theorem WW.mk {F:Nat->Prop}{L:Nat}{w:World}{e:List K}{b:Nat}:∀ (xs:List (List D)) (o:Nat),(∀ (j:Nat) ds,xs[j]? = some ds->∃ vs,(∀ (i:Nat) u,vs[i]? = some u->w.cell? ⟨b,o+j*e.length+i,none⟩=some u)/\vo F L w e vs ds)->WW F L w e b o xs
 | [],_,_=>.nil
 | ds :: xs,o,h=>by
  obtain⟨vs,h1,h2⟩:=h 0 ds rfl;refine .cons (fun i u hu=>by have:=h1 i u hu;rwa [Nat.zero_mul,dm] at this) h2 (WW.mk xs (o+e.length) fun j ds' hj=>?_);obtain⟨Lt,h3,h4⟩:=h (j+1) ds' hj;refine⟨Lt,fun i u hu=>?_,h4⟩;have:=h3 i u hu
  rwa [show o+(j+1)*e.length+i=o+e.length+j*e.length+i by rw[Nat.add_mul];omega] at this
theorem vo.append {F:Nat->Prop}{L:Nat}{w:World}:∀ {ks:List K} {vs:List Value} {ds:List D} {ks':List K} {Lt:List Value} {ds':List D},vo F L w ks vs ds->vo F L w ks' Lt ds'->vo F L w (ks++ks') (vs++Lt) (ds++ds')
 | _,_,_,_,_,_,.nil,h=>h
 | _,_,_,_,_,_,.cons h1 h2,h=>.cons h1 (vo.append h2 h)
def kQ {α:Type}(p:α->Bool)(xs:List α):Int:=match xs.findIdx? p with
 | some i=>i
 | none=>-1
theorem kf {α:Type}(p:α->Bool)(xs:List α)(k:Nat)(hk:k < xs.length)(hp:p xs[k]=true)(h:∀ j (hj:j < xs.length),j < k->p xs[j]=false):kQ p xs=k:=by
 unfold kQ;rw[List.findIdx?_eq_some_iff_getElem.2 ⟨hk,hp,fun j hj=>by rw[h j (by omega) hj];simp⟩]
theorem jj {α:Type}(p:α->Bool)(xs:List α)(h:∀ j (hj:j < xs.length),p xs[j]=false):kQ p xs = -1:=by
 unfold kQ
 rw[List.findIdx?_eq_none_iff.2 fun x hx=>by
  obtain⟨j,hj,rfl⟩:=List.getElem_of_mem hx;rw[h j hj]]
end
section
open Go Go.RowKit Go.Sort Go.Lib Go.ChangeShapes Go.WideShapes Go.Deep
section
def ji (f:TypeId->Option (List K))(P:Program):Nat->List Field->Option (List K)
 | _,[]=>some []
 | o,x :: xs=>match f x.type with
  | none=>none
  | some ks=>if x.offset=o/\P.cellsOf x.type=ks.length then(ji f P (o+ks.length) xs).map (ks++·) else none
def amO (P:Program):Nat->TypeId->Option (List K)
 | 0,_=>none
 | n+1,t=>match P.underlying t with
  | some .bool=>some [.lit .bool]
  | some .string=>some [.lit .str]
  | some (.int .i64)=>some [.lit .int]
  | some (.int .u64)=>some [.lit .u64]
  | some (.slice e)=>match amO P n e with
   | none=>none
   | some ks=>if P.cellsOf e=ks.length/\0 < ks.length then some [.sl ks (P.bytesOf e)] else none
  | some (.array m e)=>match amO P n e with
   | none=>none
   | some ks=>if P.cellsOf e=ks.length/\P.cellsOf t=m*ks.length then some (List.replicate m ks).flatten else none
  | some (.struct fs)=>match ji (amO P n) P 0 fs.toList with
   | none=>none
   | some ks=>if P.cellsOf t=ks.length then some ks else none
  | _=>none
variable {H:Type}{enc:TypeId × Value->H}{P:Program}{w:World}{base:Nat}{spare:Nat->Bool}{held:Bool}
abbrev Rd (w:World):=vo (fun _=>True) reachBytes w
def NL (P:Program)(t:TypeId)(d:DataW H):Prop:=(DataW.weights P t d).all (·<=reachBytes)=true
theorem AN {e:TypeId}:∀ {l:List (DataW H)},(DataW.weightsAll P e l).all (·<=reachBytes)=true->∀ d∈l,NL P e d
 | [],_,_,hd=>by cases hd
 | x :: l,h,d,hd=>by
  rw[DataW.weightsAll,List.all_append,ah] at h;rcases List.mem_cons.1 hd with rfl|hd
  ·exact h.1
  ·exact AN h.2 d hd
theorem mJ:∀ {ts:List TypeId} {l:List (DataW H)},(DataW.weightsEach P ts l).all (·<=reachBytes)=true->∀ (i:Nat) t d,ts[i]? = some t->l[i]? = some d->NL P t d
 | [],_,_,_,_,_,ht,_=>by simp at ht
 | _ :: _,[],_,_,_,_,_,hd=>by simp at hd
 | t0 :: ts,x :: l,h,0,t,d,ht,hd=>by
  rw[DataW.weightsEach,List.all_append,ah] at h;obtain rfl:=aY ht;obtain rfl:=aY hd;exact h.1
 | t0 :: ts,x :: l,h,i+1,t,d,ht,hd=>by
  rw[DataW.weightsEach,List.all_append,ah] at h;exact mJ h.2 i t d ht hd
theorem zL {f:TypeId->Option (List K)}{m:Nat}(cs:List Value)(hf:∀ t ks us (y:DataW H × List MemPlace),f t=some ks->DataW.trod enc P w base spare held m t us=some y->NL P t y.1->∃ ds,Rd w ks us ds) :
  ∀ (fs:List Field) (o:Nat) (ks:List K),ji f P o fs=some ks->(∀ x∈fs,∃ y,DataW.trod enc P w base spare held m x.type ((cs.drop x.offset).take (P.cellsOf x.type))=some y/\NL P x.type y.1)->∃ ds,Rd w ks ((cs.drop o).take ks.length) ds
 | [],o,ks,h,_=>by
  obtain rfl:=aY h;exact⟨[],by rw[bM,List.take_zero];exact .nil⟩
 | x :: xs,o,ks,h,hx=>by
  rw[ji] at h
  cases e:f x.type with
  | none=>rw[e] at h;cases h
  | some k1=>
   rw[e] at h;simp only at h
   by_cases hc:x.offset=o/\P.cellsOf x.type=k1.length
   ·rw[if_pos hc] at h
    cases e2:ji f P (o+k1.length) xs with
    | none=>rw[e2] at h;cases h
    | some k2=>
     rw[e2] at h;obtain rfl:=aY h;obtain⟨y,hy,hwy⟩:=hx x aB;rw[hc.1,hc.2] at hy;obtain⟨d1,h1⟩:=hf _ _ _ _ e hy hwy;obtain⟨d2,h2⟩:=zL cs hf xs _ k2 e2 fun z hz=>hx z (aM _ hz);refine⟨d1++d2,?_⟩;rw[al,List.take_add,List.drop_drop];exact h1.append h2
   ·rw[if_neg hc] at h;cases h
theorem OY {m k:Nat}{e:TypeId}{ks:List K}(cs:List Value)(hk:ks.length=k)(hf:∀ us (y:DataW H × List MemPlace),DataW.trod enc P w base spare held m e us=some y->NL P e y.1->∃ ds,Rd w ks us ds) :
  ∀ (n i:Nat),(∀ j,i<=j->j < i+n->∃ y,DataW.trod enc P w base spare held m e ((cs.drop (j*k)).take k)=some y/\NL P e y.1)->∃ ds,Rd w (List.replicate n ks).flatten ((cs.drop (i*k)).take (n*k)) ds
 | 0,i,_=>⟨[],by rw[Nat.zero_mul,List.take_zero];exact .nil⟩
 | n+1,i,h=>by
  obtain⟨y,hy,hwy⟩:=h i (ak _) (by omega);obtain⟨d1,h1⟩:=hf _ _ hy hwy;obtain⟨d2,h2⟩:=OY cs hk hf n (i+1) fun j h1 h2=>h j (by omega) (by omega);refine⟨d1++d2,?_⟩;rw[List.replicate_succ,List.flatten_cons,Nat.add_mul,Nat.one_mul,Nat.add_comm (n*k) k,List.take_add,List.drop_drop];rw[Nat.add_mul,Nat.one_mul] at h2;exact h1.append h2
theorem DX:∀ (n:Nat) (t:TypeId) (ks:List K),amO P n t=some ks->∀ (fuel:Nat) (cs:List Value) (x:DataW H × List MemPlace),DataW.trod enc P w base spare held fuel t cs=some x->NL P t x.1->∃ ds,Rd w ks cs ds
 | 0,_,_,h,_,_,_,_,_=>by cases h
 | n+1,t,ks,h,fuel,cs,x,ht,hw=>by
  rw[amO] at h;split at h
  ·rename_i hu;obtain rfl:=aY h;obtain⟨b,rfl,_⟩:=DataW.trod_bool hu ht;exact⟨_,.cons (.lit ⟨b,rfl⟩) .nil⟩
  ·rename_i hu;obtain rfl:=aY h;obtain⟨s,rfl,_⟩:=DataW.trod_string hu ht;exact⟨_,.cons (.lit ⟨s,rfl⟩) .nil⟩
  ·rename_i hu;obtain rfl:=aY h;obtain⟨z,rfl,_⟩:=DataW.trod_int hu ht;exact⟨_,.cons (.lit ⟨z,rfl⟩) .nil⟩
  ·rename_i hu;obtain rfl:=aY h;obtain⟨z,rfl,_⟩:=DataW.trod_int hu ht;exact⟨_,.cons (.lit ⟨z,rfl⟩) .nil⟩
  ·rename_i e hu
   cases he:amO P n e with
   | none=>rw[he] at h;cases h
   | some k1=>
    rw[he] at h;simp only at h
    by_cases hc:P.cellsOf e=k1.length/\0 < k1.length
    ·rw[if_pos hc] at h;obtain rfl:=aY h;rcases open_slice hu ht with⟨rfl,_⟩|⟨a,len,cap,m,q,Da,Pl,rfl,_,VT,_,hm,rfl,hi⟩
     ·exact⟨[.sl []],.cons (.gV fun _=>rfl) .nil⟩
     ·have hlm:len<=m:=by rw[hm];split <;> omega
      rw[hc.1] at hi;unfold NL at hw;rw[DataW.weights,hu] at hw;simp only[List.all_cons,List.all_append,ah,decide_eq_true_eq,Lm,List.length_range] at hw;have MX:len*P.bytesOf e<=reachBytes:=aX (cy _ (by omega)) hw.1
      have hr:∀ i,i < len->∃ p:List Value × List D,(∀ j,j < k1.length->w.cell? ((a.add (i*k1.length)).add j)=p.1[j]?)/\p.1.length=k1.length/\Rd w k1 p.1 p.2:=fun i oB=>by
       obtain⟨iH,h1,h2⟩:=hi i (by omega);obtain⟨ds,hd⟩:=DX n e k1 he _ _ _ h2 (AN hw.2.1 _ (bL.2 ⟨i,List.mem_range.2 oB,rfl⟩));obtain⟨_,hl,jh⟩:=World.cells?_some h1;exact⟨(iH,ds),jh,hl,hd⟩
      obtain⟨f,hf⟩:=choose_lt hr
      by_cases h0:len=0
      ·subst h0;exact⟨[.sl []],.cons (.gV fun e=>by cases e) .nil⟩
      ·have abA:∃ u,w.cell? a=some u:=by
        obtain⟨h1,h2,_⟩:=hf 0 (by omega);have:=h1 0 hc.2;rw[show(a.add (0*k1.length)).add 0=a by simp[Addr.add],ag (by omega)] at this;exact⟨_,this⟩
       obtain⟨u0,hu0⟩:=abA;obtain⟨b,o,sp⟩:=a;have hsp:sp=none:=by simpa using World.cell?_spot hu0
       subst hsp;refine⟨[.sl ((List.range len).map fun i=>(f i).2)],.cons (.jS (by simp) VT MX trivial (block_lt_of_cell hu0) (WW.mk _ _ fun j ds hj=>?_)) .nil⟩
       have oY:j < len:=by
        have:=(an.1 hj).1;simpa using this
       rw[bI,List.getElem?_range oY] at hj;obtain rfl:(f j).2=ds:=by simpa using hj
       obtain⟨h1,h2,h3⟩:=hf j oY;refine⟨(f j).1,fun i u hu=>?_,h3⟩
       have hik:i < k1.length:=by
        have:=(an.1 hu).1;omega
       have:=h1 i hik;rw[Addr.add_lit,Addr.add_lit] at this;rw[this,hu]
    ·rw[if_neg hc] at h;cases h
  ·rename_i m e hu
   cases he:amO P n e with
   | none=>rw[he] at h;cases h
   | some k1=>
    rw[he] at h;simp only at h
    by_cases hc:P.cellsOf e=k1.length/\P.cellsOf t=m*k1.length
    ·rw[if_pos hc] at h;obtain rfl:=aY h;obtain⟨xs,q,_,rfl,hl,hxl,hi⟩:=DataW.trod_array hu ht;rw[hc.1] at hi;unfold NL at hw;rw[DataW.weights,hu] at hw;simp only at hw;obtain⟨ds,hd⟩:=OY (P:=P) (enc:=enc) (base:=base) (spare:=spare) (held:=held) (m:=q) (e:=e) cs rfl (fun us y hy hwy=>DX n e k1 he _ _ _ hy hwy) m 0 fun j _ hj=>⟨xs[j]'(by omega),by rw[hi j (by omega),ag (by omega)],AN hw _ (bL.2 ⟨_,aH _,rfl⟩)⟩;refine⟨ds,?_⟩;rw[Nat.zero_mul,List.drop_zero,List.take_of_length_le (by rw[hl,hc.2];exact ak _)] at hd;exact hd
    ·rw[if_neg hc] at h;cases h
  ·rename_i fs hu
   cases he:ji (amO P n) P 0 fs.toList with
   | none=>rw[he] at h;cases h
   | some k1=>
    rw[he] at h;simp only at h
    by_cases hc:P.cellsOf t=k1.length
    ·rw[if_pos hc] at h;obtain rfl:=aY h;obtain⟨xs,q,_,rfl,hl,hxl,hi⟩:=DataW.trod_struct hu ht;unfold NL at hw;rw[DataW.weights,hu] at hw;simp only at hw
     obtain⟨ds,hd⟩:=zL (P:=P) (enc:=enc) (base:=base) (spare:=spare) (held:=held) (m:=q) cs (fun t ks us y h1 h2 h3=>DX n t ks h1 _ _ _ h2 h3) fs.toList 0 _ he (fun z hz=>by
      obtain⟨i,oB,rfl⟩:=List.getElem_of_mem hz;rw[bP] at oB;have hg:fs[i]? = some fs.toList[i]:=by rw[Array.getElem?_eq_getElem oB];rfl
      exact⟨xs[i]'(by omega),by rw[hi i _ hg,ag (by omega)],mJ hw i _ _ (by rw[bI,ag (by rw[bP];exact oB)];rfl) (by rw[bI,ag (by omega)];rfl)⟩)
     refine⟨ds,?_⟩;rw[List.drop_zero,List.take_of_length_le (by rw[hl,hc];exact ak _)] at hd;exact hd
    ·rw[if_neg hc] at h;cases h
  ·cases h
end
end
section
open Go Go.RowKit Go.Sort Go.Lib
section
def gM (f:TypeId->Option (List K))(P:Program):Nat->List Field->Option (List K)
 | _,[]=>some []
 | o,x :: xs=>match f x.type with
  | none=>none
  | some ks => if x.offset = o /\ P.cellsOf x.type = ks.length /\ x.name ≠ "_" /\ 0 < ks.length then(gM f P (o + ks.length) xs).map (ks ++ ·) else none
def fE (P:Program):Nat->TypeId->Option (List K)
 | 0,_=>none
 | n+1,t=>match P.underlying t with
  | some .bool=>some [.lit .bool]
  | some .string=>some [.lit .str]
  | some (.int .i64)=>some [.lit .int]
  | some (.int .u64)=>some [.lit .u64]
  | some (.array m e)=>match fE P n e with
   | none=>none
   | some ks=>if P.cellsOf e=ks.length/\0 < ks.length then some (List.replicate m ks).flatten else none
  | some (.struct fs)=>if P.stoodInHeld t then none else gM (fE P n) P 0 fs.toList
  | _=>none
inductive jN:List K->List Value->Prop
 | nil:jN [] []
 | cons {k:Lk} {v:Value} {ks:List K} {vs:List Value}:isLit k v->jN ks vs->jN (.lit k :: ks) (v :: vs)
theorem jN.len:∀ {ks:List K} {vs:List Value},jN ks vs->vs.length=ks.length
 | _,_,.nil=>rfl
 | _,_,.cons _ h=>by simp[jN.len h]
theorem jN.split:∀ {ks ks':List K} {vs:List Value},jN (ks++ks') vs->jN ks (vs.take ks.length)/\jN ks' (vs.drop ks.length)
 | [],_,_,h=>⟨.nil,h⟩
 | _ :: ks,ks',_,.cons h1 h2=>⟨.cons h1 (jN.split h2).1,(jN.split (ks:=ks) h2).2⟩
def rR:Value->Value->Bool
 | .int _ a,.int _ b=>a==b
 | .bool a,.bool b=>a==b
 | .string a,.string b=>a.toList==b.toList
 | _,_=>false
def eV:List Value->List Value->Bool
 | [],[]=>true
 | x :: xs,y :: ys=>rR x y&&eV xs ys
 | _,_=>false
theorem nR:∀ {xs ys tf Td:List Value},xs.length=ys.length->eV (xs++tf) (ys++Td)=(eV xs ys&&eV tf Td)
 | [],[],_,_,_=>by simp[eV]
 | x :: xs,y :: ys,_,_,h=>by
  have h:xs.length=ys.length:=by simpa using h
  rw[List.cons_append,List.cons_append,eV,eV,nR h,Bool.and_assoc]
 | [],_ :: _,_,_,h=>by simp at h
 | _ :: _,[],_,_,h=>by simp at h
def fg (P:Program)(t:TypeId):Bool:=match P.underlying t with
 | some (.struct _) | some (.array _ _)=>true
 | _=>false
def Gk (P:Program)(t:TypeId)(xs:List Value)(v:Value):Prop:=if fg P t=true then v=.agg xs.toArray else xs=[v]
variable {P:Program}
theorem FG:∀ (n:Nat) (t:TypeId) (ks:List K),fE P n t=some ks->fg P t=false->ks.length=1
 | 0,_,_,h,_=>by cases h
 | n+1,t,ks,h,ha=>by
  rw[fE] at h;unfold fg at ha;split at h
  ·cases h;rfl
  ·cases h;rfl
  ·cases h;rfl
  ·cases h;rfl
  ·rename_i hu;rw[hu] at ha;cases ha
  ·rename_i hu;rw[hu] at ha;cases ha
  ·cases h
theorem rI {n:Nat}{t:TypeId}{ks:List K}(hs:fE P n t=some ks)(hk:P.cellsOf t=ks.length)(w:World)(xs:List Value)(o:Nat)(ho:o+ks.length<=xs.length) :
  ∃ v,(part t xs.toArray o).run P w=.ok v w/\Gk P t ((xs.drop o).take ks.length) v:=by
 have hu:∃ d,P.underlying t=some d:=by
  cases n with
  | zero=>cases hs
  | succ n=>
   rw[fE] at hs
   cases hu:P.underlying t with
   | none=>rw[hu] at hs;cases hs
   | some d=>exact⟨d,rfl⟩
 obtain⟨d,hu⟩:=hu;obtain⟨i,hi⟩:=info_of_underlying hu
 cases ha:fg P t with
 | false=>
  have h1:=FG n t ks hs ha;have hx:xs[o]? = some (xs[o]'(by omega)):=ag _;refine⟨xs[o]'(by omega),?_,?_⟩
  ·unfold fg at ha;rw[hu] at ha
   cases d <;> simp[part,isAgg,run_underlying hu,hx] <;> simp at ha
  ·unfold Gk;rw[if_neg (by rw[ha];simp),h1,cd (by omega)];rfl
 | true=>
  refine⟨.agg (xs.toArray.extract o (o+P.cellsOf t)),?_,?_⟩
  ·unfold fg at ha;rw[hu] at ha
   cases d <;> simp[part,isAgg,run_underlying hu,run_sizeOf w hi] at ha ⊢
  ·unfold Gk;rw[if_pos ha,hk];congr 1;apply Array.toList_inj.1;rw[Array.toList_extract];simp[List.extract]
theorem Av {f:TypeId->Option (List K)}{d n:Nat}(hf:∀ t ks,f t=some ks->fE P n t=some ks)(IH:∀ t ks,fE P n t=some ks->∀ (w:World) (xs ys:List Value),jN ks xs->jN ks ys->∀ x y,Gk P t xs x->Gk P t ys y->(Op.equalIn d t x y).run P w=.ok (eV xs ys) w)(w:World)(xs ys:List Value) :
  ∀ (fs:List Field) (o:Nat) (ks:List K),gM f P o fs=some ks->jN ks (xs.drop o)->jN ks (ys.drop o)->(Op.eqFields d xs.toArray ys.toArray fs).run P w=.ok (eV (xs.drop o) (ys.drop o)) w
 | [],o,ks,h,hx,hy=>by
  rw[gM] at h
  cases h
  have e1:xs.drop o=[]:=List.eq_nil_of_length_eq_zero hx.len;have e2:ys.drop o=[]:=List.eq_nil_of_length_eq_zero hy.len;rw[e1,e2];rfl
 | x :: fs,o,ks,h,hx,hy=>by
  rw[gM] at h
  cases e:f x.type with
  | none=>rw[e] at h;cases h
  | some k1=>
   rw[e] at h;simp only at h;split at h
   ·rename_i hc
    cases e2:gM f P (o+k1.length) fs with
    | none=>rw[e2] at h;cases h
    | some k2=>
     rw[e2] at h;obtain rfl:=aY h;have sx:=hx.split;have sy:=hy.split;rw[List.drop_drop] at sx sy;have lx:=hx.len;have ly:=hy.len;rw[al,aO] at lx ly;have ih:=Av hf IH w xs ys fs (o+k1.length) k2 e2 sx.2 sy.2;obtain⟨v,hv,rv⟩:=rI (hf _ _ e) hc.2.1 w xs o (by omega);obtain⟨u,hu,ru⟩:=rI (hf _ _ e) hc.2.1 w ys o (by omega);have heq:=IH _ _ (hf _ _ e) w _ _ sx.1 sy.1 v u rv ru;have ex:xs.drop o=(xs.drop o).take k1.length++xs.drop (o+k1.length):=by rw[<- List.drop_drop,List.take_append_drop]
     have ey:ys.drop o=(ys.drop o).take k1.length++ys.drop (o+k1.length):=by rw[<- List.drop_drop,List.take_append_drop]
     have es:eV (xs.drop o) (ys.drop o)=(eV ((xs.drop o).take k1.length) ((ys.drop o).take k1.length)&&eV (xs.drop (o+k1.length)) (ys.drop (o+k1.length))):=by
      conv=>lhs;rw[ex,ey]
      exact nR (by rw[au,au,aO,aO];omega)
     rw[es];simp only[Op.eqFields,hc.2.2.1,ne_eq,not_false_eq_true,if_true,Sem.run_bind,hc.1,hv,hu,Result.andThen_ok,heq]
     cases hq:eV ((xs.drop o).take k1.length) ((ys.drop o).take k1.length)
     ·simp
     ·simpa using ih
   ·cases h
theorem FF {d n:Nat}{e:TypeId}{k1:List K}(he:fE P n e=some k1)(hk:P.cellsOf e=k1.length)(hp:0 < k1.length)(IH:∀ (w:World) (xs ys:List Value),jN k1 xs->jN k1 ys->∀ x y,Gk P e xs x->Gk P e ys y->(Op.equalIn d e x y).run P w=.ok (eV xs ys) w)(w:World)(xs ys:List Value) :
  ∀ (m i:Nat),jN (List.replicate m k1).flatten (xs.drop (i*k1.length))->jN (List.replicate m k1).flatten (ys.drop (i*k1.length))->(Op.eqItems d e (P.cellsOf e) xs.toArray ys.toArray (List.range' i m)).run P w=.ok (eV (xs.drop (i*k1.length)) (ys.drop (i*k1.length))) w
 | 0,i,hx,hy=>by
  have e1:=List.eq_nil_of_length_eq_zero hx.len;have e2:=List.eq_nil_of_length_eq_zero hy.len;rw[e1,e2];rfl
 | m+1,i,hx,hy=>by
  rw[List.replicate_succ,List.flatten_cons] at hx hy;have sx:=hx.split;have sy:=hy.split;have lx:=hx.len;have ly:=hy.len;rw[List.drop_drop] at sx sy;rw[al,aO] at lx ly;have ei:i*k1.length+k1.length=(i+1)*k1.length:=by rw[Nat.add_mul];omega
  rw[ei] at sx sy;have ih:=FF he hk hp IH w xs ys m (i+1) sx.2 sy.2;obtain⟨v,hv,rv⟩:=rI he hk w xs (i*k1.length) (by omega);obtain⟨u,hu,ru⟩:=rI he hk w ys (i*k1.length) (by omega);have heq:=IH w _ _ sx.1 sy.1 v u rv ru;have ex:xs.drop (i*k1.length)=(xs.drop (i*k1.length)).take k1.length++xs.drop ((i+1)*k1.length):=by rw[<- ei,<- List.drop_drop,List.take_append_drop]
  have ey:ys.drop (i*k1.length)=(ys.drop (i*k1.length)).take k1.length++ys.drop ((i+1)*k1.length):=by rw[<- ei,<- List.drop_drop,List.take_append_drop]
  have es:eV (xs.drop (i*k1.length)) (ys.drop (i*k1.length))=(eV ((xs.drop (i*k1.length)).take k1.length) ((ys.drop (i*k1.length)).take k1.length)&&eV (xs.drop ((i+1)*k1.length)) (ys.drop ((i+1)*k1.length))):=by
   conv=>lhs;rw[ex,ey]
   exact nR (by rw[au,au,aO,aO];omega)
  rw[es,List.range'_succ];rw[<- hk] at hv hu;simp only[Op.eqItems,Sem.run_bind,hv,hu,Result.andThen_ok,heq]
  cases hq:eV ((xs.drop (i*k1.length)).take k1.length) ((ys.drop (i*k1.length)).take k1.length)
  ·simp
  ·simpa using ih
theorem mg {t:TypeId}{xs:List Value}{v:Value}(ha:fg P t=false)(h:Gk P t xs v):xs=[v]:=by
 unfold Gk at h
 rwa [if_neg (by rw[ha];simp)] at h
theorem vz {t:TypeId}{xs:List Value}{v:Value}(ha:fg P t=true)(h:Gk P t xs v):v=.agg xs.toArray:=by
 unfold Gk at h
 rwa [if_pos ha] at h
theorem vK:∀ (n:Nat) (t:TypeId) (ks:List K),fE P n t=some ks->∀ (d:Nat),n<=d->∀ (w:World) (xs ys:List Value),jN ks xs->jN ks ys->∀ x y,Gk P t xs x->Gk P t ys y->(Op.equalIn d t x y).run P w=.ok (eV xs ys) w
 | 0,_,_,h,_,_,_,_,_,_,_,_,_,_,_=>by cases h
 | n+1,t,ks,h,0,hd,_,_,_,_,_,_,_,_,_=>by omega
 | n+1,t,ks,h,d+1,hd,w,xs,ys,hx,hy,x,y,rx,ry=>by
  rw[fE] at h;split at h
  ·rename_i hu;have ha:fg P t=false:=by unfold fg;rw[hu]
   cases h
   obtain rfl:=mg ha rx;obtain rfl:=mg ha ry;obtain⟨⟨a,rfl⟩,_⟩:isLit .bool x/\True:=by cases hx with|cons h _=>exact⟨h,ea⟩
   obtain⟨⟨b,rfl⟩,_⟩:isLit .bool y/\True:=by cases hy with|cons h _=>exact⟨h,ea⟩
   rw[run_equalIn_bool w d t a b hu];simp[eV,rR]
  ·rename_i hu;have ha:fg P t=false:=by unfold fg;rw[hu]
   cases h
   obtain rfl:=mg ha rx;obtain rfl:=mg ha ry;obtain⟨⟨a,rfl⟩,_⟩:isLit .str x/\True:=by cases hx with|cons h _=>exact⟨h,ea⟩
   obtain⟨⟨b,rfl⟩,_⟩:isLit .str y/\True:=by cases hy with|cons h _=>exact⟨h,ea⟩
   rw[run_equalIn_string w d t a b hu];simp[eV,rR]
  ·rename_i hu;have ha:fg P t=false:=by unfold fg;rw[hu]
   cases h
   obtain rfl:=mg ha rx;obtain rfl:=mg ha ry;obtain⟨⟨a,rfl⟩,_⟩:isLit .int x/\True:=by cases hx with|cons h _=>exact⟨h,ea⟩
   obtain⟨⟨b,rfl⟩,_⟩:isLit .int y/\True:=by cases hy with|cons h _=>exact⟨h,ea⟩
   rw[run_equalIn_int w d t _ _ a b hu];simp[eV,rR]
  ·rename_i hu;have ha:fg P t=false:=by unfold fg;rw[hu]
   cases h
   obtain rfl:=mg ha rx;obtain rfl:=mg ha ry;obtain⟨⟨a,rfl⟩,_⟩:isLit .u64 x/\True:=by cases hx with|cons h _=>exact⟨h,ea⟩
   obtain⟨⟨b,rfl⟩,_⟩:isLit .u64 y/\True:=by cases hy with|cons h _=>exact⟨h,ea⟩
   rw[run_equalIn_int w d t _ _ a b hu];simp[eV,rR]
  ·rename_i m e hu;have ha:fg P t=true:=by unfold fg;rw[hu]
   obtain rfl:=vz ha rx;obtain rfl:=vz ha ry
   cases he:fE P n e with
   | none=>rw[he] at h;cases h
   | some k1=>
    rw[he] at h;simp only at h;split at h
    ·rename_i hc;obtain rfl:=aY h
     have hi:∃ i,P.info? e=some i:=by
      cases n with
      | zero=>cases he
      | succ n=>
       rw[fE] at he
       cases hu2:P.underlying e with
       | none=>rw[hu2] at he;cases he
       | some _=>exact info_of_underlying hu2
     obtain⟨i,hi⟩:=hi;rw[run_equalIn_array w d _ _ hu hi];have:=FF he hc.1 hc.2 (fun w xs ys h1 h2 x y r1 r2=>vK n e k1 he d (by omega) w xs ys h1 h2 x y r1 r2) w xs ys m 0 (by simpa using hx) (by simpa using hy);rw[List.range_eq_range'];simpa using this
    ·cases h
  ·rename_i fs hu;have ha:fg P t=true:=by unfold fg;rw[hu]
   obtain rfl:=vz ha rx;obtain rfl:=vz ha ry;split at h
   ·cases h
   ·rename_i fu;have hfs:P.fieldsOf t=fs:=by simp[Program.fieldsOf,hu]
    rw[run_equalIn_struct w d t _ _ (by rw[hfs];exact hu) (by simpa using fu),hfs];have:=Av (f:=fE P n) (d:=d) (n:=n) (fun t ks h=>h) (fun t ks h w xs ys h1 h2 x y r1 r2=>vK n t ks h d (by omega) w xs ys h1 h2 x y r1 r2) w xs ys fs.toList 0 ks h (by simpa using hx) (by simpa using hy);simpa using this
  ·cases h
theorem GZ {n:Nat}{t:TypeId}{ks:List K}(hs:fE P n t=some ks)(hn:n<=10000)(ha:fg P t=true)(w:World)(xs ys:List Value)(hx:jN ks xs)(hy:jN ks ys) :
  (binOp .eql t (.agg xs.toArray) (.agg ys.toArray)).run P w=.ok (.bool (eV xs ys)) w:=by
 rw[run_eql_struct,vK n t ks hs 10000 hn w xs ys hx hy _ _ (by unfold Gk;rw[if_pos ha]) (by unfold Gk;rw[if_pos ha])];rfl
theorem GY {n:Nat}{t:TypeId}{ks:List K}(hs:fE P n t=some ks)(hn:n<=10000)(ha:fg P t=true)(w:World)(xs ys:List Value)(hx:jN ks xs)(hy:jN ks ys) :
  (binOp .neq t (.agg xs.toArray) (.agg ys.toArray)).run P w=.ok (.bool (!eV xs ys)) w:=by
 rw[run_neq_struct,vK n t ks hs 10000 hn w xs ys hx hy _ _ (by unfold Gk;rw[if_pos ha]) (by unfold Gk;rw[if_pos ha])];rfl
end
abbrev Cl (k:Nat):={vs:List Value // vs.length=k/\∀ u∈vs,u.oneCell'=true}
theorem Cl.len {k:Nat}(x:Cl k):x.1.length=k:=x.2.1
theorem Cl.one {k:Nat}(x:Cl k):∀ u∈x.1,u.oneCell'=true:=x.2.2
abbrev SH (k:Nat)(w:World)(v:Value)(es:List (Cl k)):=Cg.SG k Subtype.val w v es
inductive Tr where
 | lit (v:Value)
 | sl (k:Nat) (xs:List (List Tr))
 | mp (xs:List (List Tr))
instance:Inhabited Tr:=⟨.sl 0 []⟩
inductive Ce where
 | t (x:Tr)
 | nil
 | row (τ bA:Nat)
 | bot
instance:Inhabited Ce:=⟨.nil⟩
inductive AV where
 | c (x:Ce)
 | agg (xs:List Ce)
 | ptr (b o:Nat)
 | dL (xs:List Tr) (o:Nat)
 | dX (τ bA k i o:Nat)
 | sub (τ bA k i:Nat)
 | e9
 | gi (vs:List AV)
 | fn (f:Nat) (caps:List (Nat × Nat))
 | lL (f:Nat) (caps:List (List Tr × Nat))
 | bot
instance:Inhabited AV:=⟨.bot⟩
structure Dp where
 D:List (Nat × Nat × Nat)
 c:Nat
 ln:List (Nat × Nat × Nat × Nat)
structure Row where
 ty:Nat
 k:Nat
 bA:Nat
 xs:List (List Tr)
 dp:Option Dp
abbrev mpD:Dp:=⟨[(0,0,0)],0,[]⟩
def Dp.iQ (d:Dp):Bool:=match d.D with
 | (_,_,0) :: _=>true
 | _=>false
def Row.iQ (R:Row):Bool:=match R.dp with
 | none=>false
 | some d=>d.iQ
abbrev Row.tr (R:Row):Tr:=match R.iQ with
 | true=>.mp R.xs
 | false=>.sl R.k R.xs
def Row.shut (R:Row):Bool:=match R.dp with
 | none=>true
 | some ⟨_,_,[]⟩=>true
 | some _=>false
structure St where
 sl:List (Nat × AV)
 bx:List (Nat × List Ce)
 rw:List (Nat × Row)
 nx:Nat
def lk {α:Type}:List (Nat × α)->Nat->Option α
 | [],_=>none
 | (n,x) :: r,m=>bif Nat.beq n m then some x else lk r m
def St.get (st:St)(t:Nat):AV:=match lk st.sl t with
 | some v=>v
 | none=>.bot
def St.put (st:St)(t:Nat)(v:AV):St:=match st with
 | ⟨sl,bx,rw,nx⟩=>⟨(t,v) :: sl,bx,rw,nx⟩
def St.Uz (st:St)(t:Option Nat)(v:AV):St:=match t with
 | some t=>st.put t v
 | none=>st
abbrev bi (b:Bool)(A:Prop):Prop:=match b with
 | true=>A
 | false=>False
theorem vM (A:Prop):bi true A=A:=rfl
theorem sP {b:Bool}{A:Prop}(h:bi b A):b=true/\A:=by
 cases b with
 | true=>exact⟨rfl,h⟩
 | false=>exact h.elim
def Row.Qt (R R':Row):Prop:=bi R.shut (match R.dp,R'.dp with
 | none,none=>R.xs=R'.xs
 | some d,some d'=>d=d'/\R.xs=R'.xs
 | _,_=>False)
theorem Row.Qt.to {R R':Row}(h:R.Qt R'):R.xs=R'.xs/\R.dp=R'.dp/\R.shut=true:=by
 obtain⟨h1,h2⟩:=sP h;split at h2
 ·rename_i e1 e2;exact⟨h2,e1.trans e2.symm,h1⟩
 ·rename_i d d' e1 e2;obtain⟨rfl,h2⟩:=h2;exact⟨h2,e1.trans e2.symm,h1⟩
 ·exact h2.elim
theorem cL {ty k bA Lu k' vf:Nat}{xs tf:List (List Tr)}(h:xs=tf):Row.Qt ⟨ty,k,bA,xs,none⟩ ⟨Lu,k',vf,tf,none⟩:=h
theorem bS {ty k bA:Nat}{xs:List (List Tr)}{A:Prop}(h:A):bi (Row.shut ⟨ty,k,bA,xs,none⟩) A:=h
structure Dl where
 v:AV
 bs:List (Nat × List Ce)
 rs:List (Nat × Row)
def Dl.val (v:AV):Dl:=⟨v,[],[]⟩
def St.app (st:St)(t:Option Nat)(d:Dl):St:=match st,d with
 | ⟨sl,bx,rw,nx⟩,⟨v,bs,rs⟩=>match t with
  | some t=>⟨(t,v) :: sl,bs++bx,rs++rw,nx⟩
  | none=>⟨sl,bs++bx,rs++rw,nx⟩
def IK {α:Type}(l:List α)(K:List α->Prop):Prop:=match l with
 | []=>K []
 | x :: r=>K (x :: r)
theorem M4 {α:Type}(l:List α)(K:List α->Prop):IK l K=K l:=by cases l <;> rfl
def nX {α:Type}:List α->(List α->Prop)->Prop
 | [],K=>K []
 | x :: r,K=>nX r fun r'=>K (x :: r')
theorem lK {α:Type}:∀ (l:List α) (K:List α->Prop),nX l K=K l
 | [],_=>rfl
 | x :: r,K=>by rw[nX,lK r]
def nY (n:Nat)(K:Nat->Prop):Prop:=match n with
 | 0=>K 0
 | n+1=>K (n+1)
theorem la (n:Nat)(K:Nat->Prop):nY n K=K n:=by cases n <;> rfl
def St.open_ (st:St)(K:St->Prop):Prop:=match st with
 | ⟨sl,bx,rw,nx⟩=>IK bx fun bx=>IK rw fun rw=>K ⟨sl,bx,rw,nx⟩
theorem St.pr (st:St)(K:St->Prop):st.open_ K=K st:=by
 cases st
 simp only[St.open_,M4]
def AV.open_ (a:AV)(K:AV->Prop):Prop:=match a with
 | .c x=>(match x with
  | .t y=>(match y with
   | .lit v=>K (.c (.t (.lit v)))
   | .sl k xs=>K (.c (.t (.sl k xs)))
   | .mp xs=>K (.c (.t (.mp xs))))
  | .nil=>K (.c .nil)
  | .row τ v=>K (.c (.row τ v))
  | .bot=>K (.c .bot))
 | .agg xs=>nX xs fun xs=>K (.agg xs)
 | .ptr b o=>K (.ptr b o)
 | .dL xs o=>K (.dL xs o)
 | .dX τ bA k i o=>K (.dX τ bA k i o)
 | .sub τ bA k i=>K (.sub τ bA k i)
 | .e9=>K .e9
 | .gi vs=>K (.gi vs)
 | .fn f caps=>K (.fn f caps)
 | .lL f caps=>K (.lL f caps)
 | .bot=>K .bot
theorem AV.pr (a:AV)(K:AV->Prop):a.open_ K=K a:=by
 cases a with
 | c x=>cases x with
  | t y=>cases y <;> rfl
  | _=>rfl
 | agg xs=>exact lK _ _
 | _=>rfl
inductive Tk where
 | bas
 | int (k:IntKind)
 | string
 | iU (e:Nat)
 | arr (n e:Nat)
 | str (fs:List (Nat × Nat))
 | ptr (e:Nat)
 | map (k e:Nat)
structure Ty where
 k:Tk
 sz:Nat
 lP:Nat
 z:List Ce
 eq:List Lk
def Ty.isAgg (y:Ty):Bool:=match y.k with
 | .arr _ _=>true
 | .str _=>true
 | _=>false
def H9:Value->Bool
 | .int _ _=>true
 | .bool _=>true
 | .string _=>true
 | .func (.yield _) #[] #[]=>true
 | _=>false
def iv (n:Int):Tr:=.lit (.int .i64 n)
def bv (b:Bool):Tr:=.lit (.bool b)
def sv (s:ByteArray):Tr:=.lit (.string s)
def AV.i (n:Int):AV:=.c (.t (.lit (.int .i64 n)))
def AV.b (x:Bool):AV:=.c (.t (.lit (.bool x)))
def AV.s (x:ByteArray):AV:=.c (.t (.lit (.string x)))
def ev (st:St):Operand->AV
 | .tmp t=>st.get t
 | .const v=>match v with
  | .int k n=>.c (.t (.lit (.int k n)))
  | .bool b=>.c (.t (.lit (.bool b)))
  | .string s=>.c (.t (.lit (.string s)))
  | .slice none 0 0=>.c .nil
  | .pointer none=>.e9
  | _=>.bot
 | .func f=>.fn f []
 | .global _=>.bot
def Ty.wd (y:Ty):Nat:=if y.isAgg then y.sz else 1
def cut (y:Ty)(cs:List Ce)(o:Nat):Option AV:=
 if y.isAgg then(bif Nat.ble (o+y.sz) cs.length then some (.agg ((cs.drop o).take y.sz)) else none)
 else match cs[o]? with
  | some c=>some (.c c)
  | none=>none
def vm (y:Ty)(cs:List Tr)(o:Nat):Option AV:=
 if y.isAgg then(bif Nat.ble (o+y.sz) cs.length then some (.agg (((cs.drop o).take y.sz).map .t)) else none)
 else match cs[o]? with
  | some c=>some (.c (.t c))
  | none=>none
def gT:AV->Option (List Ce)
 | .c x=>some [x]
 | .agg xs=>some xs
 | _=>none
def vW (st:St):Ce->Option Tr
 | .t x=>some x
 | .nil=>some (.sl 0 [])
 | .row τ bA=>match lk st.rw τ with
  | some R=>bif Nat.beq R.bA bA&&R.dp.isNone then some (.sl R.k R.xs) else none
  | none=>none
 | .bot=>none
def gS (st:St):AV->Option (Nat × List (List Tr))
 | .c c=>match vW st c with
  | some (.sl k xs)=>some (k,xs)
  | _=>none
 | _=>none
def MD (st:St):AV->Option Nat
 | .c (.row τ bA)=>match lk st.rw τ with
  | some R=>bif Nat.beq R.bA bA&&!R.iQ then some R.xs.length else none
  | none=>none
 | v=>match gS st v with
  | some (_,xs)=>some xs.length
  | none=>none
def I3 (op:BinOp)(k:IntKind)(x y:Int):Option Value:=match op with
 | .add=>some (.int k (k.wrap (x+y)))
 | .sub=>some (.int k (k.wrap (x - y)))
 | .mul=>some (.int k (k.wrap (x*y)))
 | .quo=>bif decide (y=0) then none else some (.int k (k.wrap (x.tdiv y)))
 | .rem=>bif decide (y=0) then none else some (.int k (x.tmod y))
 | .and=>some (.int k (k.wrap (BitVec.ofInt k.bits x &&& BitVec.ofInt k.bits y).toNat))
 | .or=>some (.int k (k.wrap (BitVec.ofInt k.bits x ||| BitVec.ofInt k.bits y).toNat))
 | .xor=>some (.int k (k.wrap (BitVec.ofInt k.bits x ^^^ BitVec.ofInt k.bits y).toNat))
 | .andNot=>some (.int k (k.wrap (BitVec.ofInt k.bits x &&& ~~~ BitVec.ofInt k.bits y).toNat))
 | .eql=>some (.bool (x==y))
 | .neq=>some (.bool (x != y))
 | .lss=>some (.bool (decide (x < y)))
 | .leq=>some (.bool (decide (x<=y)))
 | .gtr=>some (.bool (decide (x > y)))
 | .geq=>some (.bool (decide (x>=y)))
 | _=>none
def shI (op:BinOp)(k:IntKind)(x y:Int):Option Value:=match op with
 | .shl=>bif decide (y < 0) then none else some (.int k (k.wrap (x*2 ^ min y.toNat k.bits)))
 | .shr=>bif decide (y < 0) then none else some (.int k (x.fdiv (2 ^ min y.toNat k.bits)))
 | _=>none
def alD (op:BinOp)(x y:Bool):Option Value:=match op with
 | .eql=>some (.bool (x==y))
 | .neq=>some (.bool (!(x==y)))
 | _=>none
def EI:List Ce->Option (List Value)
 | []=>some []
 | .t (.lit v) :: r=>match EI r with
  | some vs=>some (v :: vs)
  | none=>none
 | _ :: _=>none
def Xp:Lk->Value->Bool
 | .int,.int .i64 _=>true
 | .u64,.int .u64 _=>true
 | .bool,.bool _=>true
 | .str,.string _=>true
 | _,_=>false
def mj:List Lk->List Value->Bool
 | [],[]=>true
 | k :: ks,v :: vs=>Xp k v&&mj ks vs
 | _,_=>false
def Tz {α:Type}:List α->Nat->List α->List α
 | [],_,us=>us
 | c :: cs,0,[]=>c :: cs
 | _ :: cs,0,u :: us=>u :: Tz cs 0 us
 | c :: cs,o+1,us=>c :: Tz cs o us
theorem Bz {α:Type}:∀ (cs:List α) (o:Nat) (us:List α),Tz cs o us=cs.take o++us++cs.drop (o+us.length)
 | [],o,us=>by rw[Tz];simp
 | c :: cs,0,[]=>by rw[Tz];simp
 | c :: cs,0,u :: us=>by
  rw[Tz,Bz cs 0 us];simp
 | c :: cs,o+1,us=>by
  rw[Tz,Bz cs o us,show o+1+us.length=o+us.length+1 by omega];simp
def lq (cs:List Ce)(o:Nat)(us:List Ce):List Ce:=Tz cs o us
def j4 (cs:List Tr)(o:Nat)(us:List Tr):List Tr:=Tz cs o us
theorem tC (cs:List Ce)(o:Nat)(us:List Ce):lq cs o us=cs.take o++us++cs.drop (o+us.length):=Bz _ _ _
theorem qg (cs:List Tr)(o:Nat)(us:List Tr):j4 cs o us=cs.take o++us++cs.drop (o+us.length):=Bz _ _ _
def mpX (l:List (Int × Int)):List (List Tr):=[] :: l.map fun p=>[iv p.1,iv p.2]
def MpE (es:Array MapEntry)(xs:List (List Tr)):Prop:=∃ l:List (Int × Int),xs=mpX l/\es.toList.map (fun e=>(e.key,e.val))=l.map fun p=>(Value.int .i64 p.1,Value.int .i64 p.2)
mutual
inductive RT (F:Nat->Prop) (w:World):Value->Tr->Prop
 | mp {g:Nat} {es:Array MapEntry} {clock:Nat} {xs:List (List Tr)}:w.heap[g]? = some (.map es clock)->MpE es xs->F g->RT F w (.map (some g)) (.mp xs)
 | mp0:RT F w (.slice none 0 0) (.mp [])
 | lit {v:Value}:H9 v=true->RT F w v (.lit v)
 | gV {k:Nat} {ao:Option Addr} {cap:Nat}:(ao=none->cap=0)->RT F w (.slice ao 0 cap) (.sl k [])
 | jS {k g o n cap:Nat} {xs:List (List Tr)}:n=xs.length->n<=cap->F g->g < w.heap.size->tc F w k g o xs->RT F w (.slice (some ⟨g,o,none⟩) n cap) (.sl k xs)
inductive jK (F:Nat->Prop) (w:World):List Value->List Tr->Prop
 | nil:jK F w [] []
 | cons {v:Value} {t:Tr} {vs:List Value} {ts:List Tr}:RT F w v t->jK F w vs ts->jK F w (v :: vs) (t :: ts)
inductive tc (F:Nat->Prop) (w:World):Nat->Nat->Nat->List (List Tr)->Prop
 | nil {k g o:Nat}:tc F w k g o []
 | cons {k g o:Nat} {vs:List Value} {ts:List Tr} {xs:List (List Tr)}:vs.length=k->(∀ (i:Nat) u,vs[i]? = some u->w.cell? ⟨g,o+i,none⟩=some u)->jK F w vs ts->tc F w k g (o+k) xs->tc F w k g o (ts :: xs)
end
theorem RT.frame {F G:Nat->Prop}{w w':World}(hs:w.heap.size<=w'.heap.size)(hb:∀ b,F b->b < w.heap.size->w'.heap[b]? = w.heap[b]?)(NY:∀ b,F b->b < w.heap.size->G b){v:Value}{t:Tr}(h:RT F w v t):RT G w' v t:=by
 refine RT.rec (motive_1:=fun v t _=>RT G w' v t) (motive_2:=fun vs ts _=>jK G w' vs ts) (motive_3:=fun k g o xs _=>F g->g < w.heap.size->tc G w' k g o xs) ?_ ?_ ?_ ?_ ?_ ?_ ?_ ?_ ?_ h
 ·exact fun h1 h2 h3=>.mp ((hb _ h3 (Array.getElem?_eq_some_iff.1 h1).1).trans h1) h2 (NY _ h3 (Array.getElem?_eq_some_iff.1 h1).1)
 ·exact .mp0
 ·exact fun hl=>.lit hl
 ·exact fun hc=>.gV hc
 ·exact fun h1 h2 h3 h4 _ ih=>.jS h1 h2 (NY _ h3 h4) (cA h4 hs) (ih h3 h4)
 ·exact .nil
 ·exact fun _ _ Im Il=>.cons Im Il
 ·exact fun _ _=>.nil
 ·exact fun hl hc _ _ Im Il hF aU=>.cons hl (fun i u hu=>(World.cell?_of_block (a:=⟨_,_,none⟩) (hb _ hF aU)).trans (hc i u hu)) Im (Il hF aU)
theorem jK.frame {F G:Nat->Prop}{w w':World}(hs:w.heap.size<=w'.heap.size)(hb:∀ b,F b->b < w.heap.size->w'.heap[b]? = w.heap[b]?)(NY:∀ b,F b->b < w.heap.size->G b):∀ {vs:List Value} {ts:List Tr},jK F w vs ts->jK G w' vs ts
 | _,_,.nil=>.nil
 | _,_,.cons h1 h2=>.cons (h1.frame hs hb NY) (jK.frame hs hb NY h2)
theorem RT.one {F:Nat->Prop}{w:World}{v:Value}{t:Tr}(h:RT F w v t):v.oneCell'=true:=by
 cases h with
 | lit hl=>cases v <;> first | rfl | cases hl
 | gV=>rfl
 | jS=>rfl
 | mp=>rfl
 | mp0=>rfl
theorem jK.len {F:Nat->Prop}{w:World}:∀ {vs:List Value} {ts:List Tr},jK F w vs ts->vs.length=ts.length
 | _,_,.nil=>rfl
 | _,_,.cons _ h=>by simp[jK.len h]
theorem jK.one {F:Nat->Prop}{w:World}:∀ {vs:List Value} {ts:List Tr},jK F w vs ts->∀ u∈vs,u.oneCell'=true
 | _,_,.nil,_,hu=>by cases hu
 | _,_,.cons h1 h2,u,hu=>by
  rcases List.mem_cons.1 hu with rfl|hu
  ·exact h1.one
  ·exact jK.one h2 u hu
theorem tc.get {F:Nat->Prop}{w:World}{k g:Nat}:∀ {xs:List (List Tr)} {o:Nat},tc F w k g o xs->∀ (j:Nat) ts,xs[j]? = some ts->∃ vs,vs.length=k/\(∀ (i:Nat) u,vs[i]? = some u->w.cell? ⟨g,o+j*k+i,none⟩=some u)/\jK F w vs ts
 | _,_,.cons hl hc h1 _,0,ts,hd=>by
  obtain rfl:=aY hd;exact⟨_,hl,fun i u hu=>by rw[Nat.zero_mul,dm];exact hc i u hu,h1⟩
 | _,o,.cons _ _ _ h2,j+1,ts,hd=>by
  obtain⟨vs,h3,h4,h5⟩:=tc.get h2 j ts hd;refine⟨vs,h3,fun i u hu=>?_,h5⟩;have:=h4 i u hu
  rwa [show o+k+j*k+i=o+(j+1)*k+i by rw[Nat.add_mul];omega] at this
theorem tc.mk {F:Nat->Prop}{w:World}{k g:Nat}:∀ (xs:List (List Tr)) (o:Nat),(∀ (j:Nat) ts,xs[j]? = some ts->∃ vs,vs.length=k/\(∀ (i:Nat) u,vs[i]? = some u->w.cell? ⟨g,o+j*k+i,none⟩=some u)/\jK F w vs ts)->tc F w k g o xs
 | [],_,_=>.nil
 | ts :: xs,o,h=>by
  obtain⟨vs,h0,h1,h2⟩:=h 0 ts rfl;refine .cons h0 (fun i u hu=>by have:=h1 i u hu;rwa [Nat.zero_mul,dm] at this) h2 (tc.mk xs (o+k) fun j vp hj=>?_);obtain⟨Lt,h3,h4,h5⟩:=h (j+1) vp hj;refine⟨Lt,h3,fun i u hu=>?_,h5⟩;have:=h4 i u hu
  rwa [show o+(j+1)*k+i=o+k+j*k+i by rw[Nat.add_mul];omega] at this
inductive A2 {α β:Type} (R:α->β->Prop):List α->List β->Prop
 | nil:A2 R [] []
 | cons {x:α} {y:β} {xs:List α} {ys:List β}:R x y->A2 R xs ys->A2 R (x :: xs) (y :: ys)
theorem A2.len {α β:Type}{R:α->β->Prop}:∀ {xs:List α} {ys:List β},A2 R xs ys->xs.length=ys.length
 | _,_,.nil=>rfl
 | _,_,.cons _ h=>by simp[A2.len h]
theorem A2.imp {α β:Type}{R S:α->β->Prop}:∀ {xs:List α} {ys:List β},A2 R xs ys->(∀ x y,y∈ys->R x y->S x y)->A2 S xs ys
 | _,_,.nil,_=>.nil
 | _,_,.cons h1 h2,h=>.cons (h _ _ aB h1) (A2.imp h2 fun x y hy=>h x y (aM _ hy))
theorem A2.get {α β:Type}{R:α->β->Prop}:∀ {xs:List α} {ys:List β},A2 R xs ys->∀ (i:Nat) y,ys[i]? = some y->∃ x,xs[i]? = some x/\R x y
 | _,_,.cons h _,0,y,hy=>by
  obtain rfl:=aY hy;exact⟨_,rfl,h⟩
 | _,_,.cons _ h,i+1,y,hy=>A2.get h i y hy
theorem A2.take {α β:Type}{R:α->β->Prop}:∀ {xs:List α} {ys:List β},A2 R xs ys->∀ n,A2 R (xs.take n) (ys.take n)
 | _,_,.nil,n=>by simpa using A2.nil
 | _,_,.cons h1 h2,0=>.nil
 | _,_,.cons h1 h2,n+1=>.cons h1 (A2.take h2 n)
theorem A2.drop {α β:Type}{R:α->β->Prop}:∀ {xs:List α} {ys:List β},A2 R xs ys->∀ n,A2 R (xs.drop n) (ys.drop n)
 | _,_,.nil,n=>by simpa using A2.nil
 | _,_,.cons h1 h2,0=>.cons h1 h2
 | _,_,.cons _ h2,n+1=>A2.drop h2 n
theorem A2.append {α β:Type}{R:α->β->Prop}:∀ {xs:List α} {ys:List β} {tf:List α} {Td:List β},A2 R xs ys->A2 R tf Td->A2 R (xs++tf) (ys++Td)
 | _,_,_,_,.nil,h=>h
 | _,_,_,_,.cons h1 h2,h=>.cons h1 (A2.append h2 h)
theorem jK.a2 {F:Nat->Prop}{w:World}:∀ {vs:List Value} {ts:List Tr},jK F w vs ts->A2 (RT F w) vs ts
 | _,_,.nil=>.nil
 | _,_,.cons h1 h2=>.cons h1 (jK.a2 h2)
theorem A2.Yy {F:Nat->Prop}{w:World}:∀ {vs:List Value} {ts:List Tr},A2 (RT F w) vs ts->jK F w vs ts
 | _,_,.nil=>.nil
 | _,_,.cons h1 h2=>.cons h1 (A2.Yy h2)
inductive jm where
 | bH
 | bx (i:Nat)
 | rw (i:Nat)
 | jo (i j o:Nat)
 | eH
deriving DecidableEq
structure Env where
 rl:Nat->jm
 bk:Nat->Nat
 vl:Nat->Nat->Value
def Env.F (E:Env):Nat->Prop:=fun b=>E.rl b=.bH
def RC (E:Env)(w:World)(v:Value):Ce->Prop
 | .t x=>RT E.F w v x
 | .nil=>v=.slice none 0 0
 | .row τ bA=>v=E.vl τ bA/\v.oneCell'=true
 | .bot=>v.oneCell'=true
def pc (E:Env)(c:Nat × Nat):Value:=.pointer (some ⟨E.bk c.1,c.2,none⟩)
abbrev RI (E:Env)(w:World)(v:Value)(xs:List Tr)(o:Nat):Prop:=∃ g p vs,v=.pointer (some ⟨g,p+o,none⟩)/\E.rl g=.bH/\g < w.heap.size/\(∀ (i:Nat) u,vs[i]? = some u->w.cell? ⟨g,p+i,none⟩=some u)/\jK E.F w vs xs
def R1 (E:Env)(w:World)(v:Value):AV->Prop
 | .c x=>RC E w v x
 | .agg xs=>∃ vs,v=.agg vs.toArray/\A2 (RC E w) vs xs
 | .ptr b o=>v=.pointer (some ⟨E.bk b,o,none⟩)
 | .dL xs o=>∃ g p vs,v=.pointer (some ⟨g,p+o,none⟩)/\E.rl g=.bH/\g < w.heap.size/\(∀ (i:Nat) u,vs[i]? = some u->w.cell? ⟨g,p+i,none⟩=some u)/\jK E.F w vs xs
 | .dX τ bA k i o=>∃ g n c,E.vl τ bA=.slice (some ⟨g,0,none⟩) n c/\v=.pointer (some ⟨g,i*k+o,none⟩)
 | .sub τ bA k i=>∃ ao n c,E.vl τ bA=.slice ao n c/\v=.slice (if c=i then ao else ao.map (·.add (i*k))) (n - i) (c - i)
 | .e9=>v=.pointer none
 | .fn f caps=>v=.func (.func f) #[] (caps.map (pc E)).toArray
 | .lL f caps=>∃ us:List Value,v=.func (.func f) #[] us.toArray/\A2 (fun u (c:List Tr × Nat)=>RI E w u c.1 c.2) us caps
 | .gi _=>False
 | .bot=>True
def RV (E:Env)(w:World)(v:Value):AV->Prop
 | .gi dh=>∃ vs,v=.tuple vs.toArray/\A2 (R1 E w) vs dh
 | a=>R1 E w v a
def Bk (w:World)(b:Nat)(t:TypeId)(cs:List Value):Prop:=w.heap[b]? = some (.cells cs.toArray t (0,0))
def RB (E:Env)(w:World)(n0:Nat)(i:Nat)(cs:List Ce):Prop:=∃ vs t,n0<=E.bk i/\Bk w (E.bk i) t vs/\E.rl (E.bk i)=.bx i/\A2 (RC E w) vs cs
structure I9 {k:Nat}(F:Nat->Prop)(w:World)(es:List (Cl k))(xs:List (List Tr)):Prop where
 len:es.length=xs.length
 at_:∀ (j:Nat) (vs:Cl k) (ts:List Tr),es[j]? = some vs->xs[j]? = some ts->jK F w vs.1 ts
def Ow (E:Env)(w:World)(n0:Nat)(q:jm)(ty k:Nat)(v:Value)(xs:List (List Tr)):Prop:=∃ es:List (Cl k),w.ownsRow n0 ty k v es.length (es.flatMap Subtype.val)/\I9 E.F w es xs/\∀ g,v.ownBlock=some g->E.rl g=q
def SO (E:Env)(w:World)(n0 τ j o:Nat)(d:Dp)(v:Value)(t:Tr):Prop:=
 (∀ ρ u,(j,o,ρ,u)∈d.ln->v=E.vl ρ u/\v.oneCell'=true)/\
 ((∀ ρ u,(j,o,ρ,u)∉d.ln)->(∀ ty k,(o,ty,k)∈d.D->j < d.c->∃ xs,t=.sl k xs/\Ow E w n0 (.jo τ j o) ty k v xs)/\((∀ ty k,(o,ty,k)∈d.D->¬ j < d.c)->RT E.F w v t))
structure EtD (E:Env)(w:World)(n0 τ:Nat)(d:Dp){k:Nat}(es:List (Cl k))(xs:List (List Tr)):Prop where
 len:es.length=xs.length
 ln:∀ (j:Nat) (vs:Cl k) (ts:List Tr),es[j]? = some vs->xs[j]? = some ts->ts.length=k
 one:∀ (j:Nat) (vs:Cl k),es[j]? = some vs->∀ u∈vs.1,u.oneCell'=true
 at_:∀ (j:Nat) (vs:Cl k) (ts:List Tr),es[j]? = some vs->xs[j]? = some ts->∀ (o:Nat) v t,vs.1[o]? = some v->ts[o]? = some t->SO E w n0 τ j o d v t
def RD (E:Env)(w:World)(n0:Nat)(τ:Nat)(d:Dp)(ty k:Nat)(v:Value)(xs:List (List Tr)):Prop:=∃ es:List (Cl k),w.ownsRow n0 ty k v es.length (es.flatMap Subtype.val)/\EtD E w n0 τ d es xs/\∀ g,v.ownBlock=some g->E.rl g=.rw τ
def RM (E:Env)(w:World)(n0 τ:Nat)(v:Value)(xs:List (List Tr)):Prop:=(v=.slice none 0 0/\xs=[])\/∃ g es clock,v=.map (some g)/\n0<=g/\w.heap[g]? = some (.map es clock)/\MpE es xs/\E.rl g=.jo τ 0 0
def RR (E:Env)(w:World)(n0:Nat)(τ:Nat)(R:Row):Prop:=match R.dp with
 | none=>Ow E w n0 (.rw τ) R.ty R.k (E.vl τ R.bA) R.xs
 | some d=>match d.iQ with
  | true=>RM E w n0 τ (E.vl τ R.bA) R.xs
  | false=>RD E w n0 τ d R.ty R.k (E.vl τ R.bA) R.xs
theorem RR.ow {E:Env}{w:World}{n0 τ:Nat}{R:Row}(h:RR E w n0 τ R)(hd:R.dp=none):Ow E w n0 (.rw τ) R.ty R.k (E.vl τ R.bA) R.xs:=by
 unfold RR at h;rw[hd] at h;exact h
theorem Ow.rr {E:Env}{w:World}{n0 τ:Nat}{R:Row}(hd:R.dp=none)(h:Ow E w n0 (.rw τ) R.ty R.k (E.vl τ R.bA) R.xs):RR E w n0 τ R:=by
 unfold RR;rw[hd];exact h
theorem RR.hd {E:Env}{w:World}{n0 τ:Nat}{R:Row}(h:RR E w n0 τ R)(hm:R.iQ=false):∃ es:List (Cl R.k),w.ownsRow n0 R.ty R.k (E.vl τ R.bA) es.length (es.flatMap Subtype.val)/\es.length=R.xs.length/\∀ g,(E.vl τ R.bA).ownBlock=some g->E.rl g=.rw τ:=by
 unfold RR at h;unfold Row.iQ at hm;split at h
 ·obtain⟨es,h1,h2,h3⟩:=h;exact⟨es,h1,h2.len,h3⟩
 ·rename_i d hd;rw[hd] at hm;simp only[hm] at h;obtain⟨es,h1,h2,h3⟩:=h;exact⟨es,h1,h2.len,h3⟩
theorem RR.mp {E:Env}{w:World}{n0 τ:Nat}{R:Row}(h:RR E w n0 τ R)(hm:R.iQ=true):RM E w n0 τ (E.vl τ R.bA) R.xs:=by
 unfold RR at h;unfold Row.iQ at hm;split at h
 ·rename_i hd;rw[hd] at hm
  cases hm
 ·rename_i d hd;rw[hd] at hm;simpa only[hm] using h
theorem RD.rr {E:Env}{w:World}{n0 τ:Nat}{R:Row}{d:Dp}(hd:R.dp=some d)(hm:d.iQ=false)(h:RD E w n0 τ d R.ty R.k (E.vl τ R.bA) R.xs):RR E w n0 τ R:=by
 unfold RR;simpa only[hd,hm] using h
theorem RM.rr {E:Env}{w:World}{n0 τ:Nat}{R:Row}{d:Dp}(hd:R.dp=some d)(hm:d.iQ=true)(h:RM E w n0 τ (E.vl τ R.bA) R.xs):RR E w n0 τ R:=by
 unfold RR;simpa only[hd,hm] using h
theorem RR.rd {E:Env}{w:World}{n0 τ:Nat}{R:Row}{d:Dp}(h:RR E w n0 τ R)(hd:R.dp=some d)(hm:d.iQ=false):RD E w n0 τ d R.ty R.k (E.vl τ R.bA) R.xs:=by
 unfold RR at h;simpa only[hd,hm] using h
structure iy where
 o:Nat->Prop
 g:Nat->Option Obj
 v:Nat->Option Value
 b:Nat->Option Nat
 n:Nat
 d:List Deferred
def Gl (w:World):Prop:=∃ m,w.cell? ⟨0,0,none⟩=some (.int .i64 m)
theorem Rm {w w':World}(h:Gl w)(e:w'.heap[0]? = w.heap[0]?):Gl w':=by
 obtain⟨m,h⟩:=h;exact⟨m,(World.cell?_of_block (a:=⟨0,0,none⟩) e).trans h⟩
theorem Gl.lt {w:World}(h:Gl w):0 < w.heap.size:=by obtain⟨m,h⟩:=h;exact block_lt_of_cell h
class GlC (O:iy):Prop where
 gl:∃ x,O.g 0=some x/\∀ w:World,w.heap[0]? = some x->Gl w
class eQ (O:iy):Prop extends GlC O where
 v:∀ j,O.v j=none
 b:∀ j,O.b j=none
def Ce.cP:Ce->List (Nat × Nat)
 | .row τ v=>[(τ,v)]
 | _=>[]
def AV.ig:AV->List (Nat × Nat)
 | .c x=>x.cP
 | .agg xs=>xs.flatMap Ce.cP
 | .dX τ v _ _ _=>[(τ,v)]
 | .sub τ v _ _=>[(τ,v)]
 | _=>[]
def AV.iu:AV->List Nat
 | .ptr b _=>[b]
 | .fn _ caps=>caps.map (·.1)
 | _=>[]
def AV.cP:AV->List (Nat × Nat)
 | .gi dh=>dh.flatMap AV.ig
 | a=>a.ig
def AV.ed:AV->List Nat
 | .gi dh=>dh.flatMap AV.iu
 | a=>a.iu
def St.hasB (st:St)(b:Nat):Prop:=∃ cs,lk st.bx b=some cs
def St.lJ (st:St)(p:Nat × Nat):Prop:=∃ R,lk st.rw p.1=some R/\p.2<=R.bA
structure Sc (m:Nat)(st:St):Prop where
 sb:∀ t,∀ b∈(st.get t).ed,st.hasB b
 sr:∀ t,∀ p∈(st.get t).cP,st.lJ p
 br:∀ b cs,lk st.bx b=some cs->∀ p∈cs.flatMap Ce.cP,st.lJ p
 fb:∀ b cs,lk st.bx b=some cs->b < m
 fr:∀ τ R,lk st.rw τ=some R->τ < m
 rl:∀ τ R d,lk st.rw τ=some R->R.dp=some d->∀ l∈d.ln,st.lJ l.2.2
structure cx (O:iy)(E:Env)(w:World)(n0 N m:Nat)(st:St)(a:Act):Prop where
 yn:a.defers=O.d
 sz:a.tmps.size=N
 slt:∀ t,RV E w (a.tmps.getD t undef) (st.get t)
 box:∀ i cs,lk st.bx i=some cs->RB E w n0 i cs
 row:∀ τ R,lk st.rw τ=some R->RR E w n0 τ R
 sc:Sc m st
 hi:n0<=w.heap.size
 nM:∀ b,b < n0->E.rl b=.bH/\O.o b\/E.rl b=.eH
 gh:∀ b x,O.g b=some x->w.heap[b]? = some x/\(E.rl b=.bH/\O.o b\/E.rl b=.eH/\¬ O.o b)
 Zu:∀ j V,O.v j=some V->E.vl j 0=V/\∃ R,lk st.rw j=some R
 MA:∀ j b,O.b j=some b->E.bk j=b/\∃ cs,lk st.bx j=some cs
 sn:O.n<=w.heap.size
theorem cx.gl {O:iy}[g:GlC O]{E:Env}{w:World}{n0 N m:Nat}{st:St}{a:Act}(r:cx O E w n0 N m st a):Gl w:=by
 obtain⟨x,h1,h2⟩:=g.gl;exact h2 w (r.gh 0 x h1).1
theorem cx.W9 {O:iy}[g:GlC O]{E:Env}{w:World}{n0 N m:Nat}{st:St}{a:Act}(r:cx O E w n0 N m st a):E.rl 0=.bH\/E.rl 0=.eH:=by
 obtain⟨x,h1,h2⟩:=g.gl;exact(r.gh 0 x h1).2.imp (·.1) (·.1)
theorem Cy {O:iy}{w:World}(h:Gl w)(e:O.g 0=w.heap[0]?):GlC O:=by
 obtain⟨x,hx⟩:∃ x,w.heap[0]? = some x:=⟨_,Array.getElem?_eq_getElem h.lt⟩
 exact⟨x,e.trans hx,fun w' h'=>Rm h (h'.trans hx.symm)⟩
theorem rL {O:iy}(hv:∀ j,O.v j=none)(hb:∀ j,O.b j=none){w:World}(h:Gl w)(e:O.g 0=w.heap[0]?):eQ O:={ Cy h e with v:=hv,b:=hb }
abbrev iE (O:iy)(E:Env)(w:World)(n0 N:Nat)(st:St)(a:Act):Prop:=cx O E w n0 N st.nx st a
section
def Ce.plain:Ce->Bool
 | .t _=>true
 | .nil=>true
 | .row _ _=>false
 | .bot=>false
def AV.plain:AV->Bool
 | .c x=>x.plain
 | .agg xs=>xs.all Ce.plain
 | .e9=>true
 | .dL _ _=>true
 | .lL _ _=>true
 | _=>false
def N3 (P:Program)(f:FuncId):Prop:=∀ args w,(callFunc f args).run P w=.ok (.enter f args) w
structure Ct (P:Program)(f:FuncId)(dh:List AV)(r:AV)(rs:List Row)(fresh:Bool):Prop where
 RJ:N3 P f
 uX:rs.length<=128
 shut:∀ R∈rs,R.shut=true
 plain:dh.all AV.plain=true
 nob:∀ x∈r.ed,False
 rid:∀ x∈r.cP,∃ R,rs[x.1]? = some R/\x.2<=R.bA
 run:∀ (w:World) (vs:List Value) (E0:Env),Gl w->A2 (R1 E0 w) vs dh->Calls P f vs.toArray w fun e w'=>∃ v,e=.returned v/\Below w.heap.size w w'/\
  ∃ E,RV E w' v r/\(∀ j R,rs[j]? = some R->RR E w' w.heap.size j R)/\(∀ b,b < w.heap.size->E.rl b=.bH->fresh=false/\E0.rl b=.bH)
structure Ja (P:Program)(f:FuncId)(dh:List AV)(ib:List (List Ce))(ir:List Row)(rv:AV)(ob:List (List Ce))(fF nr:List Row):Prop where
 RJ:N3 P f
 uX:nr.length<=128
 shut:∀ R∈fF++nr,R.shut=true
 lb:ob.length=ib.length
 lr:fF.length=ir.length
 vb:∀ b∈rv.ed,b < ib.length
 vr:∀ p∈rv.cP,∃ R:Row,(fF++nr)[p.1]? = some R/\p.2<=R.bA
 br:∀ (i:Nat) (cs:List Ce),ob[i]? = some cs->∀ p∈cs.flatMap Ce.cP,∃ R:Row,(fF++nr)[p.1]? = some R/\p.2<=R.bA
 run:∀ (w0 w:World) (vs:List Value) (E0:Env),Gl w->(E0.rl 0=.bH\/E0.rl 0=.eH)->Below w0.heap.size w0 w->A2 (R1 E0 w) vs dh->(∀ (i:Nat) cs,ib[i]? = some cs->RB E0 w w0.heap.size i cs)->(∀ (j:Nat) R,ir[j]? = some R->RR E0 w w0.heap.size j R)->
  (∀ b,E0.rl b=.bH\/E0.rl b=.eH\/(∃ i,i < ib.length/\E0.rl b=.bx i)\/(∃ j,j < ir.length/\E0.rl b=.rw j)\/∃ j x y,j < ir.length/\E0.rl b=.jo j x y)->(∀ b,b < w0.heap.size->E0.rl b=.bH\/E0.rl b=.eH)->
  Calls P f vs.toArray w fun e w'=>∃ v,e=.returned v/\Below w0.heap.size w0 w'/\w.heap.size<=w'.heap.size/\∃ E,RV E w' v rv/\(∀ i,i < ib.length->E.bk i=E0.bk i)/\(∀ (i:Nat) cs,ob[i]? = some cs->RB E w' w0.heap.size i cs)/\(∀ (j:Nat) R,(fF++nr)[j]? = some R->RR E w' w0.heap.size j R)/\(∀ j,j < ir.length->E.vl j 0=E0.vl j 0)/\
   ∀ b,b < w.heap.size->E0.rl b=.bH\/E0.rl b=.eH->w'.heap[b]? = w.heap[b]?/\E.rl b=E0.rl b
def kh (x:Nat):List Nat->Option Nat
 | []=>none
 | y :: r=>bif Nat.beq y x then some 0 else(match kh x r with
  | some i=>some (i+1)
  | none=>none)
def fT:List Nat->Bool
 | []=>true
 | x :: r=>match kh x r with
  | some _=>false
  | none=>fT r
def Ce.rn (mr:List (Nat × Nat))(id:Nat):Ce->Ce
 | .row j u=>match mr[j]? with
  | some (τ,v)=>.row τ (v+u)
  | none=>.row (id+(j - mr.length)) u
 | x=>x
def AV.Jw (mb:List Nat)(mr:List (Nat × Nat))(id:Nat):AV->AV
 | .c x=>.c (x.rn mr id)
 | .agg xs=>.agg (xs.map (Ce.rn mr id))
 | .ptr i o=>match mb[i]? with
  | some b=>.ptr b o
  | none=>.bot
 | .dX j u k i o=>match mr[j]? with
  | some (τ,v)=>.dX τ (v+u) k i o
  | none=>.dX (id+(j - mr.length)) u k i o
 | .e9=>.e9
 | .dL xs o=>.dL xs o
 | _=>.bot
def AV.rn (mb:List Nat)(mr:List (Nat × Nat))(id:Nat):AV->AV
 | .gi dh=>.gi (dh.map (AV.Jw mb mr id))
 | a=>a.Jw mb mr id
def Ll (mr:List (Nat × Nat))(c:Ce):Ce->Prop
 | .t y=>(match c with
  | .t x=>x=y
  | .nil=>∃ k,y=.sl k []
  | _=>False)
 | .nil=>(match c with
  | .nil=>True
  | _=>False)
 | .row j u=>(match mr[j]?,c with
  | some (τ,v),.row τ' v'=>τ'=τ/\v'=v+u
  | _,_=>False)
 | .bot=>True
def Gq (mr:List (Nat × Nat)):List Ce->List Ce->Prop
 | [],[]=>True
 | c :: cs,d :: ds=>Ll mr c d/\Gq mr cs ds
 | _,_=>False
def adB (mb:List Nat):List (Nat × Nat)->List (Nat × Nat)->Prop
 | [],[]=>True
 | (b,o) :: cs,(i,o') :: ds=>(match mb[i]? with
  | some x=>b=x/\o=o'
  | none=>False)/\adB mb cs ds
 | _,_=>False
def WY (mb:List Nat)(mr:List (Nat × Nat))(a:AV):AV->Prop
 | .c y=>(match a with
  | .c x=>Ll mr x y
  | _=>False)
 | .agg ys=>(match a with
  | .agg xs=>Gq mr xs ys
  | _=>False)
 | .ptr i o=>(match mb[i]?,a with
  | some b,.ptr b' o'=>b'=b/\o'=o
  | _,_=>False)
 | .dX j u k i o=>(match mr[j]?,a with
  | some (τ,v),.dX τ' v' k' i' o'=>τ'=τ/\v'=v+u/\k'=k/\i'=i/\o'=o
  | _,_=>False)
 | .e9=>(match a with
  | .e9=>True
  | _=>False)
 | .dL ys o=>(match a with
  | .dL xs o'=>xs=ys/\o'=o
  | _=>False)
 | .fn f ds=>(match a with
  | .fn g cs=>g=f/\adB mb cs ds
  | _=>False)
 | .bot=>True
 | _=>False
def Gn (mb:List Nat)(mr:List (Nat × Nat)):List AV->List AV->Prop
 | [],[]=>True
 | a :: dh,b :: bs=>WY mb mr a b/\Gn mb mr dh bs
 | _,_=>False
def zh (st:St)(mr:List (Nat × Nat)):List Nat->List (List Ce)->Prop
 | [],[]=>True
 | b :: bs,cs :: css=>(match lk st.bx b with
  | some us=>Gq mr us cs
  | none=>False)/\zh st mr bs css
 | _,_=>False
def Gp (st:St):List (Nat × Nat)->List Row->Prop
 | [],[]=>True
 | (τ,v) :: ms,R :: Rs=>(match lk st.rw τ with
  | some R'=>R'.bA=v/\R.bA=0/\R.ty=R'.ty/\R.k=R'.k/\R.xs=R'.xs/\R.dp=R'.dp/\R.shut=true
  | none=>False)/\Gp st ms Rs
 | _,_=>False
def rJ (mr:List (Nat × Nat))(id:Nat):List Nat->List (List Ce)->List (Nat × List Ce)
 | b :: bs,cs :: css=>(b,cs.map (Ce.rn mr id)) :: rJ mr id bs css
 | _,_=>[]
def mz:List (Nat × Nat)->List Row->List (Nat × Row)
 | (τ,v) :: ms,R :: Rs=>(τ,⟨R.ty,R.k,v+R.bA,R.xs,R.dp⟩) :: mz ms Rs
 | _,_=>[]
def pM (n:Nat):List Nat->Bool
 | []=>false
 | m :: r=>bif Nat.beq m n then true else pM n r
def wrL:List Nat:=[255,130,26,65,123,124,179,225]
def wrT:List Nat:=[]
def wrF (_:Nat->Option Ty):Operand->Bool
 | .func g=>pM g wrL
 | .tmp _=>(match wrT with
  | []=>false
  | _=>true)
 | _=>false
def rowsOf (st:St):List Nat->List Nat
 | []=>[]
 | b :: r=>(match lk st.bx b with
  | some cs=>(cs.flatMap Ce.cP).map (·.1)
  | none=>[])++rowsOf st r
def wrI:List Nat:=[]
def tyI:Nat:=3
def tyM (st:St)(mr:List (Nat × Nat)):Operand->Bool
 | .func g=>match pM g wrI with
  | true=>mr.all fun p=>match lk st.rw p.1 with
   | some R=>Nat.beq R.ty tyI
   | none=>false
  | false=>true
 | _=>true
def NM (T:Nat->Option Ty)(st:St)(f:Operand)(vs:List AV)(mb:List Nat)(mr:List (Nat × Nat)):Bool:=wrF T f&&(fT mb&&(fT (mr.map (·.1))&&(mb.all (fun b=>pM b (vs.flatMap AV.ed))&&(mr.all (fun p=>pM p.1 ((vs.flatMap AV.cP).map (·.1)++rowsOf st mb))&&tyM st mr f))))
def Gr (st:St):Ce->Ce->Prop
 | .t x,.t y=>x=y
 | .nil,.t y=>∃ k,y=.sl k []
 | .nil,.nil=>True
 | .row τ bA,.t y=>match lk st.rw τ with
  | some R=>R.bA=bA/\bi R.shut (y=R.tr)
  | none=>False
 | _,_=>False
def NK (st:St):List Ce->List Ce->Prop
 | [],[]=>True
 | x :: xs,y :: ys=>Gr st x y/\NK st xs ys
 | _,_=>False
def kp:List Ce->Option (List Tr)
 | []=>some []
 | .t x :: r=>match kp r with
  | some xs=>some (x :: xs)
  | none=>none
 | .nil :: r=>match kp r with
  | some xs=>some (.sl 0 [] :: xs)
  | none=>none
 | .row _ _ :: _=>none
 | .bot :: _=>none
def NJ (st:St):List (Nat × Nat)->List (List Tr × Nat)->Prop
 | [],[]=>True
 | (b,o) :: cs,(ys,o') :: ds=>(o=o'/\(match lk st.bx b with
  | some us=>kp us=some ys
  | none=>False))/\NJ st cs ds
 | _,_=>False
def Fit (st:St):AV->AV->Prop
 | .c x,.c y=>Gr st x y
 | .agg xs,.agg ys=>NK st xs ys
 | .e9,.e9=>True
 | .dL xs o,.dL ys o'=>xs=ys/\o=o'
 | .ptr b o,.dL ys o'=>NJ st [(b,o)] [(ys,o')]
 | .lL f cs,.lL g ds=>f=g/\cs=ds
 | .fn f cs,.lL g ds=>f=g/\NJ st cs ds
 | _,_=>False
def Fits (st:St):List AV->List AV->Prop
 | [],[]=>True
 | a :: dh,b :: bs=>Fit st a b/\Fits st dh bs
 | _,_=>False
def Ce.G1 (m:Nat):Ce->Ce
 | .row j v=>.row (m+j) v
 | x=>x
def AV.DW (m:Nat):AV->AV
 | .c x=>.c (x.G1 m)
 | .agg xs=>.agg (xs.map (Ce.G1 m))
 | .e9=>.e9
 | .lL f cs=>.lL f cs
 | _=>.bot
def AV.G1 (m:Nat):AV->AV
 | .gi dh=>.gi (dh.map (AV.DW m))
 | a=>a.DW m
def jV (m:Nat):Nat->List Row->List (Nat × Row)
 | _,[]=>[]
 | j,R :: rs=>(m+j,R) :: jV m (j+1) rs
def HJ (dh:List AV):Bool:=dh.all fun a=>a.cP.isEmpty&&a.ed.isEmpty
def pY (dh:List AV):AV->Option (Nat × List AV)
 | .fn g caps=>some (g,dh++caps.map fun c=>.ptr c.1 c.2)
 | .lL g caps=>some (g,dh++caps.map fun c=>.dL c.1 c.2)
 | _=>none
def xX (st:St):List Operand->Option (List (Nat × Nat))
 | []=>some []
 | x :: r=>match ev st x,xX st r with
  | .ptr b o,some cs=>some ((b,o) :: cs)
  | _,_=>none
def jU (st:St)(sz:Nat):Nat->List (Nat × Operand)->Option (List (List Tr))
 | _,[]=>some []
 | i,(j,x) :: r=>bif Nat.beq i j then(match gT (ev st x) with
   | some us=>match kp us with
    | some ts=>bif Nat.beq ts.length sz then(match jU st sz (i+1) r with
     | some xs=>some (ts :: xs)
     | none=>none) else none
    | none=>none
   | none=>none) else none
def kq (st:St)(pl:Nat->Option (Nat × Nat)):List (Nat × Operand)->List Ce->Option (List Ce)
 | [],cs=>some cs
 | (j,x) :: r,cs=>match pl j,gT (ev st x) with
  | some (off,sz),some us=>bif Nat.beq us.length sz&&Nat.ble (off+us.length) cs.length then kq st pl r (lq cs off us) else none
  | _,_=>none
def Zk:AV->Option Bool
 | .e9=>some true
 | .ptr _ _=>some false
 | .dX _ _ _ _ _=>some false
 | .dL _ _=>some false
 | _=>none
def WB (T:Nat->Option Ty)(t:Nat)(op:BinOp):AV->AV->Option AV
 | .c (.t (.lit (.int k x))),.c (.t (.lit (.int k' y)))=>(match shI op k x y with
  | some v=>some (.c (.t (.lit v)))
  | none=>if k=k' then(match I3 op k x y with
   | some v=>some (.c (.t (.lit v)))
   | none=>none) else none)
 | .c (.t (.lit (.bool x))),.c (.t (.lit (.bool y)))=>match T t with
  | some ⟨.bas,_,_,_,_⟩=>(match alD op x y with
   | some v=>some (.c (.t (.lit v)))
   | none=>none)
  | _=>none
 | .c (.t (.lit (.string x))),.c (.t (.lit (.string y)))=>(match op with
  | .eql=>some (.b (x.toList==y.toList))
  | .neq=>some (.b (!(x.toList==y.toList)))
  | .lss=>some (.b (Go.Op.bytesLess x.toList y.toList))
  | .leq=>some (.b (Go.Op.bytesLess x.toList y.toList||x.toList==y.toList))
  | .gtr=>some (.b (!(Go.Op.bytesLess x.toList y.toList||x.toList==y.toList)))
  | .geq=>some (.b (!Go.Op.bytesLess x.toList y.toList))
  | _=>none)
 | .agg xs,.agg ys=>match T t,EI xs,EI ys with
  | some y,some us,some vs=>bif (y.isAgg&&!y.eq.isEmpty)&&(mj y.eq us&&mj y.eq vs) then(match op with
   | .eql=>some (.b (eV us vs))
   | .neq=>some (.b (!eV us vs))
   | _=>none) else none
  | _,_,_=>none
 | x,.e9=>match T t,Zk x with
  | some ⟨.ptr _,_,_,_,_⟩,some b=>(match op with
   | .eql=>some (.b b)
   | .neq=>some (.b (!b))
   | _=>none)
  | _,_=>none
 | _,_=>none
def unA:UnOp->AV->Option AV
 | .not,.c (.t (.lit (.bool b)))=>some (.b (!b))
 | .neg,.c (.t (.lit (.int k n)))=>some (.c (.t (.lit (.int k (k.wrap (0 - n))))))
 | _,_=>none
def dQ (T:Nat->Option Ty)(st:St):Op->Option AV
 | .move x=>some (ev st x)
 | .assign x=>some (ev st x)
 | .load t a=>match T t with
  | some y=>(match ev st a with
   | .ptr b o=>(match lk st.bx b with
    | some cs=>cut y cs o
    | none=>none)
   | .dL xs o=>vm y xs o
   | _=>none)
  | none=>none
 | .nilCheck x=>(match ev st x with
  | .ptr b o=>some (.ptr b o)
  | .dL xs o=>some (.dL xs o)
  | .dX τ v k i o=>some (.dX τ v k i o)
  | _=>none)
 | .binOp op t x y _=>WB T t op (ev st x) (ev st y)
 | .unOp op _ x=>unA op (ev st x)
 | .convert src dst x=>(match T src,T dst,ev st x with
  | some _,some ⟨.int k,_,_,_,_⟩,.c (.t (.lit (.int _ n)))=>some (.c (.t (.lit (.int k (k.wrap n)))))
  | some ⟨.string,_,_,_,_⟩,some ⟨.string,_,_,_,_⟩,.c (.t (.lit (.string s)))=>some (.s s)
  | _,_,_=>none)
 | .field t x f=>(match T t with
  | some ⟨.str fs,_,_,_,_⟩=>(match fs[f]? with
   | some (off,ft)=>(match T ft,ev st x with
    | some y,.agg cs=>cut y cs off
    | _,_=>none)
   | none=>none)
  | _=>none)
 | .fieldAddr t x f=>(match T t with
  | some ⟨.str fs,_,_,_,_⟩=>(match fs[f]? with
   | some (off,ft)=>(match T ft with
    | some y=>bif Nat.blt 0 y.sz then(match ev st x with
     | .ptr b o=>some (.ptr b (o+off))
     | .dL xs o=>some (.dL xs (o+off))
     | .dX τ v k i o=>some (.dX τ v k i (o+off))
     | _=>none) else none
    | none=>none)
   | none=>none)
  | _=>none)
 | .extract x i=>(match ev st x with
  | .gi vs=>vs[i]?
  | _=>none)
 | .build t parts=>(match T t with
  | some ⟨.str fs,_,_,z,_⟩=>(match kq st (fun i=>match fs[i]? with
    | some (off,ft)=>(match T ft with
     | some y=>some (off,y.sz)
     | none=>none)
    | none=>none) parts.toList z with
   | some cs=>some (.agg cs)
   | none=>none)
  | some ⟨.arr _ e,_,_,z,_⟩=>(match T e with
   | some y=>(match kq st (fun i=>some (i*y.sz,y.sz)) parts.toList z with
    | some cs=>some (.agg cs)
    | none=>none)
   | none=>none)
  | _=>none)
 | .call c=>(match c.callee,c.args.toList,c.argTypes.toList with
  | .builtin .len,[x],[t]=>(match T t with
   | some ⟨.string,_,_,_,_⟩=>(match ev st x with
    | .c (.t (.lit (.string s)))=>some (.i s.size)
    | _=>none)
   | some ⟨.iU _,_,_,_,_⟩=>(match MD st (ev st x) with
    | some n=>some (.i n)
    | none=>none)
   | _=>none)
  | .builtin .max,[x,y],[_,_]=>(match ev st x,ev st y with
   | .c (.t (.lit (.int k n))),.c (.t (.lit (.int _ l)))=>some (.c (.t (.lit (.int k (if l > n then l else n)))))
   | _,_=>none)
  | .builtin .min,[x,y],[_,_]=>(match ev st x,ev st y with
   | .c (.t (.lit (.int k n))),.c (.t (.lit (.int _ l)))=>some (.c (.t (.lit (.int k (if l < n then l else n)))))
   | _,_=>none)
  | _,_,_=>none)
 | .makeFunc fn first caps=>(match fn,first.toList,xX st caps.toList with
  | .func f,[],some cs=>some (.fn f cs)
  | _,_,_=>none)
 | _=>none
def n7 (st:St)(i:Nat):Nat->List Ce->Option (List Tr × List (Nat × Nat × Nat × Nat))
 | _,[]=>some ([],[])
 | o,c :: cs=>match vW st c,n7 st i (o+1) cs with
  | some t,some (ts,nl)=>some (t :: ts,match c with
   | .row ρ u=>(i,o,ρ,u) :: nl
   | _=>nl)
  | _,_=>none
def Qn (i o n:Nat):List (Nat × Nat × Nat × Nat)->Prop
 | []=>True
 | l :: r=>(match Nat.ble o l.2.1&&Nat.blt l.2.1 (o+n) with
  | true=>l.1=i
  | false=>True)/\Qn i o n r
def oe (o n:Nat):List (Nat × Nat × Nat × Nat)->List (Nat × Nat × Nat × Nat)
 | []=>[]
 | l :: r=>match Nat.ble o l.2.1&&Nat.blt l.2.1 (o+n) with
  | true=>oe o n r
  | false=>l :: oe o n r
def Ad (o n:Nat):List (Nat × Nat × Nat × Nat)->Bool
 | []=>true
 | l :: r=>match Nat.ble o l.2.1&&Nat.blt l.2.1 (o+n) with
  | true=>false
  | false=>Ad o n r
def Mz (o:Nat):List (Nat × Nat × Nat × Nat)->Option (Nat × Nat × Nat)
 | []=>none
 | l :: r=>match Nat.beq l.2.1 o with
  | true=>some (l.1,l.2.2)
  | false=>Mz o r
def uV (o n:Nat):List (Nat × Nat × Nat)->Bool
 | []=>true
 | l :: r=>match Nat.ble o l.1&&Nat.blt l.1 (o+n) with
  | true=>false
  | false=>uV o n r
def Hx:Nat->List Ce->List (Nat × Nat × Nat)->Bool
 | _,[],_=>true
 | o,.row _ _ :: cs,D=>Hx (o+1) cs D
 | o,_ :: cs,D=>uV o 1 D&&Hx (o+1) cs D
def zg:List Ce->List Tr->Prop
 | [],[]=>True
 | .t x :: cs,y :: ys=>x=y/\zg cs ys
 | .nil :: cs,y :: ys=>(∃ k,y=.sl k [])/\zg cs ys
 | _,_=>False
def bound (st:St)(x:Option Operand)(z:Nat)(n:Nat):Prop:=match x with
 | none=>n=z
 | some x=>match ev st x with
  | .c (.t (.lit (.int _ m)))=>m=n
  | _=>False
section
variable (P:Program)(T:Nat->Option Ty)
def uu:List (List Tr)->Option (List UInt8)
 | []=>some []
 | [.lit (.int .u8 n)] :: r=>(match uu r with
  | some bs=>some (UInt8.ofNat n.toNat :: bs)
  | none=>none)
 | _ :: _=>none
def WPo (st:St)(id:Nat)(o:Oper)(K:Dl->Prop):Prop:=match o.op with
 | .pick c a b=>(match ev st c with
  | .c (.t (.lit (.bool t)))=>cond t ((ev st a).open_ fun v=>K (.val v)) ((ev st b).open_ fun v=>K (.val v))
  | _=>False)
 | .alloc e=>(match T e with
  | some y=>nX y.z fun z=>K ⟨.ptr id 0,[(id,z)],[]⟩
  | none=>False)
 | .box _ x=>(match gT (ev st x) with
  | some cs=>K ⟨.ptr id 0,[(id,cs)],[]⟩
  | none=>False)
 | .store t a x=>(match T t,gT (ev st x) with
  | some y,some us=>bi (Nat.beq us.length y.sz) <| (match ev st a with
   | .ptr b o=>(match lk st.bx b with
    | some cs=>bi (Nat.ble (o+us.length) cs.length) <| nX (lq cs o us) fun iH=>K ⟨.bot,[(b,iH)],[]⟩
    | none=>False)
   | .dX τ bA k i o=>(match lk st.rw τ,kp us with
    | some ⟨yS,rk,jT,qk,none⟩,some ts=>bi (Nat.beq jT bA&&Nat.beq rk k) <| ∃ xs,qk[i]? = some xs/\o+ts.length<=rk/\K ⟨.bot,[],[(τ,⟨yS,rk,jT,qk.set i (j4 xs o ts),none⟩)]⟩
    | some ⟨yS,rk,jT,qk,some d⟩,_=>(match n7 st i o us with
     | some (ts,nl)=>bi (Nat.beq jT bA&&Nat.beq rk k) <| ∃ xs,qk[i]? = some xs/\o+ts.length<=rk/\Qn i o ts.length d.ln/\(Hx o us d.D=true\/d.c<=i)/\K ⟨.bot,[],[(τ,⟨yS,rk,jT,qk.set i (j4 xs o ts),some ⟨d.D,d.c,nl++oe o ts.length d.ln⟩⟩)]⟩
     | none=>False)
    | _,_=>False)
   | _=>False)
  | _,_=>False)
 | .load t a=>(match ev st a with
  | .dX τ bA k i o=>(match T t,lk st.rw τ with
   | some y,some R=>bi (Nat.beq R.bA bA&&Nat.beq R.k k) <| (match R.dp with
    | none=>∃ xs v,R.xs[i]? = some xs/\vm y xs o=some v/\K (.val v)
    | some d=>(match Ad o y.wd d.ln with
     | true=>∃ xs v,R.xs[i]? = some xs/\vm y xs o=some v/\(uV o y.wd d.D=true\/d.c<=i)/\K (.val v)
     | false=>(match Mz o d.ln with
      | some (i',ρ,u)=>bi (!y.isAgg) <| i'=i/\i < R.xs.length/\o < R.k/\K (.val (.c (.row ρ u)))
      | none=>False)))
   | _,_=>False)
  | _=>match dQ T st o.op with
   | some v=>v.open_ fun v=>K (.val v)
   | none=>False)
 | .indexAddr t x ix=>(match T t,ev st ix with
  | some ⟨.iU e,_,_,_,_⟩,.c (.t (.lit (.int _ n)))=>(match T e,ev st x with
   | some y,.c (.t (.sl k xs))=>bi (Nat.beq k y.sz) <| ∃ (j:Nat) (ts:List Tr),n=j/\xs[j]? = some ts/\K (.val (.dL ts 0))
   | some y,.c (.row τ bA)=>(match lk st.rw τ with
    | some R=>bi (Nat.beq R.bA bA&&(Nat.beq R.k y.sz&&!R.iQ)) <| ∃ j:Nat,n=j/\j < R.xs.length/\K (.val (.dX τ bA R.k j 0))
    | none=>False)
   | _,_=>False)
  | some ⟨.arr m e,_,_,_,_⟩,.c (.t (.lit (.int _ n)))=>(match T e,ev st x with
   | some y,.ptr b o=>∃ j:Nat,n=j/\j < m/\K (.val (.ptr b (o+j*y.sz)))
   | some y,.dL xs o=>∃ j:Nat,n=j/\j < m/\K (.val (.dL xs (o+j*y.sz)))
   | some y,.dX τ bA k i o=>∃ j:Nat,n=j/\j < m/\K (.val (.dX τ bA k i (o+j*y.sz)))
   | _,_=>False)
  | _,_=>False)
 | .index t x ix=>(match T t,ev st x,ev st ix with
  | some ⟨.string,_,_,_,_⟩,.c (.t (.lit (.string s))),.c (.t (.lit (.int _ n)))=>∃ (j:Nat) (h:j < s.size),n=j/\K (.val (.c (.t (.lit (.int .u8 (s[j]'h).toNat)))))
  | some ⟨.arr m e,_,_,_,_⟩,.agg cs,.c (.t (.lit (.int _ n)))=>(match T e with
   | some y=>∃ (j:Nat) (v:AV),n=j/\j < m/\cut y cs (j*y.sz)=some v/\K (.val v)
   | none=>False)
  | _,_,_=>False)
 | .slice t x lo hi mx=>(match mx,T t,ev st x with
  | none,some ⟨.string,_,_,_,_⟩,.c (.t (.lit (.string s)))=>∃ l h:Nat,bound st lo 0 l/\bound st hi s.size h/\l<=h/\h<=s.size/\K (.val (.s (s.extract l h)))
  | none,some ⟨.iU e,_,_,_,_⟩,.c (.t (.sl k xs))=>(match T e with
   | some y=>bi (Nat.beq k y.sz) <| ∃ l h:Nat,bound st lo 0 l/\bound st hi xs.length h/\l<=h/\h<=xs.length/\K (.val (.c (.t (.sl k ((xs.take h).drop l)))))
   | none=>False)
  | none,some ⟨.iU e,_,_,_,_⟩,.c (.row τ bA)=>(match T e,lk st.rw τ,hi,lo with
   | some y,some R,none,lo=>bi (Nat.beq R.bA bA&&(Nat.beq R.k y.sz&&!R.iQ)) <| ∃ l:Nat,bound st lo 0 l/\l<=R.xs.length/\K (.val (.sub τ bA R.k l))
   | some y,some ⟨yS,rk,jT,qk,none⟩,some x,none=>bi (Nat.beq jT bA&&Nat.beq rk y.sz) <| ∃ h:Nat,bound st (some x) 0 h/\h<=qk.length/\K ⟨.c (.row τ (bA+1)),[],[(τ,⟨yS,rk,bA+1,qk.take h,none⟩)]⟩
   | _,_,_,_=>False)
  | _,_,_=>False)
 | .buildSlice t len parts=>(match T t with
  | some ⟨.iU e,_,_,_,_⟩=>(match T e with
   | some y=>(match jU st y.sz 0 parts.toList with
    | some xs=>bi (Nat.beq xs.length len&&(Nat.ble (len*y.sz) 10000&&Nat.blt 0 y.sz)) <| K ⟨.c (.row id 0),[],[(id,⟨e,y.sz,0,xs,none⟩)]⟩
    | none=>False)
   | none=>False)
  | _=>False)
 | .makeSlice t l c=>(match T t,ev st l,ev st c with
  | some ⟨.iU e,_,_,_,_⟩,.c (.t (.lit (.int _ n))),.c (.t (.lit (.int _ n')))=>(match T e with
   | some y=>∃ (k:Nat) (zs:List Tr),(n=k/\n'=k)/\zg y.z zs/\(k*y.lP<=140737488355328/\k < 140737488355328)/\K ⟨.c (.row id 0),[],[(id,⟨e,y.sz,0,List.replicate k zs,none⟩)]⟩
   | none=>False)
  | _,_,_=>False)
 | .call c=>(match c.callee with
  | .value f=>(match pY (c.args.toList.map (ev st)) (ev st f) with
   | some (g,vs)=>(∃ dh r rs fresh,Fits st vs dh/\Ct P g dh r rs fresh/\(fresh=true\/HJ vs=true)/\K ⟨r.G1 id,[],jV id 0 rs⟩)\/
    ∃ mb mr dh ib ir rv ob fF nr,(Gn mb mr vs dh/\zh st mr mb ib/\Gp st mr ir)/\NM T st f vs mb mr=true/\Ja P g dh ib ir rv ob fF nr/\K ⟨rv.rn mb mr id,rJ mr id mb ob,mz mr fF++jV id 0 nr⟩
   | none=>False)
  | .builtin .append=>(match c.args.toList,c.argTypes.toList with
   | [s,x],[t,t']=>bi (Nat.beq t t') <| (match T t with
    | some ⟨.iU e,_,_,_,_⟩=>(match T e,gS st (ev st x) with
     | some y,some (k,ys)=>(match ev st s with
      | .c .nil=>bi (Nat.blt 0 y.sz) <| (k=y.sz\/ys=[])/\ys.length*y.lP<=140737488355328/\ys.length < 140737488355328/\K ⟨.c (.row id 0),[],[(id,⟨e,y.sz,0,ys,none⟩)]⟩
      | .c (.row τ bA)=>(match lk st.rw τ with
       | some ⟨yS,rk,jT,qk,none⟩=>bi (Nat.beq jT bA&&(Nat.beq rk y.sz&&(Nat.beq yS e&&Nat.blt 0 y.sz))) <| (k=y.sz\/ys=[])/\(qk.length+ys.length)*y.lP<=140737488355328/\qk.length+ys.length < 140737488355328/\K ⟨.c (.row τ (bA+1)),[],[(τ,⟨yS,rk,bA+1,qk++ys,none⟩)]⟩
       | _=>False)
      | _=>False)
     | _,_=>False)
    | _=>False)
   | _,_=>False)
  | .builtin .clear=>(match c.args.toList,c.argTypes.toList with
   | [x],[t]=>(match T t,ev st x with
    | some ⟨.iU e,_,_,_,_⟩,.sub τ bA k i=>(match T e,lk st.rw τ with
     | some y,some ⟨yS,rk,jT,qk,none⟩=>bi (Nat.beq jT bA&&(Nat.beq rk k&&Nat.beq rk y.sz)) <| ∃ zs,zg y.z zs/\i<=qk.length/\K ⟨.bot,[],[(τ,⟨yS,rk,jT,qk.take i++List.replicate (qk.length - i) zs,none⟩)]⟩
     | _,_=>False)
    | _,_=>False)
   | _,_=>False)
  | .builtin .copy=>(match c.args.toList,c.argTypes.toList with
   | [s,x],[t,_]=>(match T t,ev st s,ev st x with
    | some ⟨.iU e,_,_,_,_⟩,.c (.row τ bA),.c (.t (.sl k ys))=>(match T e,lk st.rw τ with
     | some y,some ⟨yS,rk,jT,qk,none⟩=>bi (Nat.beq jT bA&&(Nat.beq rk y.sz&&Nat.beq yS e)) <| (k=y.sz\/ys=[])/\ys.length<=qk.length/\K ⟨.i ys.length,[],[(τ,⟨yS,rk,jT,ys++qk.drop ys.length,none⟩)]⟩
     | _,_=>False)
    | _,_,_=>False)
   | _,_=>False)
  | .builtin .len=>(match c.args.toList,c.argTypes.toList with
   | [x],[t]=>(match T t,ev st x with
    | some ⟨.map _ _,_,_,_,_⟩,.c (.row _ _)=>False
    | _,_=>match dQ T st o.op with
     | some v=>v.open_ fun v=>K (.val v)
     | none=>False)
   | _,_=>match dQ T st o.op with
    | some v=>v.open_ fun v=>K (.val v)
    | none=>False)
  | _=>match dQ T st o.op with
   | some v=>v.open_ fun v=>K (.val v)
   | none=>False)
 | .binOp .add _ x y _=>(match ev st x,ev st y with
  | .c (.t (.lit (.string a))),.c (.t (.lit (.string b)))=>a.size+b.size<=9223372036854775807/\K (.val (.s (a++b)))
  | _,_=>match dQ T st o.op with
   | some v=>v.open_ fun v=>K (.val v)
   | none=>False)
 | .binOp .rem _ x y _=>(match ev st x,ev st y with
  | .c (.t (.lit (.int k a))),.c (.t (.lit (.int k' b)))=>k=k'/\b≠0/\K (.val (.c (.t (.lit (.int k (a.tmod b))))))
  | _,_=>False)
 | .binOp .quo _ x y _=>(match ev st x,ev st y with
  | .c (.t (.lit (.int k a))),.c (.t (.lit (.int k' b)))=>k=k'/\b≠0/\K (.val (.c (.t (.lit (.int k (k.wrap (a.tdiv b)))))))
  | _,_=>False)
 | .convert src dst x=>(match T src,T dst with
  | some ⟨.iU e,_,_,_,_⟩,some ⟨.string,_,_,_,_⟩=>(match T e,gS st (ev st x) with
   | some ⟨.int .u8,_,_,_,_⟩,some (1,xs)=>(match uu xs with
    | some bs=>K (.val (.s ⟨bs.toArray⟩))
    | none=>False)
   | _,_=>False)
  | _,_=>match dQ T st o.op with
   | some v=>v.open_ fun v=>K (.val v)
   | none=>False)
 | op=>match dQ T st op with
  | some v=>v.open_ fun v=>K (.val v)
  | none=>False
inductive nw (st:St) (id:Nat):Op->Dl->Prop
 | pure {op:Op} {v:AV}:dQ T st op=some v->nw st id op (.val v)
 | pick {c a b:Operand} {t:Bool}:ev st c=.c (.t (.lit (.bool t)))->nw st id (.pick c a b) (.val (cond t (ev st a) (ev st b)))
 | cat {t t':Nat} {x y:Operand} {a b:ByteArray}:ev st x=.c (.t (.lit (.string a)))->ev st y=.c (.t (.lit (.string b)))->a.size+b.size<=9223372036854775807->nw st id (.binOp .add t x y t') (.val (.s (a++b)))
 | cvs {src dst e:Nat} {x:Operand} {s1 b1 s2 b2 s3 b3:Nat} {z1 z2 z3:List Ce} {q1 q2 q3:List Lk} {xs:List (List Tr)} {bs:List UInt8}:T src=some ⟨.iU e,s1,b1,z1,q1⟩->T dst=some ⟨.string,s2,b2,z2,q2⟩->T e=some ⟨.int .u8,s3,b3,z3,q3⟩->gS st (ev st x)=some (1,xs)->uu xs=some bs->nw st id (.convert src dst x) (.val (.s ⟨bs.toArray⟩))
 | alloc {e:Nat} {y:Ty}:T e=some y->nw st id (.alloc e) ⟨.ptr id 0,[(id,y.z)],[]⟩
 | box {e:Nat} {x:Operand} {cs:List Ce}:gT (ev st x)=some cs->nw st id (.box e x) ⟨.ptr id 0,[(id,cs)],[]⟩
 | qe {t:Nat} {a x:Operand} {y:Ty} {us:List Ce} {b o:Nat} {cs:List Ce}:T t=some y->gT (ev st x)=some us->us.length=y.sz->ev st a=.ptr b o->lk st.bx b=some cs->o+us.length<=cs.length->nw st id (.store t a x) ⟨.bot,[(b,lq cs o us)],[]⟩
 | qc {t:Nat} {a x:Operand} {y:Ty} {us:List Ce} {ts:List Tr} {τ bA k i o:Nat} {R:Row} {xs:List Tr}:T t=some y->gT (ev st x)=some us->us.length=y.sz->ev st a=.dX τ bA k i o->lk st.rw τ=some R->R.bA=bA->R.k=k->R.dp=none->kp us=some ts->R.xs[i]? = some xs->o+ts.length<=R.k->
   nw st id (.store t a x) ⟨.bot,[],[(τ,{ R with xs:=R.xs.set i (j4 xs o ts) })]⟩
 | Ab {t:Nat} {a:Operand} {y:Ty} {τ bA k i o:Nat} {R:Row} {xs:List Tr} {v:AV}:ev st a=.dX τ bA k i o->T t=some y->lk st.rw τ=some R->R.bA=bA->R.k=k->R.dp=none->R.xs[i]? = some xs->vm y xs o=some v->nw st id (.load t a) (.val v)
 | qd {t:Nat} {a x:Operand} {y:Ty} {us:List Ce} {ts:List Tr} {nl:List (Nat × Nat × Nat × Nat)} {τ bA k i o:Nat} {R:Row} {d:Dp} {xs:List Tr}:T t=some y->gT (ev st x)=some us->us.length=y.sz->ev st a=.dX τ bA k i o->lk st.rw τ=some R->R.bA=bA->R.k=k->R.dp=some d->n7 st i o us=some (ts,nl)->R.xs[i]? = some xs->o+ts.length<=R.k->Qn i o ts.length d.ln->(Hx o us d.D=true\/d.c<=i)->
   nw st id (.store t a x) ⟨.bot,[],[(τ,{ R with xs:=R.xs.set i (j4 xs o ts),dp:=some ⟨d.D,d.c,nl++oe o ts.length d.ln⟩ })]⟩
 | Ac {t:Nat} {a:Operand} {y:Ty} {τ bA k i o:Nat} {R:Row} {d:Dp} {xs:List Tr} {v:AV}:ev st a=.dX τ bA k i o->T t=some y->lk st.rw τ=some R->R.bA=bA->R.k=k->R.dp=some d->Ad o y.wd d.ln=true->R.xs[i]? = some xs->vm y xs o=some v->(uV o y.wd d.D=true\/d.c<=i)->nw st id (.load t a) (.val v)
 | Aa {t:Nat} {a:Operand} {y:Ty} {τ bA k i o ρ u:Nat} {R:Row} {d:Dp}:ev st a=.dX τ bA k i o->T t=some y->lk st.rw τ=some R->R.bA=bA->R.k=k->R.dp=some d->Mz o d.ln=some (i,ρ,u)->y.isAgg=false->i < R.xs.length->o < R.k->nw st id (.load t a) (.val (.c (.row ρ u)))
 | ixT {t e:Nat} {x ix:Operand} {s b:Nat} {z:List Ce} {q:List Lk} {kk:IntKind} {n:Int} {y:Ty} {k:Nat} {xs:List (List Tr)} {j:Nat} {ts:List Tr}:T t=some ⟨.iU e,s,b,z,q⟩->ev st ix=.c (.t (.lit (.int kk n)))->T e=some y->ev st x=.c (.t (.sl k xs))->k=y.sz->n=j->xs[j]? = some ts->nw st id (.indexAddr t x ix) (.val (.dL ts 0))
 | VE {t e:Nat} {x ix:Operand} {s b:Nat} {z:List Ce} {q:List Lk} {kk:IntKind} {n:Int} {y:Ty} {τ bA:Nat} {R:Row} {j:Nat}:T t=some ⟨.iU e,s,b,z,q⟩->ev st ix=.c (.t (.lit (.int kk n)))->T e=some y->ev st x=.c (.row τ bA)->lk st.rw τ=some R->R.bA=bA->R.k=y.sz->R.iQ=false->n=j->j < R.xs.length->nw st id (.indexAddr t x ix) (.val (.dX τ bA R.k j 0))
 | QL {t m e:Nat} {x ix:Operand} {s b:Nat} {z:List Ce} {q:List Lk} {kk:IntKind} {n:Int} {y:Ty} {g o j:Nat}:T t=some ⟨.arr m e,s,b,z,q⟩->ev st ix=.c (.t (.lit (.int kk n)))->T e=some y->ev st x=.ptr g o->n=j->j < m->nw st id (.indexAddr t x ix) (.val (.ptr g (o+j*y.sz)))
 | QM {t m e:Nat} {x ix:Operand} {s b:Nat} {z:List Ce} {q:List Lk} {kk:IntKind} {n:Int} {y:Ty} {xs:List Tr} {o j:Nat}:T t=some ⟨.arr m e,s,b,z,q⟩->ev st ix=.c (.t (.lit (.int kk n)))->T e=some y->ev st x=.dL xs o->n=j->j < m->nw st id (.indexAddr t x ix) (.val (.dL xs (o+j*y.sz)))
 | QN {t m e:Nat} {x ix:Operand} {s b:Nat} {z:List Ce} {q:List Lk} {kk:IntKind} {n:Int} {y:Ty} {τ bA k i o j:Nat}:T t=some ⟨.arr m e,s,b,z,q⟩->ev st ix=.c (.t (.lit (.int kk n)))->T e=some y->ev st x=.dX τ bA k i o->n=j->j < m->nw st id (.indexAddr t x ix) (.val (.dX τ bA k i (o+j*y.sz)))
 | MF {t:Nat} {x ix:Operand} {s b:Nat} {z:List Ce} {q:List Lk} {kk:IntKind} {n:Int} {str:ByteArray} {j:Nat} (h:j < str.size):T t=some ⟨.string,s,b,z,q⟩->ev st x=.c (.t (.lit (.string str)))->ev st ix=.c (.t (.lit (.int kk n)))->n=j->nw st id (.index t x ix) (.val (.c (.t (.lit (.int .u8 (str[j]'h).toNat)))))
 | ixA {t m e:Nat} {x ix:Operand} {s b:Nat} {z:List Ce} {q:List Lk} {kk:IntKind} {n:Int} {y:Ty} {cs:List Ce} {j:Nat} {v:AV}:T t=some ⟨.arr m e,s,b,z,q⟩->ev st x=.agg cs->ev st ix=.c (.t (.lit (.int kk n)))->T e=some y->n=j->j < m->cut y cs (j*y.sz)=some v->nw st id (.index t x ix) (.val v)
 | slS {t:Nat} {x:Operand} {lo hi:Option Operand} {s b:Nat} {z:List Ce} {q:List Lk} {str:ByteArray} {l h:Nat}:T t=some ⟨.string,s,b,z,q⟩->ev st x=.c (.t (.lit (.string str)))->bound st lo 0 l->bound st hi str.size h->l<=h->h<=str.size->nw st id (.slice t x lo hi none) (.val (.s (str.extract l h)))
 | slT {t e:Nat} {x:Operand} {lo hi:Option Operand} {s b:Nat} {z:List Ce} {q:List Lk} {y:Ty} {k:Nat} {xs:List (List Tr)} {l h:Nat}:T t=some ⟨.iU e,s,b,z,q⟩->ev st x=.c (.t (.sl k xs))->T e=some y->k=y.sz->bound st lo 0 l->bound st hi xs.length h->l<=h->h<=xs.length->nw st id (.slice t x lo hi none) (.val (.c (.t (.sl k ((xs.take h).drop l)))))
 | slR {t e:Nat} {x:Operand} {lo:Option Operand} {s b:Nat} {z:List Ce} {q:List Lk} {y:Ty} {τ bA:Nat} {R:Row} {l:Nat}:T t=some ⟨.iU e,s,b,z,q⟩->ev st x=.c (.row τ bA)->T e=some y->lk st.rw τ=some R->R.bA=bA->R.k=y.sz->R.iQ=false->bound st lo 0 l->l<=R.xs.length->nw st id (.slice t x lo none none) (.val (.sub τ bA R.k l))
 | slV {t e:Nat} {x hi:Operand} {s b:Nat} {z:List Ce} {q:List Lk} {y:Ty} {τ bA:Nat} {R:Row} {h:Nat}:T t=some ⟨.iU e,s,b,z,q⟩->ev st x=.c (.row τ bA)->T e=some y->lk st.rw τ=some R->R.bA=bA->R.k=y.sz->R.dp=none->bound st (some hi) 0 h->h<=R.xs.length->nw st id (.slice t x none (some hi) none) ⟨.c (.row τ (bA+1)),[],[(τ,{ R with bA:=bA+1,xs:=R.xs.take h })]⟩
 | clr {x:Operand} {t e:Nat} {s b:Nat} {z:List Ce} {q:List Lk} {y:Ty} {τ bA k i:Nat} {R:Row} {zs:List Tr}:T t=some ⟨.iU e,s,b,z,q⟩->T e=some y->ev st x=.sub τ bA k i->lk st.rw τ=some R->R.bA=bA->R.k=k->R.k=y.sz->R.dp=none->zg y.z zs->i<=R.xs.length->nw st id (.call ⟨.builtin .clear,#[x],#[t]⟩) ⟨.bot,[],[(τ,{ R with xs:=R.xs.take i++List.replicate (R.xs.length - i) zs })]⟩
 | mks {t e:Nat} {l c:Operand} {s b:Nat} {z:List Ce} {q:List Lk} {y:Ty} {kl kc:IntKind} {n:Nat} {zs:List Tr}:T t=some ⟨.iU e,s,b,z,q⟩->T e=some y->ev st l=.c (.t (.lit (.int kl (n:Int))))->ev st c=.c (.t (.lit (.int kc (n:Int))))->zg y.z zs->n*y.lP<=140737488355328->n < 140737488355328->nw st id (.makeSlice t l c) ⟨.c (.row id 0),[],[(id,⟨e,y.sz,0,List.replicate n zs,none⟩)]⟩
 | cpy {s x:Operand} {t t' e:Nat} {sz b:Nat} {z:List Ce} {q:List Lk} {y:Ty} {k:Nat} {ys:List (List Tr)} {τ bA:Nat} {R:Row}:T t=some ⟨.iU e,sz,b,z,q⟩->T e=some y->ev st x=.c (.t (.sl k ys))->ev st s=.c (.row τ bA)->lk st.rw τ=some R->R.bA=bA->R.k=y.sz->R.ty=e->R.dp=none->(k=y.sz\/ys=[])->ys.length<=R.xs.length->
   nw st id (.call ⟨.builtin .copy,#[s,x],#[t,t']⟩) ⟨.i ys.length,[],[(τ,{ R with xs:=ys++R.xs.drop ys.length })]⟩
 | bsl {t e:Nat} {len:Nat} {parts:Array (Nat × Operand)} {s b:Nat} {z:List Ce} {q:List Lk} {y:Ty} {xs:List (List Tr)}:T t=some ⟨.iU e,s,b,z,q⟩->T e=some y->jU st y.sz 0 parts.toList=some xs->xs.length=len->len*y.sz<=10000->0 < y.sz->nw st id (.buildSlice t len parts) ⟨.c (.row id 0),[],[(id,⟨e,y.sz,0,xs,none⟩)]⟩
 | call {f:Operand} {args:Array Operand} {s7:Array TypeId} {g:Nat} {vs dh:List AV} {r:AV} {rs:List Row} {fresh:Bool}:pY (args.toList.map (ev st)) (ev st f)=some (g,vs)->Fits st vs dh->Ct P g dh r rs fresh->(fresh=true\/HJ vs=true)->nw st id (.call ⟨.value f,args,s7⟩) ⟨r.G1 id,[],jV id 0 rs⟩
 | xY {f:Operand} {args:Array Operand} {s7:Array TypeId} {g:Nat} {vs dh:List AV} {mb:List Nat} {mr:List (Nat × Nat)} {ib:List (List Ce)} {ir:List Row} {rv:AV} {ob:List (List Ce)} {fF nr:List Row}:pY (args.toList.map (ev st)) (ev st f)=some (g,vs)->Gn mb mr vs dh->zh st mr mb ib->Gp st mr ir->NM T st f vs mb mr=true->Ja P g dh ib ir rv ob fF nr->nw st id (.call ⟨.value f,args,s7⟩) ⟨rv.rn mb mr id,rJ mr id mb ob,mz mr fF++jV id 0 nr⟩
 | NC {s x:Operand} {t e:Nat} {sz b:Nat} {z:List Ce} {q:List Lk} {y:Ty} {k:Nat} {ys:List (List Tr)}:T t=some ⟨.iU e,sz,b,z,q⟩->T e=some y->gS st (ev st x)=some (k,ys)->ev st s=.c .nil->(k=y.sz\/ys=[])->ys.length*y.lP<=140737488355328->ys.length < 140737488355328->0 < y.sz->
   nw st id (.call ⟨.builtin .append,#[s,x],#[t,t]⟩) ⟨.c (.row id 0),[],[(id,⟨e,y.sz,0,ys,none⟩)]⟩
 | NB {s x:Operand} {t e:Nat} {sz b:Nat} {z:List Ce} {q:List Lk} {y:Ty} {k:Nat} {ys:List (List Tr)} {τ bA:Nat} {R:Row}:T t=some ⟨.iU e,sz,b,z,q⟩->T e=some y->gS st (ev st x)=some (k,ys)->ev st s=.c (.row τ bA)->lk st.rw τ=some R->R.bA=bA->R.k=y.sz->R.ty=e->R.dp=none->(k=y.sz\/ys=[])->(R.xs.length+ys.length)*y.lP<=140737488355328->R.xs.length+ys.length < 140737488355328->0 < y.sz->
   nw st id (.call ⟨.builtin .append,#[s,x],#[t,t]⟩) ⟨.c (.row τ (bA+1)),[],[(τ,{ R with bA:=bA+1,xs:=R.xs++ys })]⟩
def WPh (id i:Nat)(o:Oper)(go:Bool)(st:St)(K:St->Prop):Prop:=st.open_ fun st=>match go with
 | true=>WPo P T st (id+128*i) o (fun d=>(st.app o.dst d).open_ K)
 | false=>(st.Uz o.dst (.gi [])).open_ K
def WPg (ops:Array Oper)(id i:Nat)(o:Oper)(st:St)(K:St->Prop):Prop:=match o.guard with
 | none=>WPo P T st (id+128*i) o fun d=>(st.app o.dst d).open_ K
 | some (g,want)=>match (ops[g]?).bind (·.dst) with
  | none=>False
  | some t=>match st.get t with
   | .c (.t (.lit (.bool b)))=>cond b (WPh P T id i o want (st.put t (AV.b true)) K) (WPh P T id i o (!want) (st.put t (AV.b false)) K)
   | .gi []=>(st.Uz o.dst (.gi [])).open_ K
   | _=>False
def kg (ops:Array Oper)(id i:Nat)(l:List Oper):St->(St->Prop)->Prop:=
 List.rec (motive:=fun _=>Nat->St->(St->Prop)->Prop) (fun _ st K=>K st) (fun o _ ih i st K=>WPg P T ops id i o st fun dc=>ih (i+1) dc K) l i
inductive Ex where
 | iV
 | exit (id:Nat)
 | ret
def Wz:Ce->Value->Bool
 | .t (.lit (.int k n)),.int k' n'=>decide (k=k')&&decide (n=n')
 | .t (.lit (.bool b)),.bool b'=>b==b'
 | .t (.lit (.string s)),.string s'=>s.data.size==0&&s'.data.size==0
 | .nil,.slice none 0 0=>true
 | .bot,.pointer none=>true
 | .bot,.map none=>true
 | _,_=>false
def pb:List Ce->List Value->Bool
 | [],[]=>true
 | c :: cs,v :: vs=>Wz c v&&pb cs vs
 | _,_=>false
def xm:List K->List Lk->Bool
 | [],[]=>true
 | .lit k :: ks,l :: ls=>decide (k=l)&&xm ks ls
 | _,_=>false
def iC (P:Program):List Field->List (Nat × Nat)->Bool
 | [],[]=>true
 | f :: fs,(o,t) :: r=>Nat.beq f.offset o&&Nat.beq f.type t&&(P.info? t).isSome&&iC P fs r
 | _,_=>false
def H5 (P:Program)(k e:Nat):Bool:=
 (match P.underlying k with
 | some (.int _)=>true
 | _=>false)&&(match P.info? e with
 | some i=>(match i.zero with
  | some (.int .i64 0)=>true
  | _=>false)
 | none=>false)
def gU (P:Program)(t:Nat)(y:Ty):Bool:=
 (match P.info? t with
 | some i=>Nat.beq i.size y.sz&&Nat.beq i.bytes y.lP&&(match i.zero with
  | some zv=>pb y.z zv.cells.toList&&Nat.beq zv.cells.size i.size
  | none=>false)
 | none=>false) &&
 (match y.k,P.underlying t with
 | .bas,some .bool=>true
 | .int k,some (.int k')=>decide (k=k')
 | .string,some .string=>true
 | .iU e,some (.slice e')=>Nat.beq e e'
 | .arr n e,some (.array n' e')=>Nat.beq n n'&&Nat.beq e e'
 | .str fs,some (.struct fl)=>iC P fl.toList fs
 | .ptr e,some (.pointer e')=>Nat.beq e e'
 | .map k e,some (.map k' e')=>(Nat.beq k k'&&Nat.beq e e')&&H5 P k e
 | _,_=>false) &&
 (y.eq.isEmpty||((match fE P 12 t with
 | some ks=>xm ks y.eq
 | none=>false)&&!P.eqGuardType P.depth t))
structure dz:Prop where
 ty:∀ t y,T t=some y->gU P t y=true
 mixed:P.follows .mixedOrders=true
def mo:Op->Bool
 | .move _=>false
 | .assign _=>false
 | .pick _ _ _=>false
 | .nilCheck _=>false
 | .binOp _ _ _ _ _=>false
 | .unOp _ _ _=>false
 | .field _ _ _=>false
 | .fieldAddr _ _ _=>false
 | .extract _ _=>false
 | .build _ _=>false
 | .index _ _ _=>false
 | .makeFunc _ _ _=>false
 | _=>true
def cH (T:Nat->Option Ty):Op->Bool
 | .store _ _ _=>true
 | .call ⟨.builtin .append,_,_⟩=>true
 | .call ⟨.builtin .copy,_,_⟩=>true
 | .call ⟨.builtin .clear,_,_⟩=>true
 | .mapUpdate _ _ _ _=>true
 | .slice t _ none (some _) none=>(match T t with
  | some ⟨.iU _,_,_,_,_⟩=>true
  | _=>false)
 | .call ⟨.value f,_,_⟩=>wrF T f
 | _=>false
def anc (acc:List Nat)(o:Oper):Nat:=o.after.toList.foldl (fun s e=>bif Region.binds .any e then s ||| 2 ^ e.on ||| acc.getD e.on 0 else s) 0
def qI:List Oper->List Nat->List Nat
 | [],acc=>acc
 | o :: r,acc=>qI r (acc++[anc acc o])
def ordered (b:List Nat)(i j:Nat):Bool:=(b.getD (max i j) 0).testBit (min i j)
def Nh (ops:List Oper):List Nat:=ops.filterMap (·.dst)
def isDst (t:Nat):Option Nat->Bool
 | some t'=>Nat.beq t' t
 | none=>false
def root:List Oper->Nat->Option Nat
 | [],t=>some t
 | o :: r,t=>match isDst t o.dst with
  | true=>(match o.op,o.guard with
   | .fieldAddr _ (.tmp u) _,_=>root r u
   | _,_=>none)
  | false=>root r t
def Yu (st:St)(ops:List Oper)(o:Op)(i:Nat)(o':Op)(j:Nat):Bool:=match o,o' with
 | .store _ (.tmp a) _,.load _ (.tmp c)=>(match root (ops.take i).reverse a,root (ops.take j).reverse c with
  | some r,some r'=>(match st.get r,st.get r' with
   | .ptr b _,.ptr b' _=>!Nat.beq b b'
   | _,_=>false)
  | _,_=>false)
 | _,_=>false
def wx:List Oper->Nat->Option Nat
 | [],t=>some t
 | o :: r,t=>match isDst t o.dst with
  | true=>(match o.op,o.guard with
   | .move (.tmp u),none=>wx r u
   | _,_=>none)
  | false=>wx r t
def apart (st:St)(ops:List Oper)(b i:Nat):Operand->Bool
 | .tmp t=>(match wx (ops.take i).reverse t with
  | some r=>!pM b (st.get r).ed
  | none=>false)
 | _=>true
def sK (st:St)(ops:List Oper)(b i:Nat):Op->Bool
 | .call ⟨.value f,args,_⟩=>apart st ops b i f&&args.toList.all (apart st ops b i)
 | .call ⟨.builtin .append,_,_⟩=>true
 | _=>false
def afU (T:Nat->Option Ty)(st:St)(ops:List Oper)(o:Op)(i:Nat)(o':Op)(j:Nat):Bool:=match o' with
 | .load _ (.tmp c)=>(match root (ops.take j).reverse c with
  | some r=>(match st.get r with
   | .ptr b _=>sK st ops b i o&&((match lk st.bx b with
    | some cs=>(cs.flatMap Ce.cP).isEmpty
    | none=>false)&&(ops.take j).zipIdx.all fun p=>!cH T p.1.op||sK st ops b p.2 p.1.op)
   | _=>false)
  | none=>false)
 | _=>false
def sU:List Oper->Nat->Bool
 | [],_=>false
 | o :: r,t=>match isDst t o.dst with
  | true=>(match o.op,o.guard with
   | .alloc _,none=>true
   | _,_=>false)
  | false=>sU r t
def afV (st:St)(ops:List Oper)(o:Op)(i:Nat)(o':Op)(j:Nat):Bool:=match o,o' with
 | .store _ (.tmp a) _,.load _ (.tmp c)=>sU (ops.take i).reverse a&&(match root (ops.take j).reverse c with
  | some r=>(match st.get r with
   | .ptr b _=>(match lk st.bx b with
    | some _=>true
    | none=>false)
   | _=>false)
  | none=>false)
 | _,_=>false
def uF:List Oper->Nat->Option Nat
 | [],t=>some t
 | o :: r,t=>match isDst t o.dst with
  | true=>(match o.op,o.guard with
   | .fieldAddr _ (.tmp u) _,none=>uF r u
   | .nilCheck (.tmp u),none=>uF r u
   | .move (.tmp u),none=>uF r u
   | _,_=>none)
  | false=>uF r t
def afT (T:Nat->Option Ty)(st:St)(ops:List Oper)(o:Op)(i:Nat)(o':Op)(j:Nat):Bool:=match o,o' with
 | .call ⟨.value (.func g),_,_⟩,.load _ (.tmp c)=>pM g wrI&&((ops.take i).all (fun p=>!cH T p.op)&&(match uF (ops.take j).reverse c with
  | some r=>(match st.get r with
   | .dX τ _ _ _ _=>(match lk st.rw τ with
    | some R=>!Nat.beq R.ty tyI
    | none=>false)
   | _=>false)
  | none=>false))
 | _,_=>false
def Yt (st:St)(ops:List Oper)(o':Op)(j:Nat):Bool:=match o',ops[j]? with
 | .lookup _ (.tmp m) _ _,some p=>p.guard.isNone&&(match wx (ops.take j).reverse m with
  | some r=>(match st.get r with
   | .c (.t _)=>true
   | _=>false)
  | none=>false)
 | _,_=>false
def Lz (T:Nat->Option Ty)(st:St)(ops:List Oper)(o:Op)(i:Nat)(o':Op)(j:Nat):Bool:=Yu st ops o i o' j||(afU T st ops o i o' j||(afV st ops o i o' j||(afT T st ops o i o' j||Yt st ops o' j)))
def xe (T:Nat->Option Ty)(st:St)(b:List Nat)(ops:List Oper):Bool:=ops.zipIdx.all fun p=>!mo p.1.op||ops.zipIdx.all fun q=>!mo q.1.op||!(cH T p.1.op||cH T q.1.op)||Nat.beq p.2 q.2||ordered b p.2 q.2||(Lz T st ops p.1.op p.2 q.1.op q.2||Lz T st ops q.1.op q.2 p.1.op p.2)
def QP (t:Nat):Operand->Bool
 | .tmp t'=>Nat.beq t' t
 | _=>false
def Tq (b:List Nat)(ops:List Oper):Bool:=ops.zipIdx.all fun p=>match p.1.dst with
 | none=>true
 | some t=>ops.zipIdx.all fun q=>!(q.1.op.operands.toList.any (QP t))||Nat.beq p.2 q.2||ordered b p.2 q.2
def KY (ops:List Oper):Bool:=ops.zipIdx.all fun p=>p.1.after.toList.all fun e=>!Region.binds .any e||Nat.blt e.on p.2
def Rl (ops:List Oper):Bool:=ops.all fun o=>match o.guard with
  | some (g,_)=>o.after.toList.any fun e=>Nat.beq e.on g&&Region.binds .any e
  | none=>true
def kC (N:Nat)(ops:Array Oper)(draw:Bool):Bool:=
 ops.toList.all (fun o=>match o.dst with
  | some d=>Nat.blt d N
  | none=>true) &&
 (!draw||(Tq (qI ops.toList []) ops.toList&&KY ops.toList&&Rl ops.toList&&(Nh ops.toList).Nodup))
def alN (N:Nat):Code->Bool
 | .skip=>true
 | .region _ ops draw=>kC N ops draw
 | .seq a b=>alN N a&&alN N b
 | .cond _ a b=>alN N a&&alN N b
 | .block _ c=>alN N c
 | .loop c=>alN N c
 | .exit _=>true
 | .ret=>true
 | _=>false
def mq (w0:World)(N:Nat)(O:iy)(Q:Ex->St->Prop):Exit->Act->World->Prop
 | .normal,a,w=>∃ st E,Q .iV st/\iE O E w w0.heap.size N st a/\Below w0.heap.size w0 w
 | .exit id,a,w=>∃ st E,Q (.exit id) st/\iE O E w w0.heap.size N st a/\Below w0.heap.size w0 w
 | .ret,a,w=>∃ st E,Q .ret st/\iE O E w w0.heap.size N st a/\Below w0.heap.size w0 w
 | _,_,_=>False
variable (N:Nat)(w0:World)(O:iy)
def Tp (c:Code)(st:St)(Q:Ex->St->Prop):Prop:=
 dz P T->alN N c=true->∀ E a w,iE O E w w0.heap.size N st a->Below w0.heap.size w0 w->c.wp P (mq w0 N O Q) a w
def xb (K:St->Prop)(Q:Ex->St->Prop)(e:Ex)(st:St):Prop:=match e with
 | .iV=>K st
 | e=>Q e st
def sN (id:Nat)(Q:Ex->St->Prop)(e:Ex)(st:St):Prop:=match e with
 | .exit i=>match Nat.beq i id with
  | true=>Q .iV st
  | false=>Q (.exit i) st
 | e=>Q e st
def WPr (cs:List Nat)(id:Nat)(ops:Array Oper)(d:Bool)(st:St)(Q:Ex->St->Prop):Prop:=match st with
 | ⟨Lx,Ny,LB,Eu⟩=>match cs.contains id with
  | true=>Tp P T N w0 O (.region id ops d) ⟨Lx,Ny,LB,Eu⟩ Q
  | false=>match !d||xe T ⟨Lx,Ny,LB,Eu⟩ (qI ops.toList []) ops.toList with
   | true=>kg P T ops Eu 0 ops.toList ⟨Lx,Ny,LB,Eu⟩ fun dc=>match dc with
    | ⟨sl,bx,rw,_⟩=>nY (Eu+128*ops.size) fun nx=>Q .iV ⟨sl,bx,rw,nx⟩
   | false=>False
def SD (c:Operand)(st:St)(A B:Prop):Prop:=match ev st c with
 | .c (.t (.lit (.bool t)))=>cond t A B
 | _=>False
def WP (cs:List Nat)(c:Code):St->(Ex->St->Prop)->Prop:=
 Code.rec (motive:=fun _=>St->(Ex->St->Prop)->Prop) (fun st Q=>Q .iV st) (fun id ops d st Q=>WPr P T N w0 O cs id ops d st Q) (fun _ _ QT QS st Q=>QT st (xb (fun dc=>QS dc Q) Q))
  (fun c _ _ QT QS st Q=>SD c st (QT st Q) (QS st Q)) (fun id _ ih st Q=>ih st (sN id Q)) (fun c _ st Q=>Tp P T N w0 O (.loop c) st Q) (fun _ _ _ _ _ _ _ _=>False) (fun id st Q=>Q (.exit id) st)
  (fun _ _ _ _=>False) (fun _ _ _=>False) (fun _ _ _=>False) (fun st Q=>Q .ret st) (fun _ _ _=>False) c
end
end
section
variable {O:iy}
theorem RC.fr {E E':Env}{w w':World}(hs:w.heap.size<=w'.heap.size)(hc:∀ b,E.rl b=.bH->b < w.heap.size->w'.heap[b]? = w.heap[b]?/\E'.rl b=.bH){v:Value}{x:Ce}(hv:∀ p∈x.cP,E'.vl p.1 p.2=E.vl p.1 p.2)(h:RC E w v x):RC E' w' v x:=by
 cases x with
 | t x=>exact RT.frame hs (fun b hb aU=>(hc b hb aU).1) (fun b hb aU=>(hc b hb aU).2) h
 | nil=>exact h
 | row τ bA=>exact⟨by rw[h.1,hv (τ,bA) aB],h.2⟩
 | bot=>exact h
theorem RC.one {E:Env}{w:World}{v:Value}{x:Ce}(h:RC E w v x):v.oneCell'=true:=by
 cases x with
 | t x=>exact RT.one h
 | nil=>rw[show v=_ from h];rfl
 | row τ bA=>exact h.2
 | bot=>exact h
theorem A2.one {E:Env}{w:World}:∀ {vs:List Value} {xs:List Ce},A2 (RC E w) vs xs->∀ u∈vs,u.oneCell'=true
 | _,_,.nil,_,hu=>by cases hu
 | _,_,.cons h1 h2,u,hu=>by
  rcases List.mem_cons.1 hu with rfl|hu
  ·exact h1.one
  ·exact A2.one h2 u hu
theorem A2.fr {E E':Env}{w w':World}(hs:w.heap.size<=w'.heap.size)(hc:∀ b,E.rl b=.bH->b < w.heap.size->w'.heap[b]? = w.heap[b]?/\E'.rl b=.bH){vs:List Value}{xs:List Ce}(hv:∀ p∈xs.flatMap Ce.cP,E'.vl p.1 p.2=E.vl p.1 p.2)(h:A2 (RC E w) vs xs):A2 (RC E' w') vs xs:=
 h.imp fun _ y hy hr=>hr.fr hs hc fun p hp=>hv p (List.mem_flatMap.2 ⟨y,hy,hp⟩)
theorem WA {E E':Env}{c:Nat × Nat}(h:E'.bk c.1=E.bk c.1):pc E' c=pc E c:=by
 unfold pc;rw[h]
theorem R1.fr {E E':Env}{w w':World}(hs:w.heap.size<=w'.heap.size)(hc:∀ b,E.rl b=.bH->b < w.heap.size->w'.heap[b]? = w.heap[b]?/\E'.rl b=.bH){v:Value}{a:AV}(hv:∀ p∈a.ig,E'.vl p.1 p.2=E.vl p.1 p.2)(hb:∀ b∈a.iu,E'.bk b=E.bk b)(h:R1 E w v a):R1 E' w' v a:=by
 cases a with
 | c x=>exact RC.fr hs hc hv h
 | agg xs=>
  obtain⟨vs,rfl,h⟩:=h;exact⟨vs,rfl,h.fr hs hc hv⟩
 | ptr b o=>
  show v=_;rw[hb b aB];exact h
 | dL xs o=>
  obtain⟨g,p,vs,rfl,h1,h2,h3,h4⟩:=h;exact⟨g,p,vs,rfl,(hc g h1 h2).2,cA h2 hs,fun i u hu=>(World.cell?_of_block (a:=⟨_,_,none⟩) (hc g h1 h2).1).trans (h3 i u hu),h4.frame hs (fun b hb aU=>(hc b hb aU).1) fun b hb aU=>(hc b hb aU).2⟩
 | dX τ bA k i o=>
  obtain⟨g,n,c,h1,h2⟩:=h;exact⟨g,n,c,by rw[hv (τ,bA) aB];exact h1,h2⟩
 | sub τ bA k i=>
  obtain⟨ao,n,c,h1,h2⟩:=h;exact⟨ao,n,c,by rw[hv (τ,bA) aB];exact h1,h2⟩
 | e9=>exact h
 | gi dh=>exact h
 | fn f caps=>
  show v=_;have e:caps.map (pc E')=caps.map (pc E):=List.map_congr_left fun c hc=>WA (hb c.1 (bL.2 ⟨c,hc,rfl⟩));rw[e];exact h
 | lL f caps=>
  obtain⟨us,rfl,h⟩:=h;refine⟨us,rfl,h.imp fun u c _ h=>?_⟩;obtain⟨g,p,vs,rfl,h1,h2,h3,h4⟩:=h;exact⟨g,p,vs,rfl,(hc g h1 h2).2,cA h2 hs,fun i u hu=>(World.cell?_of_block (a:=⟨_,_,none⟩) (hc g h1 h2).1).trans (h3 i u hu),h4.frame hs (fun b hb aU=>(hc b hb aU).1) fun b hb aU=>(hc b hb aU).2⟩
 | bot=>exact h
theorem RV.fr {E E':Env}{w w':World}(hs:w.heap.size<=w'.heap.size)(hc:∀ b,E.rl b=.bH->b < w.heap.size->w'.heap[b]? = w.heap[b]?/\E'.rl b=.bH){v:Value}{a:AV}(hv:∀ p∈a.cP,E'.vl p.1 p.2=E.vl p.1 p.2)(hb:∀ b∈a.ed,E'.bk b=E.bk b)(h:RV E w v a):RV E' w' v a:=by
 cases a with
 | gi dh=>
  obtain⟨vs,rfl,h⟩:=h;exact⟨vs,rfl,h.imp fun _ y hy hr=>R1.fr hs hc (fun p hp=>hv p (List.mem_flatMap.2 ⟨y,hy,hp⟩)) (fun b fa=>hb b (List.mem_flatMap.2 ⟨y,hy,fa⟩)) hr⟩
 | c x=>exact R1.fr (a:=.c x) hs hc hv hb h
 | agg xs=>exact R1.fr (a:=.agg xs) hs hc hv hb h
 | ptr b o=>exact R1.fr (a:=.ptr b o) hs hc hv hb h
 | dL xs o=>exact R1.fr (a:=.dL xs o) hs hc hv hb h
 | dX τ bA k i o=>exact R1.fr (a:=.dX τ bA k i o) hs hc hv hb h
 | sub τ bA k i=>exact R1.fr (a:=.sub τ bA k i) hs hc hv hb h
 | e9=>exact R1.fr (a:=.e9) hs hc hv hb h
 | fn f caps=>exact R1.fr (a:=.fn f caps) hs hc hv hb h
 | lL f caps=>exact R1.fr (a:=.lL f caps) hs hc hv hb h
 | bot=>exact⟨⟩
theorem Bk.lt {w:World}{b:Nat}{t:TypeId}{cs:List Value}(h:Bk w b t cs):b < w.heap.size:=(Array.getElem?_eq_some_iff.1 h).1
theorem RB.fr {E E':Env}{w w':World}{n0 i:Nat}{cs:List Ce}(hs:w.heap.size<=w'.heap.size)(hc:∀ b,E.rl b=.bH->b < w.heap.size->w'.heap[b]? = w.heap[b]?/\E'.rl b=.bH)(hv:∀ p∈cs.flatMap Ce.cP,E'.vl p.1 p.2=E.vl p.1 p.2)(hk:E'.bk i=E.bk i)(hb:E.bk i < w.heap.size->E.rl (E.bk i)=.bx i->w'.heap[E.bk i]? = w.heap[E.bk i]?/\E'.rl (E.bk i)=.bx i)(h:RB E w n0 i cs):RB E' w' n0 i cs:=by
 obtain⟨vs,t,h1,h2,h3,h4⟩:=h;obtain⟨b1,b2⟩:=hb h2.lt h3;exact⟨vs,t,by rw[hk];exact h1,by rw[hk];exact b1.trans h2,by rw[hk];exact b2,h4.fr hs hc hv⟩
theorem I9.fr {k:Nat}{F G:Nat->Prop}{w w':World}{es:List (Cl k)}{xs:List (List Tr)}(hs:w.heap.size<=w'.heap.size)(hb:∀ b,F b->b < w.heap.size->w'.heap[b]? = w.heap[b]?)(NY:∀ b,F b->b < w.heap.size->G b)(h:I9 F w es xs):I9 G w' es xs:=
 ⟨h.len,fun j vs ts h1 h2=>(h.at_ j vs ts h1 h2).frame hs hb NY⟩
theorem wR {w w':World}{B e size n:Nat}{v:Value}{xs:List Value}(h:w.ownsRow B e size v n xs)(hb:∀ g,v.ownBlock=some g->g < w.heap.size->w'.heap[g]? = w.heap[g]?):w'.ownsRow B e size v n xs:=by
 refine⟨h.1,?_⟩;rcases h.2 with hn|⟨g,cap,cur,rfl,hg,yl,rest⟩
 ·exact .inl hn
 ·exact .inr ⟨g,cap,cur,rfl,hg,by rw[hb g rfl (Array.getElem?_eq_some_iff.1 yl).1];exact yl,rest⟩
theorem Ow.fr {E E':Env}{w w':World}{n0:Nat}{q q':jm}{ty k:Nat}{v:Value}{xs:List (List Tr)}(hs:w.heap.size<=w'.heap.size)(hc:∀ b,E.rl b=.bH->b < w.heap.size->w'.heap[b]? = w.heap[b]?/\E'.rl b=.bH)(hb:∀ g,v.ownBlock=some g->g < w.heap.size->E.rl g=q->w'.heap[g]? = w.heap[g]?/\E'.rl g=q')(h:Ow E w n0 q ty k v xs):Ow E' w' n0 q' ty k v xs:=by
 obtain⟨es,h1,h2,h3⟩:=h;have aU:∀ g,v.ownBlock=some g->g < w.heap.size:=fun g hg=>(h1.lt g hg).2;exact⟨es,wR h1 fun g hg hl=>(hb g hg hl (h3 g hg)).1,h2.fr hs (fun b hb aU=>(hc b hb aU).1) fun b hb aU=>(hc b hb aU).2,fun g hg=>(hb g hg (aU g hg) (h3 g hg)).2⟩
theorem SO.fr {E E':Env}{w w':World}{n0 τ τ' j o:Nat}{d:Dp}{v:Value}{t:Tr}(hs:w.heap.size<=w'.heap.size)(hc:∀ b,E.rl b=.bH->b < w.heap.size->w'.heap[b]? = w.heap[b]?/\E'.rl b=.bH)(hl:∀ ρ u,(j,o,ρ,u)∈d.ln->E'.vl ρ u=E.vl ρ u)(hn:∀ g,g < w.heap.size->E.rl g=.jo τ j o->w'.heap[g]? = w.heap[g]?/\E'.rl g=.jo τ' j o)(h:SO E w n0 τ j o d v t):SO E' w' n0 τ' j o d v t:=by
 refine⟨fun ρ u hm=>by rw[hl ρ u hm];exact h.1 ρ u hm,fun fk=>⟨fun ty k hD hj=>?_,fun hD=>?_⟩⟩
 ·obtain⟨xs,h1,h2⟩:=(h.2 fk).1 ty k hD hj;exact⟨xs,h1,h2.fr hs hc fun g _ aU hr=>hn g aU hr⟩
 ·exact((h.2 fk).2 hD).frame hs (fun b hb aU=>(hc b hb aU).1) fun b hb aU=>(hc b hb aU).2
theorem RD.fr {E E':Env}{w w':World}{n0 τ τ' ty k:Nat}{d:Dp}{v:Value}{xs:List (List Tr)}(hs:w.heap.size<=w'.heap.size)(hc:∀ b,E.rl b=.bH->b < w.heap.size->w'.heap[b]? = w.heap[b]?/\E'.rl b=.bH)(hl:∀ l∈d.ln,E'.vl l.2.2.1 l.2.2.2=E.vl l.2.2.1 l.2.2.2)(hb:∀ g,v.ownBlock=some g->g < w.heap.size->E.rl g=.rw τ->w'.heap[g]? = w.heap[g]?/\E'.rl g=.rw τ')(hn:∀ g j o,g < w.heap.size->E.rl g=.jo τ j o->w'.heap[g]? = w.heap[g]?/\E'.rl g=.jo τ' j o)(h:RD E w n0 τ d ty k v xs):RD E' w' n0 τ' d ty k v xs:=by
 obtain⟨es,h1,h2,h3⟩:=h;have aU:∀ g,v.ownBlock=some g->g < w.heap.size:=fun g hg=>(h1.lt g hg).2;exact⟨es,wR h1 fun g hg hl=>(hb g hg hl (h3 g hg)).1,⟨h2.len,h2.ln,h2.one,fun j vs ts e1 e2 o u t e3 e4=>(h2.at_ j vs ts e1 e2 o u t e3 e4).fr hs hc (fun ρ u hm=>hl _ hm) fun g=>hn g j o⟩,fun g hg=>(hb g hg (aU g hg) (h3 g hg)).2⟩
theorem RR.fr {E E':Env}{w w':World}{n0 τ:Nat}{R:Row}(hs:w.heap.size<=w'.heap.size)(hc:∀ b,E.rl b=.bH->b < w.heap.size->w'.heap[b]? = w.heap[b]?/\E'.rl b=.bH)(hv:E'.vl τ R.bA=E.vl τ R.bA)(hl:∀ d,R.dp=some d->∀ l∈d.ln,E'.vl l.2.2.1 l.2.2.2=E.vl l.2.2.1 l.2.2.2)(hb:∀ g,(E.vl τ R.bA).ownBlock=some g->g < w.heap.size->E.rl g=.rw τ->w'.heap[g]? = w.heap[g]?/\E'.rl g=.rw τ)(hn:∀ g j o,g < w.heap.size->E.rl g=.jo τ j o->w'.heap[g]? = w.heap[g]?/\E'.rl g=.jo τ j o)(h:RR E w n0 τ R):RR E' w' n0 τ R:=by
 unfold RR at h ⊢;rw[hv];split at h
 ·exact h.fr hs hc hb
 ·rename_i d hd
  cases hm:d.iQ with
  | false=>
   rw[hm] at h;exact h.fr hs hc (hl d hd) hb hn
  | true=>
   rw[hm] at h;rcases h with h|⟨g,es,clock,e1,e2,e3,e4,e5⟩
   ·exact .inl h
   have hg:=hn g 0 0 (Array.getElem?_eq_some_iff.1 e3).1 e5;exact .inr ⟨g,es,clock,e1,e2,hg.1.trans e3,e4,hg.2⟩
theorem uL {w:World}{B B' e size n:Nat}{v:Value}{xs:List Value}(hB:B'<=B)(h:w.ownsRow B e size v n xs):w.ownsRow B' e size v n xs:=by
 refine⟨h.1,?_⟩;rcases h.2 with h|⟨g,cap,cur,h6,h7,h8⟩
 ·exact .inl h
 ·exact .inr ⟨g,cap,cur,h6,aX hB h7,h8⟩
theorem Ow.to {E E':Env}{w:World}{n0 n1:Nat}{q q':jm}{ty k:Nat}{v:Value}{xs:List (List Tr)}(hn:n1<=n0)(hc:∀ b,E.rl b=.bH->b < w.heap.size->E'.rl b=.bH)(hb:∀ g,n0<=g->g < w.heap.size->E.rl g=q->E'.rl g=q')(h:Ow E w n0 q ty k v xs):Ow E' w n1 q' ty k v xs:=by
 obtain⟨es,h1,h2,h3⟩:=h;exact⟨es,uL hn h1,h2.fr (ak _) (fun _ _ _=>rfl) hc,fun g hg=>hb g (h1.lt g hg).1 (h1.lt g hg).2 (h3 g hg)⟩
theorem kL {R:Row}{d:Dp}(h:R.shut=true)(hd:R.dp=some d):d.ln=[]:=by
 unfold Row.shut at h;rw[hd] at h;obtain⟨D,c,ln⟩:=d
 cases ln with
 | nil=>rfl
 | cons=>cases h
theorem RR.to {E E':Env}{w:World}{n0 n1 τ τ':Nat}{R R':Row}(hn:n1<=n0)(e1:R.ty=R'.ty)(e2:R.k=R'.k)(e3:R.xs=R'.xs)(e4:R.dp=R'.dp)(hs:R.shut=true)(hv:E'.vl τ' R'.bA=E.vl τ R.bA)(hc:∀ b,E.rl b=.bH->b < w.heap.size->E'.rl b=.bH)(hr:∀ b,n0<=b->b < w.heap.size->E.rl b=.rw τ->E'.rl b=.rw τ')(hq:∀ b j o,n0<=b->b < w.heap.size->E.rl b=.jo τ j o->E'.rl b=.jo τ' j o)(h:RR E w n0 τ R):RR E' w n1 τ' R':=by
 unfold RR at h ⊢;rw[hv,<- e1,<- e2,<- e3,<- e4]
 cases hd:R.dp with
 | none=>
  rw[hd] at h;exact h.to hn hc hr
 | some d=>
  rw[hd] at h;have hl:=kL hs hd
  cases hm:d.iQ with
  | true=>
   simp only[hm] at h ⊢;rcases h with h|⟨g,es,clock,e1,e2,e3,e4,e5⟩
   ·exact .inl h
   exact .inr ⟨g,es,clock,e1,aX hn e2,e3,e4,hq g 0 0 e2 (Array.getElem?_eq_some_iff.1 e3).1 e5⟩
  | false=>
  simp only[hm] at h ⊢;obtain⟨es,h1,h2,h3⟩:=h;refine⟨es,uL hn h1,⟨h2.len,h2.ln,h2.one,fun j vs ts p1 p2 o u t p3 p4=>?_⟩,fun g hg=>hr g (h1.lt g hg).1 (h1.lt g hg).2 (h3 g hg)⟩;obtain⟨_,h5⟩:=h2.at_ j vs ts p1 p2 o u t p3 p4;obtain⟨h6,h7⟩:=h5 (fun ρ u=>by rw[hl];exact List.not_mem_nil);refine⟨fun ρ u hm=>(by rw[hl] at hm;cases hm),fun _=>⟨fun ty k hD hj=>?_,fun hD=>(h7 hD).frame (ak _) (fun _ _ _=>rfl) hc⟩⟩;obtain⟨xs,p5,p6⟩:=h6 ty k hD hj;exact⟨xs,p5,p6.to hn hc fun g p7 p8=>hq g j o p7 p8⟩
structure Mv (st:St)(E:Env)(w:World)(E':Env)(w':World)(X Y:Nat->Prop):Prop where
 size:w.heap.size<=w'.heap.size
 lo:∀ b,b < w.heap.size->E.rl b=.bH\/E.rl b=.eH->E'.rl b=E.rl b
 bH:∀ b,E.rl b=.bH->b < w.heap.size->w'.heap[b]? = w.heap[b]?/\E'.rl b=.bH
 bk:∀ i cs,lk st.bx i=some cs->E'.bk i=E.bk i
 bx:∀ i cs,lk st.bx i=some cs->¬ X i->E.bk i < w.heap.size->E.rl (E.bk i)=.bx i->w'.heap[E.bk i]? = w.heap[E.bk i]?/\E'.rl (E.bk i)=.bx i
 vl:∀ τ R v,lk st.rw τ=some R->v<=R.bA->E'.vl τ v=E.vl τ v
 rw:∀ τ R,lk st.rw τ=some R->¬ Y τ->∀ g,(E.vl τ R.bA).ownBlock=some g->g < w.heap.size->E.rl g=.rw τ->w'.heap[g]? = w.heap[g]?/\E'.rl g=.rw τ
 eH:∀ b,E.rl b=.eH->b < w.heap.size->w'.heap[b]? = w.heap[b]?
 jo:∀ τ R,lk st.rw τ=some R->¬ Y τ->∀ g j o,g < w.heap.size->E.rl g=.jo τ j o->w'.heap[g]? = w.heap[g]?/\E'.rl g=.jo τ j o
theorem Mv.vr {st:St}{E E':Env}{w w':World}{X Y:Nat->Prop}(h:Mv st E w E' w' X Y){p:Nat × Nat}(hp:st.lJ p):E'.vl p.1 p.2=E.vl p.1 p.2:=by
 obtain⟨R,h1,h2⟩:=hp;exact h.vl _ R _ h1 h2
theorem Mv.slt {st:St}{E E':Env}{w w':World}{X Y:Nat->Prop}(h:Mv st E w E' w' X Y){m:Nat}(sc:Sc m st)(t:Nat){v:Value}(hr:RV E w v (st.get t)):RV E' w' v (st.get t):=
 hr.fr h.size h.bH (fun p hp=>h.vr (sc.sr t p hp)) (fun b hb=>by
  obtain⟨cs,en⟩:=sc.sb t b hb;exact h.bk b cs en)
theorem Mv.box {st:St}{E E':Env}{w w':World}{X Y:Nat->Prop}(h:Mv st E w E' w' X Y){m:Nat}(sc:Sc m st){n0 i:Nat}{cs:List Ce}(hi:lk st.bx i=some cs)(hX:¬ X i)(hr:RB E w n0 i cs):RB E' w' n0 i cs:=
 hr.fr h.size h.bH (fun p hp=>h.vr (sc.br i cs hi p hp)) (h.bk i cs hi) (h.bx i cs hi hX)
theorem Mv.row {st:St}{E E':Env}{w w':World}{X Y:Nat->Prop}(h:Mv st E w E' w' X Y){m:Nat}(sc:Sc m st){n0 τ:Nat}{R:Row}(hi:lk st.rw τ=some R)(hY:¬ Y τ)(hr:RR E w n0 τ R):RR E' w' n0 τ R:=
 hr.fr h.size h.bH (h.vl τ R _ hi (ak _)) (fun d hd l hl=>h.vr (sc.rl τ R d hi hd l hl)) (h.rw τ R hi hY) (h.jo τ R hi hY)
theorem Mv.below {st:St}{E E':Env}{w w':World}{X Y:Nat->Prop}(hb:Below w.heap.size w w')(hr:∀ b,b < w.heap.size->E'.rl b=E.rl b)(hk:∀ i cs,lk st.bx i=some cs->E'.bk i=E.bk i)(hv:∀ τ R v,lk st.rw τ=some R->v<=R.bA->E'.vl τ v=E.vl τ v):Mv st E w E' w' X Y:=
 ⟨hb.size,fun b aU _=>hr b aU,fun b hc aU=>⟨hb.block b aU,(hr b aU).trans hc⟩,hk,fun _ _ _ _ aU ik=>⟨hb.block _ aU,(hr _ aU).trans ik⟩,hv,fun _ _ _ _ _ _ aU ik=>⟨hb.block _ aU,(hr _ aU).trans ik⟩,fun b _ aU=>hb.block b aU,fun _ _ _ _ g _ _ aU ik=>⟨hb.block g aU,(hr g aU).trans ik⟩⟩
theorem XQ {O:iy}{st:St}{E E':Env}{w w':World}{X Y:Nat->Prop}(hm:Mv st E w E' w' X Y)(h:∀ b x,O.g b=some x->w.heap[b]? = some x/\(E.rl b=.bH/\O.o b\/E.rl b=.eH/\¬ O.o b)):∀ b x,O.g b=some x->w'.heap[b]? = some x/\(E'.rl b=.bH/\O.o b\/E'.rl b=.eH/\¬ O.o b):=fun b x hx=>by
 obtain⟨h1,h2⟩:=h b x hx;have aU:=(Array.getElem?_eq_some_iff.1 h1).1;refine⟨?_,by rw[hm.lo b aU (h2.elim (fun h=>.inl h.1) fun h=>.inr h.1)];exact h2⟩;rcases h2 with h2|h2
 ·exact(hm.bH b h2.1 aU).1.trans h1
 ·exact(hm.eH b h2.1 aU).trans h1
theorem PR {O:iy}{st:St}{E E':Env}{w w':World}{n0:Nat}{X Y:Nat->Prop}(hm:Mv st E w E' w' X Y)(hi:n0<=w.heap.size)(h:∀ b,b < n0->E.rl b=.bH/\O.o b\/E.rl b=.eH):∀ b,b < n0->E'.rl b=.bH/\O.o b\/E'.rl b=.eH:=fun b hb=>by
 have h2:=h b hb;rw[hm.lo b (cA hb hi) (h2.elim (fun h=>.inl h.1) .inr)];exact h2
theorem St.KJ (st:St)(t:Nat)(v:AV)(t':Nat):(st.put t v).get t'=if t=t' then v else st.get t':=by
 unfold St.get St.put;simp only[lk]
 by_cases h:t=t'
 ·subst h;simp
 ·have:Nat.beq t t'=false:=by
   cases e:Nat.beq t t'
   ·rfl
   ·exact absurd (ai e) h
  rw[this,if_neg h];rfl
theorem St.gX (st:St)(t:Option Nat)(d:Dl)(t':Nat):(st.app t d).get t'=if t=some t' then d.v else st.get t':=by
 cases t with
 | none=>simp[St.app,St.get]
 | some t=>
  have:=St.KJ st t d.v t';unfold St.get St.put at this;unfold St.get St.app;simp only[Option.some.injEq];exact this
theorem St.je (st:St)(t:Option Nat)(d:Dl):(st.app t d).bx=d.bs++st.bx:=by cases t <;> rfl
theorem St.iw (st:St)(t:Option Nat)(d:Dl):(st.app t d).rw=d.rs++st.rw:=by cases t <;> rfl
theorem cB {α:Type}:∀ (l r:List (Nat × α)) (n:Nat),lk (l++r) n=(match lk l n with
   | some x=>some x
   | none=>lk r n)
 | [],r,n=>rfl
 | (m,x) :: l,r,n=>by
  show(bif Nat.beq m n then some x else lk (l++r) n)=(match (bif Nat.beq m n then some x else lk l n) with
   | some x=>some x
   | none=>lk r n)
  cases Nat.beq m n
  ·exact cB l r n
  ·rfl
theorem cp {α:Type}(m:Nat)(x:α)(r:List (Nat × α))(n:Nat):lk ((m,x) :: r) n=if m=n then some x else lk r n:=by
 show(bif Nat.beq m n then some x else lk r n)=_
 by_cases h:m=n
 ·subst h;simp
 ·have:Nat.beq m n=false:=by
   cases e:Nat.beq m n
   ·rfl
   ·exact absurd (ai e) h
  rw[this,if_neg h];rfl
theorem Act.Fm (a:Act)(t:Option Nat)(v:Value)(t':Nat)(ht:∀ x,t=some x->x < a.tmps.size):(a.put t v).tmps.getD t' undef=if t=some t' then v else a.tmps.getD t' undef:=by
 cases t with
 | none=>simp[Act.put]
 | some t=>
  simp only[Act.put,Option.some.injEq,Array.getD_eq_getD_getElem?,Array.getElem?_setIfInBounds]
  by_cases h:t=t'
  ·subst h;simp[ht _ rfl]
  ·simp[h]
theorem Act.Uw (a:Act)(t:Option Nat)(v:Value):(a.put t v).defers=a.defers:=by cases t <;> rfl
theorem Act.PG (a:Act)(t:Option Nat)(v:Value):(a.put t v).tmps.size=a.tmps.size:=by
 cases t <;> simp[Act.put]
theorem Fi {st:St}{t:Option Nat}{d:Dl}{b:Nat}(h:st.hasB b):(st.app t d).hasB b:=by
 obtain⟨cs,h⟩:=h;unfold St.hasB;rw[St.je,cB]
 cases lk d.bs b with
 | none=>exact⟨cs,h⟩
 | some x=>exact⟨x,rfl⟩
def alO (st:St)(d:Dl):Prop:=∀ τ R R',lk st.rw τ=some R->lk d.rs τ=some R'->R.bA<=R'.bA
theorem Rg {st:St}{t:Option Nat}{d:Dl}{p:Nat × Nat}(hu:alO st d)(h:st.lJ p):(st.app t d).lJ p:=by
 obtain⟨R,h,hv⟩:=h;unfold St.lJ;rw[St.iw,cB]
 cases hd:lk d.rs p.1 with
 | none=>exact⟨R,h,hv⟩
 | some R'=>exact⟨R',rfl,aX hv (hu _ _ _ h hd)⟩
structure adC (m:Nat)(st:St)(d:Dl):Prop where
 up:alO st d
 vb:∀ b∈d.v.ed,st.hasB b\/∃ cs,lk d.bs b=some cs
 vr:∀ p∈d.v.cP,st.lJ p\/∃ R,lk d.rs p.1=some R/\p.2<=R.bA
 br:∀ b cs,lk d.bs b=some cs->(∀ p∈cs.flatMap Ce.cP,st.lJ p\/∃ R,lk d.rs p.1=some R/\p.2<=R.bA)/\b < m
 fr:∀ τ R,lk d.rs τ=some R->τ < m
 rl:∀ τ R d',lk d.rs τ=some R->R.dp=some d'->∀ l∈d'.ln,st.lJ l.2.2\/∃ R,lk d.rs l.2.2.1=some R/\l.2.2.2<=R.bA
theorem Sc.app {m:Nat}{st:St}(h:Sc m st){t:Option Nat}{d:Dl}(hd:adC m st d):Sc m (st.app t d):=by
 have hR:∀ p,(st.lJ p\/∃ R,lk d.rs p.1=some R/\p.2<=R.bA)->(st.app t d).lJ p:=fun p hp=>by
  rcases hp with hp|⟨R,h1,h2⟩
  ·exact Rg hd.up hp
  ·exact⟨R,by rw[St.iw,cB,h1],h2⟩
 refine⟨fun t' b hb=>?_,fun t' p hp=>?_,fun b cs en p hp=>?_,fun b cs en=>?_,fun τ R Fk=>?_,fun τ R d' Fk kH l hl=>?_⟩
 ·rw[St.gX] at hb;split at hb
  ·rcases hd.vb b hb with hb|⟨cs,en⟩
   ·exact Fi hb
   ·exact⟨cs,by rw[St.je,cB,en]⟩
  ·exact Fi (h.sb t' b hb)
 ·rw[St.gX] at hp;split at hp
  ·exact hR p (hd.vr p hp)
  ·exact hR p (.inl (h.sr t' p hp))
 ·rw[St.je,cB] at en;split at en
  ·rename_i x hx;obtain rfl:=aY en;exact hR p ((hd.br b _ hx).1 p hp)
  ·exact hR p (.inl (h.br b cs en p hp))
 ·rw[St.je,cB] at en;split at en
  ·rename_i x hx;exact(hd.br b _ hx).2
  ·exact h.fb b cs en
 ·rw[St.iw,cB] at Fk;split at Fk
  ·rename_i x hx;exact hd.fr τ _ hx
  ·exact h.fr τ R Fk
 ·rw[St.iw,cB] at Fk;split at Fk
  ·rename_i x hx;obtain rfl:=aY Fk;exact hR l.2.2 (hd.rl τ _ d' hx kH l hl)
  ·exact hR l.2.2 (.inl (h.rl τ R d' Fk kH l hl))
theorem cx.app {E E':Env}{w w':World}{n0 N m:Nat}{st:St}{a:Act}(h:cx O E w n0 N m st a){t:Option Nat}(ht:∀ x,t=some x->x < N){d:Dl}{v:Value}(hm:Mv st E w E' w' (fun i=>∃ cs,lk d.bs i=some cs) (fun τ=>∃ R,lk d.rs τ=some R))(hsc:adC m st d)
  (hv:RV E' w' v d.v) (hb:∀ i cs,lk d.bs i=some cs->RB E' w' n0 i cs) (hr:∀ τ R,lk d.rs τ=some R->RR E' w' n0 τ R):cx O E' w' n0 N m (st.app t d) (a.put t v):=by
 refine⟨by rw[Act.Uw];exact h.yn,by rw[Act.PG];exact h.sz,fun t'=>?_,fun i cs hi=>?_,fun τ R hτ=>?_,h.sc.app hsc,aX h.hi hm.size,PR hm h.hi h.nM,XQ hm h.gh,fun j V hj=>?_,fun j b hj=>?_,aX h.sn hm.size⟩
 ·rw[St.gX,Act.Fm _ _ _ _ (by rw[h.sz];exact ht)];split
  ·exact hv
  ·exact hm.slt h.sc t' (h.slt t')
 ·rw[St.je,cB] at hi
  cases hd:lk d.bs i with
  | some x=>
   rw[hd] at hi;obtain rfl:=aY hi;exact hb i _ hd
  | none=>
   rw[hd] at hi;exact hm.box h.sc hi (fun ⟨x,hx⟩=>by rw[hd] at hx;cases hx) (h.box i cs hi)
 ·rw[St.iw,cB] at hτ
  cases hd:lk d.rs τ with
  | some x=>
   rw[hd] at hτ;obtain rfl:=aY hτ;exact hr τ _ hd
  | none=>
   rw[hd] at hτ;exact hm.row h.sc hτ (fun ⟨x,hx⟩=>by rw[hd] at hx;cases hx) (h.row τ R hτ)
 ·obtain⟨h1,R,h2⟩:=h.Zu j V hj;refine⟨(hm.vl j R 0 h2 (aA _)).trans h1,?_⟩;rw[St.iw,cB]
  cases lk d.rs j with
  | some x=>exact⟨x,rfl⟩
  | none=>exact⟨R,h2⟩
 ·obtain⟨h1,cs,h2⟩:=h.MA j b hj;refine⟨(hm.bk j cs h2).trans h1,?_⟩;rw[St.je,cB]
  cases lk d.bs j with
  | some x=>exact⟨x,rfl⟩
  | none=>exact⟨cs,h2⟩
end
section
variable {P:Program}{T:Nat->Option Ty}{O:iy}
def NmV (st:St)(v:AV):Prop:=(∀ b∈v.ed,st.hasB b)/\(∀ p∈v.cP,st.lJ p)
theorem J6 (st:St)(v:Value):NmV st (.c (.t (.lit v))):=⟨fun b hb=>(by cases hb),fun p hp=>(by cases hp)⟩
theorem dy {E:Env}{w:World}{n0 N m:Nat}{st:St}{a:Act}(r:cx O E w n0 N m st a)(x:Operand):RV E w (a.eval x) (ev st x):=by
  cases x with
  | tmp t=>exact r.slt t
  | const v=>
    cases v with
    | int k n=>exact RT.lit rfl
    | bool b=>exact RT.lit rfl
    | string s=>exact RT.lit rfl
    | slice ao n c=>
      show RV E w _ (match (Value.slice ao n c) with
        | .int k n=>.c (.t (.lit (.int k n)))
        | .bool b=>.c (.t (.lit (.bool b)))
        | .string s=>.c (.t (.lit (.string s)))
        | .slice none 0 0=>.c .nil
        | .pointer none=>.e9
        | _=>.bot)
      split
      · rename_i h;cases h
      · rename_i h;cases h
      · rename_i h;cases h
      · rename_i h;rw[show a.eval (.const (.slice ao n c))=.slice ao n c from rfl,h];exact rfl
      · rename_i h;cases h
      · exact⟨⟩
    | pointer p=>
      cases p with
      | none=>exact rfl
      | some p=>exact⟨⟩
    | _=>exact⟨⟩
  | global g=>exact⟨⟩
  | func f=>exact rfl
theorem jF {m:Nat}{st:St}(sc:Sc m st)(x:Operand):NmV st (ev st x):=by
  cases x with
  | tmp t=>exact⟨sc.sb t,sc.sr t⟩
  | const v=>
    have:(ev st (.const v)).ed=[]/\(ev st (.const v)).cP=[]:=by
      unfold ev;split
      · rename_i h;cases h
      · split <;> exact⟨rfl,rfl⟩
      · rename_i h;cases h
      · rename_i h;cases h
    exact⟨fun b hb=>(by rw[this.1] at hb;cases hb),fun p hp=>(by rw[this.2] at hp;cases hp)⟩
  | global g=>exact⟨fun b hb=>(by cases hb),fun p hp=>(by cases hp)⟩
  | func f=>exact⟨fun b hb=>(by cases hb),fun p hp=>(by cases hp)⟩
theorem ju {t:Nat}{y:Ty}(h:gU P t y=true):∃ i zv,P.info? t=some i/\i.size=y.sz/\i.bytes=y.lP/\i.zero=some zv/\pb y.z zv.cells.toList=true/\zv.cells.size=i.size:=by
  unfold gU at h;simp only[ah] at h;have h:=h.1.1;split at h
  · rename_i i hi
    simp only[ah] at h;obtain⟨⟨h1,h2⟩,h3⟩:=h;split at h3
    · rename_i zv hz
      simp only[ah] at h3;exact⟨i,zv,hi,ai h1,ai h2,hz,h3.1,ai h3.2⟩
    · cases h3
  · cases h
theorem nB {t:Nat}{y:Ty}(h:gU P t y=true):∃ i zv,P.info? t=some i/\i.size=y.sz/\i.bytes=y.lP/\i.zero=some zv/\pb y.z zv.cells.toList=true:=by
  obtain⟨i,zv,h1,h2,h3,h4,h5,_⟩:=ju h;exact⟨i,zv,h1,h2,h3,h4,h5⟩
theorem kK {t:Nat}{y:Ty}(h:gU P t y=true):(match y.k,P.underlying t with
  | .bas,some .bool=>true
  | .int k,some (.int k')=>decide (k=k')
  | .string,some .string=>true
  | .iU e,some (.slice e')=>Nat.beq e e'
  | .arr n e,some (.array n' e')=>Nat.beq n n'&&Nat.beq e e'
  | .str fs,some (.struct fl)=>iC P fl.toList fs
  | .ptr e,some (.pointer e')=>Nat.beq e e'
  | .map k e,some (.map k' e')=>(Nat.beq k k'&&Nat.beq e e')&&H5 P k e
  | _,_=>false)=true:=by
  unfold gU at h;simp only[ah] at h;exact h.1.2
theorem Yg {t:Nat}{y:Ty}(h:gU P t y=true)(hk:y.k=.bas):P.underlying t=some .bool:=by
  have h:=kK h;rw[hk] at h;split at h <;> simp_all
theorem Yf {t:Nat}{y:Ty}(h:gU P t y=true){e:Nat}(hk:y.k=.ptr e):P.underlying t=some (.pointer e):=by
  have h:=kK h;rw[hk] at h;split at h <;> simp_all
theorem aoB {t:Nat}{y:Ty}(h:gU P t y=true){k e:Nat}(hk:y.k=.map k e):P.underlying t=some (.map k e)/\(∃ q,P.underlying k=some (.int q))/\∀ w,(zeroValue e).run P w=.ok (.int .i64 0) w:=by
  have h:=kK h;rw[hk] at h;split at h <;> try (simp_all;done)
  rename_i k' e' k1 e1 h1 h2
  cases h1
  simp only[ah] at h;obtain⟨⟨g1,g2⟩,g3⟩:=h;obtain rfl:=ai g1;obtain rfl:=ai g2;unfold H5 at g3;simp only[ah] at g3;refine⟨h2,?_,fun w=>?_⟩
  · have:=g3.1
    split at this
    · rename_i q hq
      exact⟨q,hq⟩
    · cases this
  · have:=g3.2
    split at this
    · rename_i i hi
      split at this
      · rename_i hz
        simp[zeroValue,typeInfo,hi,hz]
      · cases this
    · cases this
theorem Om {t:Nat}{y:Ty}(h:gU P t y=true){k:IntKind}(hk:y.k=.int k):P.underlying t=some (.int k):=by
  have h:=kK h;rw[hk] at h;split at h <;> simp_all
theorem kV {t:Nat}{y:Ty}(h:gU P t y=true)(hk:y.k=.string):P.underlying t=some .string:=by
  have h:=kK h;rw[hk] at h;split at h <;> simp_all
theorem jt {t:Nat}{y:Ty}(h:gU P t y=true){e:Nat}(hk:y.k=.iU e):P.underlying t=some (.slice e):=by
  have h:=kK h;rw[hk] at h;split at h <;> simp_all
theorem GJ {t:Nat}{y:Ty}(h:gU P t y=true){n e:Nat}(hk:y.k=.arr n e):P.underlying t=some (.array n e):=by
  have h:=kK h;rw[hk] at h;split at h <;> simp_all
theorem GI {t:Nat}{y:Ty}(h:gU P t y=true){fs:List (Nat × Nat)}(hk:y.k=.str fs):∃ fl,P.underlying t=some (.struct fl)/\iC P fl.toList fs=true:=by
  have h:=kK h;rw[hk] at h;split at h <;> simp_all
theorem Bm {t:Nat}{y:Ty}(h:gU P t y=true):∃ d,P.underlying t=some d/\d.isRow=y.isAgg:=by
  have h:=kK h;unfold Ty.isAgg;split at h <;> first|(rename_i h1 h2;rw[h1,h2];exact⟨_,rfl,rfl⟩)|cases h
theorem GK {t:Nat}{y:Ty}(h:gU P t y=true)(w:World):(isAgg t).run P w=.ok y.isAgg w:=by
  obtain⟨d,hd,he⟩:=Bm h;unfold isAgg;rw[Sem.run_bind,run_underlying hd w,<- he]
  cases d <;> rfl
theorem kJ {t:Nat}{y:Ty}(h:gU P t y=true)(w:World):(Go.sizeOf t).run P w=.ok y.sz w:=by
  obtain⟨i,_,hi,hs,_⟩:=nB h;simp[Go.sizeOf,typeInfo,hi,hs]
theorem mF:∀ {fl:List Field} {fs:List (Nat × Nat)},iC P fl fs=true->∀ (i o ft:Nat),fs[i]? = some (o,ft)->∃ f,fl[i]? = some f/\f.offset=o/\f.type=ft
  | [],[],_,i,o,ft,h=>by simp at h
  | f :: fl,(o',t') :: fs,h,0,o,ft,hi=>by
    simp only[iC,ah] at h
    cases hi
    exact⟨f,rfl,ai h.1.1.1,ai h.1.1.2⟩
  | f :: fl,(o',t') :: fs,h,i+1,o,ft,hi=>by
    simp only[iC,ah] at h;exact mF h.2 i o ft hi
  | [],_ :: _,h,_,_,_,_=>by cases h
  | _ :: _,[],h,_,_,_,_=>by cases h
theorem A2.split {α β:Type}{R:α->β->Prop}{xs:List α}{ys:List β}(h:A2 R xs ys)(o n:Nat):A2 R ((xs.drop o).take n) ((ys.drop o).take n):=(h.drop o).take n
theorem R8 {E:Env}{w:World}{y:Ty}{cs:List Ce}{o:Nat}{av:AV}{vs:List Value}(hc:cut y cs o=some av)(h:A2 (RC E w) vs cs) :
    (y.isAgg=true/\o+y.sz<=vs.length/\av=.agg ((cs.drop o).take y.sz)/\A2 (RC E w) ((vs.drop o).take y.sz) ((cs.drop o).take y.sz))\/
    (y.isAgg=false/\∃ v c,vs[o]? = some v/\av=.c c/\cs[o]? = some c/\RC E w v c):=by
  unfold cut at hc;split at hc
  · rename_i ha
    cases hb:Nat.ble (o+y.sz) cs.length with
    | false=>rw[hb] at hc;cases hc
    | true=>
      rw[hb] at hc
      cases hc
      exact .inl ⟨ha,by rw[h.len];exact Nb hb,rfl,h.split o y.sz⟩
  · rename_i ha
    split at hc
    · rename_i c en
      cases hc
      obtain⟨v,hv,hr⟩:=h.get o c en;exact .inr ⟨by simpa using ha,v,c,hv,rfl,en,hr⟩
    · cases hc
theorem sE {y:Ty}{cs:List Tr}{o:Nat}{av:AV}(h:vm y cs o=some av):cut y (cs.map .t) o=some av:=by
  unfold vm at h;unfold cut;split at h
  · rename_i ha
    rw[if_pos ha,Lm]
    cases hb:Nat.ble (o+y.sz) cs.length with
    | false=>rw[hb] at h;cases h
    | true=>rw[hb] at h;cases h;simp[List.map_drop,List.map_take]
  · rename_i ha
    rw[if_neg ha,bI];split at h
    · rename_i c hc
      rw[hc]
      cases h
      rfl
    · cases h
theorem BG {E:Env}{w:World}:∀ {vs:List Value} {ts:List Tr},jK E.F w vs ts->A2 (RC E w) vs (ts.map .t)
  | _,_,.nil=>.nil
  | _,_,.cons h1 h2=>.cons h1 (BG h2)
theorem CO {st:St}{y:Ty}{cs:List Ce}{o:Nat}{av:AV}(hc:cut y cs o=some av)(h:∀ p∈cs.flatMap Ce.cP,st.lJ p):NmV st av:=by
  unfold cut at hc;split at hc
  · cases hb:Nat.ble (o+y.sz) cs.length with
    | false=>rw[hb] at hc;cases hc
    | true=>
      rw[hb] at hc
      cases hc
      refine⟨fun b hb=>(by cases hb),fun p hp=>h p ?_⟩;obtain⟨c,h1,h2⟩:=List.mem_flatMap.1 (show p∈((cs.drop o).take y.sz).flatMap Ce.cP from hp);exact List.mem_flatMap.2 ⟨c,List.mem_of_mem_drop (List.mem_of_mem_take h1),h2⟩
  · split at hc
    · rename_i c en
      cases hc
      exact⟨fun b hb=>(by cases hb),fun p hp=>h p (List.mem_flatMap.2 ⟨c,bc en,hp⟩)⟩
    · cases hc
theorem YB (ts:List Tr):(ts.map Ce.t).flatMap Ce.cP=[]:=by
  induction ts with
  | nil=>rfl
  | cons t ts ih=>rw[bW,bZ,ih];rfl
theorem CP {st:St}{y:Ty}{cs:List Tr}{o:Nat}{av:AV}(hc:vm y cs o=some av):NmV st av:=CO (sE hc) fun p hp=>by rw[YB] at hp;cases hp
theorem lS (g o j:Nat):(⟨g,o,none⟩:Addr).add j=⟨g,o+j,none⟩:=by unfold Addr.add;split <;> simp_all
theorem pt {E:Env}{w:World}{t:Nat}{y:Ty}(hy:gU P t y=true){g p o:Nat}{vs:List Value}{cs:List Ce}{av:AV}(jh:∀ (i:Nat) u,vs[i]? = some u->w.cell? ⟨g,p+i,none⟩=some u)(h:A2 (RC E w) vs cs)(hc:cut y cs o=some av) :
    ∃ v,(Instr.loadAt t (.pointer (some ⟨g,p+o,none⟩))).run P w=.ok v w/\R1 E w v av:=by
  rcases R8 hc h with⟨ha,hl,rfl,h2⟩|⟨ha,v,c,hv,rfl,_,hr⟩
  · obtain⟨d,hd,he⟩:=Bm hy
    obtain⟨i,_,hi,hs,_⟩:=nB hy;have hlen:((vs.drop o).take y.sz).length=y.sz:=by rw[au,aO];omega
    refine⟨.agg ((vs.drop o).take y.sz).toArray,run_loadAt_mid w g (p+o) t _ d (fun j v hv=>?_) hd (he.trans ha) (by rw[hi,hlen];exact congrArg some hs),⟨_,rfl,h2⟩⟩;rw[List.getElem?_take] at hv;split at hv
    · rw[List.getElem?_drop] at hv
      rw[Nat.add_assoc];exact jh _ _ hv
    · cases hv
  · refine⟨v,?_,hr⟩
    simp only[Instr.loadAt,Instr.sureAddr,Sem.run_bind,Sem.run_pure,Result.andThen_ok,loadVar,GK hy,ha];have:=jh o v hv;simp[this]
theorem RB.cells {E:Env}{w:World}{n0 i:Nat}{cs:List Ce}(h:RB E w n0 i cs):∃ vs,(∀ (j:Nat) u,vs[j]? = some u->w.cell? ⟨E.bk i,0+j,none⟩=some u)/\A2 (RC E w) vs cs:=by
  obtain⟨vs,t,_,hb,_,ha⟩:=h;refine⟨vs,fun j u hu=>?_,ha⟩;rw[bw,cell_of_row _ _ _ _ _ _ hb];simpa using hu
theorem R1.rv {E:Env}{w:World}{v:Value}{a:AV}(h:R1 E w v a):RV E w v a:=by
  cases a with
  | gi dh=>exact h.elim
  | _=>exact h
theorem xl:∀ {ks:List K} {ls:List Lk},xm ks ls=true->∀ {vs:List Value},mj ls vs=true->jN ks vs
  | [],[],_,[],_=>.nil
  | [],[],_,_ :: _,h=>by cases h
  | .lit k :: ks,l :: ls,h,[],h2=>by cases h2
  | .lit k :: ks,l :: ls,h,v :: vs,h2=>by
    simp only[xm,ah,decide_eq_true_eq] at h;simp only[mj,ah] at h2;obtain⟨rfl,h⟩:=h;refine .cons ?_ (xl h h2.2);have h3:=h2.1;unfold Xp at h3;split at h3 <;> first|(cases h3;done)|exact⟨_,rfl⟩
  | .sl _ _ :: _,_,h,_,_=>by simp[xm] at h
  | [],_ :: _,h,_,_=>by cases h
  | .lit _ :: _,[],h,_,_=>by cases h
theorem vE {ks:List K}{ls:List Lk}(h:xm ks ls=true){vs:List Value}(h2:mj ls vs=true):jN ks vs:=xl h h2
theorem afH {t:Nat}{y:Ty}(h:gU P t y=true)(hn:¬ y.eq=[]):∃ ks,fE P 12 t=some ks/\xm ks y.eq=true/\P.eqGuardType P.depth t=false:=by
  unfold gU at h;simp only[ah] at h;have h:=h.2;simp only[cC,ah,List.isEmpty_iff,hn,false_or] at h;split at h
  · rename_i ks hks
    exact⟨ks,hks,h.1,by simpa using h.2⟩
  · cases h.1
theorem Tj {t:Nat}{y:Ty}(h:gU P t y=true):fg P t=y.isAgg:=by
  obtain⟨d,hd,he⟩:=Bm h;unfold fg;rw[hd,<- he]
  cases d <;> rfl
theorem Cb {E:Env}{w:World}:∀ {vs:List Value} {cs:List Ce} {us:List Value},A2 (RC E w) vs cs->EI cs=some us->vs=us
  | _,_,us,.nil,h=>by
    obtain rfl:=aY h;rfl
  | _,c :: cs,us,.cons (x:=v) h1 h2,h=>by
    unfold EI at h;split at h
    · cases ‹c :: cs=[]›
    · rename_i u rest he
      cases he
      split at h
      · rename_i Lt QX
        cases h
        have h1:RT E.F w v (.lit u):=h1
        cases h1
        rw[Cb h2 QX]
      · cases h
    · cases h
section
variable {E:Env}{w:World}{n0 N m:Nat}{st:St}{a:Act}
theorem RT.len {F:Nat->Prop}{v:Value}{k:Nat}{xs:List (List Tr)}(h:RT F w v (.sl k xs)):∃ ao cap,v=.slice ao xs.length cap/\xs.length<=cap/\(ao=none->cap=0):=by
  cases h with
  | gV hc=>exact⟨_,_,rfl,aA _,hc⟩
  | jS h1 h2=>subst h1;exact⟨_,_,rfl,h2,fun h=>by cases h⟩
theorem mf {e k n:Nat}{v:Value}{xs:List Value}{B:Nat}(h:w.ownsRow B e k v n xs):∃ ao cap,v=.slice ao n cap/\n<=cap/\(ao=none->cap=0):=by
  rcases h.2 with⟨rfl,rfl⟩|⟨g,cap,cur,rfl,_,_,hc,_⟩
  · exact⟨none,0,rfl,ak _,fun _=>rfl⟩
  · exact⟨_,cap,rfl,hc,fun h=>by cases h⟩
theorem Ng (r:cx O E w n0 N m st a){v:Value}{av:AV}{k:Nat}{xs:List (List Tr)}(hv:RV E w v av)(h:gS st av=some (k,xs)):∃ ao cap,v=.slice ao xs.length cap:=by
  unfold gS at h;split at h
  · rename_i c
    split at h
    · rename_i k' tf hc
      cases h
      unfold vW at hc;split at hc
      · cases hc
        obtain⟨ao,cap,h1,_⟩:=RT.len hv;exact⟨ao,cap,h1⟩
      · cases hc
        exact⟨none,0,hv⟩
      · rename_i τ bA
        split at hc
        · rename_i R hR
          cases hb:Nat.beq R.bA bA&&R.dp.isNone with
          | false=>rw[hb] at hc;cases hc
          | true=>
            rw[hb] at hc
            cases hc
            obtain⟨es,h1,h2,_⟩:=(r.row τ R hR).hd (by have:=(Bool.and_eq_true_iff.1 hb).2;unfold Row.iQ;rw[Option.isNone_iff_eq_none.1 this]);have fW:=ai (Bool.and_eq_true_iff.1 hb).1;obtain⟨ao,cap,h3,_⟩:=mf h1;have xv:v=E.vl τ bA:=hv.1;rw[xv,<- fW,h3,h2];exact⟨ao,cap,rfl⟩
        · cases hc
      · cases hc
    · cases h
  · cases h
theorem Qx (r:cx O E w n0 N m st a){v:Value}{av:AV}{n:Nat}(hv:RV E w v av)(h:MD st av=some n):∃ ao cap,v=.slice ao n cap:=by
  unfold MD at h;split at h
  · rename_i τ bA
    split at h
    · rename_i R hR
      cases hb:Nat.beq R.bA bA&&!R.iQ with
      | false=>rw[hb] at h;cases h
      | true=>
        rw[hb] at h
        cases h
        rw[ah,cu] at hb;obtain⟨es,h1,h2,_⟩:=(r.row τ R hR).hd hb.2;have hb:=hb.1;obtain⟨ao,cap,h3,_⟩:=mf h1;have xv:v=E.vl τ bA:=hv.1;rw[xv,<- ai hb,h3,h2];exact⟨ao,cap,rfl⟩
    · cases h
  · split at h
    · rename_i k xs e
      cases h
      exact Ng r hv e
    · cases h
abbrev qK (P:Program)(E:Env)(w:World)(st:St)(a:Act)(o:Oper)(av:AV):Prop:=∃ v,(execOp a.eval o).run P w=.ok (.value v) w/\RV E w v av/\NmV st av
theorem UO (hT:dz P T)(r:cx O E w n0 N m st a){o:Oper}{t:Nat}{x:Operand}(ho:o.op=.load t x){av:AV}(h:dQ T st (.load t x)=some av):qK P E w st a o av:=by
  have hx:=dy r x;simp only[dQ] at h
  cases hy:T t with
  | none=>rw[hy] at h;cases h
  | some y=>
    rw[hy] at h;simp only at h;have QY:=hT.ty t y hy;split at h
    · rename_i b off he
      split at h
      · rename_i cs en
        rw[he] at hx;obtain⟨vs,h1,h2⟩:=(r.box b cs en).cells;obtain⟨v,hv,hr⟩:=pt QY h1 h2 h;refine⟨v,?_,hr.rv,CO h (r.sc.br b cs en)⟩;have hx:a.eval x=.pointer (some ⟨E.bk b,off,none⟩):=hx;rw[bw] at hv;unfold execOp;simp only[ho,hx,Sem.run_bind,hv,Result.andThen_ok,Sem.run_pure]
      · cases h
    · rename_i xs off he
      rw[he] at hx;obtain⟨g,p,vs,hv,_,_,h3,h4⟩:=hx;obtain⟨v,hl,hr⟩:=pt QY h3 (BG h4) (sE h);refine⟨v,?_,hr.rv,CP h⟩;unfold execOp;simp only[ho,hv,Sem.run_bind,hl,Result.andThen_ok,Sem.run_pure]
    · cases h
theorem Y6 (r:cx O E w n0 N m st a){o:Oper}{x:Operand}(ho:o.op=.nilCheck x){av:AV}(h:dQ T st (.nilCheck x)=some av):qK P E w st a o av:=by
  have hx:=dy r x;have hn:=jF r.sc x;simp only[dQ] at h;split at h
  · rename_i b off he
    cases h
    rw[he] at hx hn;have hv:a.eval x=_:=hx;exact⟨_,by unfold execOp;simp only[ho,hv,Sem.run_pure],rfl,hn⟩
  · rename_i xs off he
    cases h
    rw[he] at hx hn;obtain⟨g,p,vs,hv,h1⟩:=hx;exact⟨_,by unfold execOp;simp only[ho,hv,Sem.run_pure],⟨g,p,vs,rfl,h1⟩,hn⟩
  · rename_i τ v k i off he
    cases h
    rw[he] at hx hn;obtain⟨g,n,c,h1,hv⟩:=hx;exact⟨_,by unfold execOp;simp only[ho,hv,Sem.run_pure],⟨g,n,c,h1,rfl⟩,hn⟩
  · cases h
theorem eC {v u:Value}(h:RV E w v (.c (.t (.lit u)))):v=u:=by
  have h:RT E.F w v (.lit u):=h
  cases h
  rfl
theorem jk (op:BinOp)(t:TypeId)(x y:Operand)(u v:Value)(hu:H9 u=true):eqGuard op t x y u v=Pure.pure ():=by
  cases u <;> first|(cases hu;done)|(cases op <;> rfl)
theorem eZ {o:Oper}{v:Value}{u:Value}(hv:(execOp a.eval o).run P w=.ok (.value v) w)(h:v=u)(hl:H9 u=true):qK P E w st a o (.c (.t (.lit u))):=by
  subst h;exact⟨v,hv,RT.lit hl,J6 _ _⟩
theorem Sl {op:BinOp}{k:IntKind}{x y:Int}{v:Value}(h:I3 op k x y=some v):H9 v=true:=by
  unfold I3 at h
  split at h <;> first
    | (cases h;done)
    | (obtain rfl:=aY h;rfl)
    | (cases hd:decide (y=0) with
       | true=>rw[hd] at h;cases h
       | false=>rw[hd] at h;obtain rfl:=aY h;rfl)
theorem OT {op:BinOp}{t:TypeId}{k:IntKind}{x y:Int}{v:Value}(h:I3 op k x y=some v):(binOp op t (.int k x) (.int k y)).run P w=.ok v w:=by
  unfold I3 at h
  split at h <;> first
    | (cases h;done)
    | (obtain rfl:=aY h;simp[binOp,Op.intArith,Op.intBits,Op.intCmp];done)
    | (cases hd:decide (y=0) with
       | true=>rw[hd] at h;cases h
       | false=>
         rw[hd] at h;have hy:¬ y=0:=of_decide_eq_false hd;obtain rfl:=aY h;simp[binOp,Op.intDiv,hy])
theorem Jt {op:BinOp}{t:TypeId}{k k':IntKind}{x y:Int}{v:Value}(h:shI op k x y=some v):(binOp op t (.int k x) (.int k' y)).run P w=.ok v w/\H9 v=true:=by
  unfold shI at h;split at h
  · cases hd:decide (y < 0) with
    | true=>rw[hd] at h;cases h
    | false=>
      rw[hd] at h;have hy:¬ y < 0:=of_decide_eq_false hd;obtain rfl:=aY h;exact⟨by simp[binOp,Op.shift,hy],rfl⟩
  · cases hd:decide (y < 0) with
    | true=>rw[hd] at h;cases h
    | false=>
      rw[hd] at h;have hy:¬ y < 0:=of_decide_eq_false hd;obtain rfl:=aY h;exact⟨by simp[binOp,Op.shift,hy],rfl⟩
  · cases h
theorem U0 {v:Value}{x:AV}{b:Bool}(h:Zk x=some b)(hv:RV E w v x):∃ p,v=.pointer p/\p.isNone=b:=by
  unfold Zk at h;split at h
  · cases h
    exact⟨none,hv,rfl⟩
  · cases h
    exact⟨_,hv,rfl⟩
  · cases h
    obtain⟨g,n,c,_,hv⟩:=hv;exact⟨_,hv,rfl⟩
  · cases h
    obtain⟨g,p,vs,hv,_⟩:=hv;exact⟨_,hv,rfl⟩
  · cases h
theorem Ze (hT:dz P T)(r:cx O E w n0 N m st a){o:Oper}{op:BinOp}{t t':TypeId}{x y:Operand}(ho:o.op=.binOp op t x y t'){av:AV}(h:dQ T st (.binOp op t x y t')=some av):qK P E w st a o av:=by
  have hx:=dy r x;have hy:=dy r y;simp only[dQ] at h
  have go:∀ u v z,a.eval x=u->a.eval y=v->(eqGuard op t x y u v=Pure.pure ()\/(eqGuard op t x y u v).run P w=.ok () w)->(binOp op t u v).run P w=.ok z w->(execOp a.eval o).run P w=.ok (.value z) w:=fun u v z h1 h2 h3 h4=>by
    unfold execOp;rcases h3 with h3|h3
    · simp only[ho,h1,h2,h3,Sem.run_bind,Sem.run_pure,Result.andThen_ok,h4]
    · simp only[ho,h1,h2,h3,Sem.run_bind,Sem.run_pure,Result.andThen_ok,h4]
  unfold WB at h;split at h
  · rename_i k1 n1 k2 n2 e1 e2
    rw[e1] at hx;rw[e2] at hy;split at h
    · rename_i v hv
      cases h
      exact eZ (go _ _ _ (eC hx) (eC hy) (.inl (jk _ _ _ _ _ _ rfl)) (Jt hv).1) rfl (Jt (P:=P) (w:=w) (t:=t) (k':=k2) hv).2
    · split at h
      · rename_i hk
        subst hk;split at h
        · rename_i v hv
          cases h
          exact eZ (go _ _ _ (eC hx) (eC hy) (.inl (jk _ _ _ _ _ _ rfl)) (OT hv)) rfl (Sl hv)
        · cases h
      · cases h
  · rename_i b1 b2 e1 e2
    rw[e1] at hx;rw[e2] at hy;split at h
    · rename_i y1 hy1
      have hu:=Yg (hT.ty t _ hy1) rfl;unfold alD at h
      cases op <;> simp only at h <;> first|(cases h;done)|skip
      · cases h
        refine eZ (go _ _ _ (eC hx) (eC hy) (.inl (jk _ _ _ _ _ _ rfl)) ?_) rfl rfl;simp[binOp,run_equal_bool,hu]
      · cases h
        refine eZ (go _ _ _ (eC hx) (eC hy) (.inl (jk _ _ _ _ _ _ rfl)) ?_) rfl rfl;simp[binOp,run_equal_bool,hu]
    · cases h
  · rename_i s1 s2 e1 e2
    rw[e1] at hx;rw[e2] at hy
    cases op <;> simp only at h <;> first
      | (cases h;done)
      | (cases h
         refine eZ (go _ _ _ (eC hx) (eC hy) (.inl (jk _ _ _ _ _ _ rfl)) ?_) rfl rfl;simp[binOp,Op.stringOp];done)
  · rename_i xs ys e1 e2
    rw[e1] at hx;rw[e2] at hy;split at h
    · rename_i yt us vs hyt pz QX
      cases hc:(yt.isAgg&&!yt.eq.isEmpty)&&(mj yt.eq us&&mj yt.eq vs) with
      | false=>rw[hc] at h;cases h
      | true=>
        rw[hc] at h;simp only[cond_true] at h;simp only[ah] at hc;obtain⟨⟨VY,iR⟩,hlu,hlv⟩:=hc;have QY:=hT.ty t _ hyt;obtain⟨ks,hks,Ix,vH⟩:=afH QY (by simpa using iR);obtain⟨x',hx',ax⟩:=hx;obtain⟨y',NP,ay⟩:=hy;obtain rfl:=Cb ax pz;obtain rfl:=Cb ay QX;have hg:(eqGuard op t x y (.agg x'.toArray) (.agg y'.toArray)).run P w=.ok () w:=run_eqGuard_agg w op t x y _ _ vH;have ha:fg P t=true:=by rw[Tj QY];exact VY
        cases op <;> simp only at h <;> first|(cases h;done)|skip
        · cases h
          exact eZ (go _ _ _ hx' NP (.inr hg) (GZ hks (by omega) ha w _ _ (vE Ix hlu) (vE Ix hlv))) rfl rfl
        · cases h
          exact eZ (go _ _ _ hx' NP (.inr hg) (GY hks (by omega) ha w _ _ (vE Ix hlu) (vE Ix hlv))) rfl rfl
    · cases h
  · rename_i e2
    rw[e2] at hy;split at h
    · rename_i e _ _ _ _ b hyt hb
      have hu:=Yf (hT.ty t _ hyt) rfl;have hpe:P.underlying t=some (.pointer (P.pointee t)):=by rw[hu];simp[Program.pointee,hu]
      obtain⟨p,hp,hpb⟩:∃ p,a.eval x=.pointer p/\p.isNone=b:=U0 hb hx;have NP:a.eval y=.pointer none:=hy
      cases op <;> simp only at h <;> first|(cases h;done)|skip
      · cases h
        exact eZ (go _ _ _ hp NP (.inl rfl) (run_eql_pointer_nil w t p hpe)) (by rw[hpb]) rfl
      · cases h
        exact eZ (go _ _ _ hp NP (.inl rfl) (run_neq_pointer_nil w t p hpe)) (by rw[hpb]) rfl
    · cases h
  · cases h
theorem Zd (r:cx O E w n0 N m st a){o:Oper}{t t':TypeId}{x y:Operand}{s u:ByteArray}(ho:o.op=.binOp .add t x y t')(h1:ev st x=.c (.t (.lit (.string s))))(h2:ev st y=.c (.t (.lit (.string u))))(hs:s.size+u.size<=9223372036854775807):qK P E w st a o (.s (s++u)):=by
  have hx:=dy r x;have hy:=dy r y;rw[h1] at hx;rw[h2] at hy
  have hb:(binOp .add t (.string s) (.string u)).run P w=.ok (.string (s++u)) w:=by
    have:¬ (((s.size+u.size:Nat):Int) > IntKind.i64.max):=by
      show ¬ (((s.size+u.size:Nat):Int) > 9223372036854775807);omega
    simp only[binOp,Op.stringOp,if_neg this,Sem.run_pure]
  refine eZ (u:=.string (s++u)) ?_ rfl rfl;unfold execOp;simp only[ho,eC hx,eC hy,jk _ _ _ _ _ _ (show H9 (.string s)=true from rfl),Sem.run_bind,Sem.run_pure,Result.andThen_ok,hb]
theorem ahC (r:cx O E w n0 N m st a){o:Oper}{op:UnOp}{t:TypeId}{x:Operand}(ho:o.op=.unOp op t x){av:AV}(h:dQ T st (.unOp op t x)=some av):qK P E w st a o av:=by
  have hx:=dy r x;simp only[dQ] at h;unfold unA at h;split at h
  · rename_i b e
    rw[e] at hx
    cases h
    exact eZ (u:=.bool (!b)) (by unfold execOp;simp only[ho,eC hx,Op.unary,Sem.run_bind,Sem.run_pure,Result.andThen_ok]) rfl rfl
  · rename_i k n e
    rw[e] at hx
    cases h
    exact eZ (u:=.int k (k.wrap (0 - n))) (by unfold execOp;simp only[ho,eC hx,Op.unary,Op.intArith,Sem.run_bind,Sem.run_pure,Result.andThen_ok]) rfl rfl
  · cases h
theorem US (hT:dz P T)(r:cx O E w n0 N m st a){o:Oper}{src dst:TypeId}{x:Operand}(ho:o.op=.convert src dst x){av:AV}(h:dQ T st (.convert src dst x)=some av):qK P E w st a o av:=by
  have hx:=dy r x;simp only[dQ] at h;split at h
  · rename_i ys k _ _ _ _ kk n e1 e2 e3
    rw[e3] at hx
    cases h
    obtain⟨d,hd,_⟩:=Bm (hT.ty src _ e1);have hi:=Om (hT.ty dst _ e2) rfl;exact eZ (u:=.int k (k.wrap n)) (by unfold execOp;simp only[ho,eC hx,convert,run_underlying hd,run_underlying hi,Conv.intToInt,Sem.run_bind,Sem.run_pure,Result.andThen_ok]) rfl rfl
  · rename_i s e1 e2 e3
    rw[e3] at hx
    cases h
    have hd:=kV (hT.ty src _ e1) rfl;have hi:=kV (hT.ty dst _ e2) rfl;exact eZ (u:=.string s) (by unfold execOp;simp only[ho,eC hx,convert,run_underlying hd,run_underlying hi,Sem.run_bind,Sem.run_pure,Result.andThen_ok]) rfl rfl
  · cases h
theorem Hu (r:cx O E w n0 N m st a){o:Oper}{x:Operand}{i:Nat}(ho:o.op=.extract x i){av:AV}(h:dQ T st (.extract x i)=some av):qK P E w st a o av:=by
  have hx:=dy r x;have hn:=jF r.sc x;simp only[dQ] at h;split at h
  · rename_i vs e
    rw[e] at hx hn;obtain⟨us,hu,ha⟩:=hx;obtain⟨v,hv,hr⟩:=ha.get i _ h;have hm:av∈vs:=bc h;have hb:∀ dh,av≠.gi dh:=fun dh e=>by rw[e] at hr;exact hr
    refine⟨v,?_,hr.rv,fun b fa=>hn.1 b ?_,fun p hp=>hn.2 p ?_⟩
    · unfold execOp
      simp only[ho,hu,Instr.extract,Sem.run_bind];rw[show us.toArray[i]? = some v by simpa using hv];simp only[Sem.run_pure,Result.andThen_ok]
    · refine List.mem_flatMap.2 ⟨av,hm,?_⟩
      cases av with
      | gi dh=>exact absurd rfl (hb dh)
      | _=>exact fa
    · refine List.mem_flatMap.2 ⟨av,hm,?_⟩
      cases av with
      | gi dh=>exact absurd rfl (hb dh)
      | _=>exact hp
  · cases h
theorem JQ {t:Nat}{y:Ty}(hy:gU P t y=true){vs:List Value}{cs:List Ce}{o:Nat}{av:AV}(h:A2 (RC E w) vs cs)(hc:cut y cs o=some av):∃ v,(part t vs.toArray o).run P w=.ok v w/\R1 E w v av:=by
  rcases R8 hc h with⟨ha,hl,rfl,h2⟩|⟨ha,v,c,hv,rfl,_,hr⟩
  · refine⟨.agg (vs.toArray.extract o (o+y.sz)),by simp[part,GK hy,ha,kJ hy],⟨_,?_,h2⟩⟩
    congr 1;apply Array.toList_inj.1;rw[Array.toList_extract];simp[List.extract]
  · exact⟨v,by simp[part,GK hy,ha,hv],hr⟩
theorem PS (hT:dz P T)(r:cx O E w n0 N m st a){o:Oper}{t:TypeId}{x:Operand}{f:Nat}(ho:o.op=.field t x f){av:AV}(h:dQ T st (.field t x f)=some av):qK P E w st a o av:=by
  have hx:=dy r x;have hn:=jF r.sc x;simp only[dQ] at h;split at h
  · rename_i fs _ _ _ _ e1
    obtain⟨fl,hu,si⟩:=GI (hT.ty t _ e1) rfl;split at h
    · rename_i off ft e2
      obtain⟨fd,VU,Iu,ht1⟩:=mF si f off ft e2;split at h
      · rename_i y cs e3 e4
        rw[e4] at hx hn;obtain⟨vs,hv,ha⟩:=hx;obtain⟨v,hp,hr⟩:=JQ (hT.ty ft y e3) ha h;refine⟨v,?_,hr.rv,CO h hn.2⟩;have aaT:fl[f]? = some fd:=by rw[<- dF];exact VU
        unfold execOp;simp only[ho,hv,Instr.field,Sem.run_bind,run_underlying hu,Result.andThen_ok,aaT,asAgg,Sem.run_pure,Iu,ht1,hp]
      · cases h
    · cases h
  · cases h
theorem BY (hT:dz P T)(r:cx O E w n0 N m st a){o:Oper}{t:TypeId}{x:Operand}{f:Nat}(ho:o.op=.fieldAddr t x f){av:AV}(h:dQ T st (.fieldAddr t x f)=some av):qK P E w st a o av:=by
  have hx:=dy r x;have hn:=jF r.sc x;simp only[dQ] at h;split at h
  · rename_i fs _ _ _ _ e1
    obtain⟨fl,hu,si⟩:=GI (hT.ty t _ e1) rfl;split at h
    · rename_i off ft e2
      obtain⟨fd,VU,Iu,ht1⟩:=mF si f off ft e2;have aaT:fl[f]? = some fd:=by rw[<- dF];exact VU
      split at h
      · rename_i y e3
        cases hb:Nat.blt 0 y.sz with
        | false=>rw[hb] at h;cases h
        | true=>
          rw[hb] at h;simp only[cond_true] at h;have lY:¬ y.sz=0:=by have:0 < y.sz:=Nb hb;omega
          have go:∀ g p,a.eval x=.pointer (some ⟨g,p,none⟩)->(execOp a.eval o).run P w=.ok (.value (.pointer (some ⟨g,p+off,none⟩))) w:=fun g p hp=>by
            unfold execOp;simp only[ho,hp,Instr.fieldAt,Sem.run_bind,run_underlying hu,Result.andThen_ok,aaT,Instr.sureAddr,fieldPlace,ht1,kJ (hT.ty ft y e3),if_neg lY,Sem.run_pure,Iu,lS]
          split at h
          · rename_i b ahD e4
            rw[e4] at hx hn
            cases h
            exact⟨_,go _ _ hx,rfl,hn⟩
          · rename_i xs ahD e4
            rw[e4] at hx hn
            cases h
            obtain⟨g,p,vs,hv,h1⟩:=hx;exact⟨_,go _ _ hv,⟨g,p,vs,by rw[Nat.add_assoc],h1⟩,hn⟩
          · rename_i τ v k i ahD e4
            rw[e4] at hx hn
            cases h
            obtain⟨g,n,c,h1,hv⟩:=hx;exact⟨_,go _ _ hv,⟨g,n,c,h1,by rw[Nat.add_assoc]⟩,hn⟩
          · cases h
      · cases h
    · cases h
  · cases h
theorem lh {v:Value}{av:AV}{cs:List Ce}(h:gT av=some cs)(hv:RV E w v av):A2 (RC E w) v.cells.toList cs:=by
  unfold gT at h;split at h
  · cases h
    have h1:v.oneCell'=true:=RC.one hv;have:v.cells.toList=[v]:=by cases v <;> first|rfl|(cases h1;done)
    rw[this];exact .cons hv .nil
  · cases h
    obtain⟨vs,rfl,ha⟩:=hv;exact ha
  · cases h
theorem pH {av:AV}{cs:List Ce}(h:gT av=some cs)(hn:NmV st av):∀ p∈cs.flatMap Ce.cP,st.lJ p:=by
  unfold gT at h;split at h
  · cases h
    intro p hp;exact hn.2 p (by rw[bZ,List.flatMap_nil,aW] at hp;exact hp)
  · cases h
    exact hn.2
  · cases h
theorem A2.lq {vs us:List Value}{cs xs:List Ce}(h:A2 (RC E w) vs cs)(h2:A2 (RC E w) us xs)(o:Nat):A2 (RC E w) (vs.take o++us++vs.drop (o+us.length)) (lq cs o xs):=by
  rw[Cg.tC];rw[h2.len];exact((h.take o).append h2).append (h.drop _)
theorem xG:∀ (us:List Value) (off k:Nat) (vs:List Value),off+k+us.length<=vs.length->(us.zipIdx k).foldl (fun (cs:Array Value) (p:Value × Nat)=>cs.setIfInBounds (off+p.2) p.1) vs.toArray=(vs.take (off+k)++us++vs.drop (off+k+us.length)).toArray
  | [],off,k,vs,h=>by simp
  | u :: us,off,k,vs,h=>by
    rw[aZ] at h;rw[List.zipIdx_cons,List.foldl_cons,List.setIfInBounds_toArray,xG us off (k+1) (vs.set (off+k) u) (by rw[bQ];omega)];congr 1;rw[show off+(k+1)=off+k+1 by omega,aS (by rw[bQ];omega),List.take_set_of_le (ak _),List.getElem_set_self,List.drop_set_of_lt (by omega),aZ,show off+k+1+us.length=off+k+(us.length+1) by omega];simp
theorem CK (r:cx O E w n0 N m st a){pl pl2:Nat->Option (Nat × Nat)}(om:∀ i p,pl i=some p->pl2 i=some p):∀ {parts:List (Nat × Operand)} {cs xs:List Ce} {vs:List Value},kq st pl parts cs=some xs->A2 (RC E w) vs cs->∃ us,Instr.fill pl2 vs.toArray (parts.map fun p=>(p.1,a.eval p.2))=some us.toArray/\A2 (RC E w) us xs
  | [],cs,xs,vs,h,ha=>by
    cases h
    exact⟨vs,rfl,ha⟩
  | (j,x) :: parts,cs,xs,vs,h,ha=>by
    unfold kq at h;split at h
    · rename_i off sz us e1 e2
      cases hb:Nat.beq us.length sz&&Nat.ble (off+us.length) cs.length with
      | false=>rw[hb] at h;cases h
      | true=>
        rw[hb] at h;simp only[cond_true] at h;simp only[ah] at hb;have h1:=ai hb.1;have h2:=Nb hb.2;have hu:=lh e2 (dy r x);have hl:=hu.len;rw[bP] at hl;obtain⟨Ye,h3,h4⟩:=CK r om h (ha.lq hu off);refine⟨Ye,?_,h4⟩;rw[bW,Instr.fill,om _ _ e1];simp only
        rw[if_neg (by
          simp only[ne_eq,List.size_toArray,cC,decide_eq_true_eq,not_or,Decidable.not_not];rw[hl,ha.len];exact⟨h1,by omega⟩)]
        rw[<- h3];congr 1;rw[<- Array.foldl_toList,Array.toList_zipIdx,xG _ off 0 vs (by rw[bP,hl,ha.len];omega)];rw[dm]
    · cases h
theorem Wy {c:Ce}{v:Value}(h:Wz c v=true):RC E w v c:=by
  unfold Wz at h;split at h
  · simp only[ah,decide_eq_true_eq] at h
    obtain⟨rfl,rfl⟩:=h;exact RT.lit rfl
  · simp only[beq_iff_eq] at h
    subst h;exact RT.lit rfl
  · rename_i s s'
    simp only[ah,beq_iff_eq,Array.size_eq_zero_iff] at h
    have e:s'=s:=by
      cases s;cases s'
      simp_all
    subst e;exact RT.lit rfl
  · exact rfl
  · exact rfl
  · exact rfl
  · cases h
theorem lg:∀ {cs:List Ce} {vs:List Value},pb cs vs=true->A2 (RC E w) vs cs
  | [],[],_=>.nil
  | [],_ :: _,h=>by cases h
  | _ :: _,[],h=>by cases h
  | c :: cs,v :: vs,h=>by
    simp only[pb,ah] at h;exact .cons (Wy h.1) (lg h.2)
theorem pG:∀ {cs:List Ce} {vs:List Value},pb cs vs=true->cs.flatMap Ce.cP=[]
  | [],[],_=>rfl
  | [],_ :: _,h=>by cases h
  | _ :: _,[],h=>by cases h
  | c :: cs,v :: vs,h=>by
    simp only[pb,ah] at h;rw[bZ,pG h.2,aW];have h:=h.1;unfold Wz at h;split at h <;> first|rfl|(cases h;done)
theorem tJ {m:Nat}(sc:Sc m st){pl:Nat->Option (Nat × Nat)}:∀ {parts:List (Nat × Operand)} {cs xs:List Ce},kq st pl parts cs=some xs->(∀ p∈cs.flatMap Ce.cP,st.lJ p)->∀ p∈xs.flatMap Ce.cP,st.lJ p
  | [],cs,xs,h,ha=>by
    cases h
    exact ha
  | (j,x) :: parts,cs,xs,h,ha=>by
    unfold kq at h;split at h
    · rename_i off sz us e1 e2
      cases hb:Nat.beq us.length sz&&Nat.ble (off+us.length) cs.length with
      | false=>rw[hb] at h;cases h
      | true=>
        rw[hb] at h;refine tJ sc h fun p hp=>?_;obtain⟨c,hc,x6⟩:=List.mem_flatMap.1 hp;rw[tC] at hc;rcases bh.1 hc with hc|hc
        · rcases bh.1 hc with hc|hc
          · exact ha p (List.mem_flatMap.2 ⟨c,List.mem_of_mem_take hc,x6⟩)
          · exact pH e2 (jF sc x) p (List.mem_flatMap.2 ⟨c,hc,x6⟩)
        · exact ha p (List.mem_flatMap.2 ⟨c,List.mem_of_mem_drop hc,x6⟩)
    · cases h
theorem Hr {fl:List Field}{fs:List (Nat × Nat)}(h:iC P fl fs=true):∃ tI,fl.mapM (fun f=>(P.info? f.type).map fun i=>(f.offset,i.size))=some tI/\∀ (i o ft:Nat) y,fs[i]? = some (o,ft)->gU P ft y=true->tI[i]? = some (o,y.sz):=by
  induction fl generalizing fs with
  | nil=>
    cases fs with
    | nil=>exact⟨[],rfl,fun i o ft y h=>by simp at h⟩
    | cons _ _=>cases h
  | cons f fl ih=>
    cases fs with
    | nil=>cases h
    | cons p fs=>
      obtain⟨o',t'⟩:=p;simp only[iC,ah] at h;obtain⟨⟨⟨h1,h2⟩,h3⟩,h4⟩:=h;have h1:=ai h1;have h2:=ai h2;obtain⟨i0,hi0⟩:=Option.isSome_iff_exists.1 h3;obtain⟨tI,h5,h6⟩:=ih h4;refine⟨(o',i0.size) :: tI,?_,fun i o ft y hi hy=>?_⟩
      · simp[List.mapM_cons,h2,hi0,h5,h1]
      · rcases i with _|i
        · cases hi
          obtain⟨i1,_,g1,g2,_⟩:=nB hy;rw[hi0] at g1
          cases g1
          simp[g2]
        · exact h6 i o ft y hi hy
theorem PU (hT:dz P T)(r:cx O E w n0 N m st a){o:Oper}{t:TypeId}{parts:Array (Nat × Operand)}(ho:o.op=.build t parts){av:AV}(h:dQ T st (.build t parts)=some av):qK P E w st a o av:=by
  simp only[dQ] at h;split at h
  · rename_i fs _ _ z _ e1
    have QY:=hT.ty t _ e1;obtain⟨fl,hu,si⟩:=GI QY rfl;obtain⟨i,zv,hi,_,_,hz,QU⟩:=nB QY;obtain⟨tI,om,aaF⟩:=Hr si;split at h
    · rename_i cs en
      cases h
      obtain⟨us,h1,h2⟩:=CK r (pl2:=fun i=>tI.toArray[i]?) (fun i p hp=>by
        split at hp
        · rename_i off ft e2
          split at hp
          · rename_i y e3
            cases hp
            have:=aaF i off ft y e2 (hT.ty ft y e3);simpa using this
          · cases hp
        · cases hp) en (lg (E:=E) (w:=w) QU)
      refine⟨.agg us.toArray,?_,⟨us,rfl,h2⟩,fun b hb=>(by cases hb),tJ r.sc en fun p hp=>by rw[pG QU] at hp;cases hp⟩;unfold execOp;simp only[ho,Sem.run_bind]
      rw[run_build (P:=P) w t _ us.toArray (by
        unfold Program.built;simp only[hi,hu,hz,om];rw[<- h1];congr 1;simp)]
      rfl
    · cases h
  · rename_i n e _ _ z _ e1
    have QY:=hT.ty t _ e1;have hu:=GJ QY rfl;obtain⟨i,zv,hi,_,_,hz,QU⟩:=nB QY;split at h
    · rename_i y e2
      split at h
      · rename_i cs en
        cases h
        obtain⟨us,h1,h2⟩:=CK r (pl2:=fun i=>some (i*y.sz,y.sz)) (fun i p hp=>hp) en (lg (E:=E) (w:=w) QU);refine⟨.agg us.toArray,?_,⟨us,rfl,h2⟩,fun b hb=>(by cases hb),tJ r.sc en fun p hp=>by rw[pG QU] at hp;cases hp⟩;obtain⟨ie,_,hie,arI,_⟩:=nB (hT.ty e y e2);unfold execOp;simp only[ho,Sem.run_bind]
        rw[run_build (P:=P) w t _ us.toArray (by
          unfold Program.built;simp only[hi,hu,hz,hie,arI];rw[<- h1];congr 1;simp)]
        rfl
      · cases h
    · cases h
  · cases h
theorem Y7 (hT:dz P T)(r:cx O E w n0 N m st a){o:Oper}{c:Call}(ho:o.op=.call c){av:AV}(h:dQ T st (.call c)=some av):qK P E w st a o av:=by
  obtain⟨cl,ar,ty⟩:=c;simp only[dQ] at h;split at h
  · rename_i x t e2 e3
    obtain rfl:ar=#[x]:=Array.toList_inj.1 e2;obtain rfl:ty=#[t]:=Array.toList_inj.1 e3;have hx:=dy r x;clear e2 e3;split at h
    · rename_i e1
      split at h
      · rename_i s e
        rw[e] at hx
        cases h
        have hd:=kV (hT.ty t _ e1) rfl;refine eZ (u:=.int .i64 s.size) (by unfold execOp;simp[ho,eC hx,resolve,invoke,builtin,Builtin.len_,run_underlying hd];rfl) rfl rfl
      · cases h
    · rename_i e1
      have hd:=jt (hT.ty t _ e1) rfl;split at h
      · rename_i n e
        cases h
        obtain⟨ao,cap,hv⟩:∃ ao cap,a.eval x=.slice ao n cap:=Qx r hx e;refine eZ (u:=.int .i64 n) (by unfold execOp;simp[ho,hv,resolve,invoke,builtin,Builtin.len_,run_underlying hd];rfl) rfl rfl
      · cases h
    · cases h
  · rename_i x y t1 t2 e2 e3
    obtain rfl:ar=#[x,y]:=Array.toList_inj.1 e2;have hx:=dy r x;have hy:=dy r y;clear e2 e3;split at h
    · rename_i k n _ l e4 e5
      rw[e4] at hx;rw[e5] at hy
      cases h
      refine eZ (u:=.int k (if l > n then l else n)) (by unfold execOp;simp[ho,eC hx,eC hy,resolve,invoke,builtin,Builtin.max_,Builtin.max2]) rfl rfl
    · cases h
  · rename_i x y t1 t2 e2 e3
    obtain rfl:ar=#[x,y]:=Array.toList_inj.1 e2;have hx:=dy r x;have hy:=dy r y;clear e2 e3;split at h
    · rename_i k n _ l e4 e5
      rw[e4] at hx;rw[e5] at hy
      cases h
      refine eZ (u:=.int k (if l < n then l else n)) (by unfold execOp;simp[ho,eC hx,eC hy,resolve,invoke,builtin,Builtin.min_,Builtin.min2]) rfl rfl
    · cases h
  · cases h
theorem F0 (r:cx O E w n0 N m st a):∀ {xs:List Operand} {cs:List (Nat × Nat)},xX st xs=some cs->xs.map a.eval=cs.map (pc E)/\∀ b∈cs.map (·.1),st.hasB b
  | [],cs,h=>by
    obtain rfl:=aY h;exact⟨rfl,fun _ h=>by cases h⟩
  | x :: xs,cs,h=>by
    unfold xX at h;split at h
    · rename_i b o iH e1 e2
      cases h
      obtain⟨h1,h2⟩:=F0 r e2;have hx:=dy r x;have hn:=jF r.sc x;rw[e1] at hx hn;refine⟨by rw[bW,bW,h1];exact congrArg (· :: _) hx,fun b' hb=>?_⟩;rcases List.mem_cons.1 hb with rfl|hb
      · exact hn.1 _ aB
      · exact h2 b' hb
    · cases h
theorem Er (r:cx O E w n0 N m st a){o:Oper}{fn:Fn}{first caps:Array Operand}(ho:o.op=.makeFunc fn first caps){av:AV}(h:dQ T st (.makeFunc fn first caps)=some av):qK P E w st a o av:=by
  simp only[dQ] at h;split at h
  · rename_i f cs hf hc
    cases h
    obtain⟨h1,h2⟩:=F0 r hc;obtain rfl:first=#[]:=Array.toList_inj.1 hf
    refine⟨.func (.func f) #[] (cs.map (pc E)).toArray,?_,rfl,h2,fun p hp=>by cases hp⟩;unfold execOp;have:caps.map a.eval=(cs.map (pc E)).toArray:=Array.toList_inj.1 (by rw[Array.toList_map,h1]);simp only[ho,Instr.makeFunc,this,Sem.run_bind,Sem.run_pure,Result.andThen_ok,Array.map_empty]
  · cases h
theorem UM (hT:dz P T)(r:cx O E w n0 N m st a){o:Oper}{av:AV}(h:dQ T st o.op=some av):qK P E w st a o av:=by
  obtain⟨dst,op,type,pos,after,guard⟩:=o;simp only at h
  cases op with
  | move x=>
    cases h
    exact⟨a.eval x,by unfold execOp;rfl,dy r x,jF r.sc x⟩
  | assign x=>
    cases h
    exact⟨a.eval x,by unfold execOp;rfl,dy r x,jF r.sc x⟩
  | load t x=>exact UO hT r rfl h
  | nilCheck x=>exact Y6 r rfl h
  | binOp op t x y t'=>exact Ze hT r rfl h
  | unOp op t x=>exact ahC r rfl h
  | convert src dst x=>exact US hT r rfl h
  | field t x f=>exact PS hT r rfl h
  | fieldAddr t x f=>exact BY hT r rfl h
  | extract x i=>exact Hu r rfl h
  | build t ps=>exact PU hT r rfl h
  | call c=>exact Y7 hT r rfl h
  | makeFunc fn first caps=>exact Er r rfl h
  | _=>cases h
end
end
section
variable {P:Program}{T:Nat->Option Ty}{O:iy}
def lU (P:Program)(O:iy)(o:Oper)(a:Act)(w:World)(n0 N m:Nat)(st:St)(d:Dl):Prop:=∀ (K:Act->World->Prop) (Q:Exit->Act->World->Prop),(∀ E' v w',cx O E' w' n0 N m (st.app o.dst d) (a.put o.dst v)->Below n0 w w'->K (a.put o.dst v) w')->o.wp P a w K Q
theorem Mv.refl (st:St)(E:Env)(w:World)(X Y:Nat->Prop):Mv st E w E w X Y:=⟨ak _,fun _ _ _=>rfl,fun _ h _=>⟨rfl,h⟩,fun _ _ _=>rfl,fun _ _ _ _ _ h=>⟨rfl,h⟩,fun _ _ _ _ _=>rfl,fun _ _ _ _ _ _ _ h=>⟨rfl,h⟩,fun _ _ _=>rfl,fun _ _ _ _ _ _ _ _ h=>⟨rfl,h⟩⟩
theorem lM {m:Nat}{st:St}{v:AV}(h:NmV st v):adC m st (.val v):=⟨fun _ _ _ _ h=>(by cases h),fun b hb=>.inl (h.1 b hb),fun p hp=>.inl (h.2 p hp),fun _ _ h=>(by cases h),fun _ _ h=>(by cases h),fun _ _ _ h=>(by cases h)⟩
section
variable {E:Env}{w:World}{n0 N m id:Nat}{st:St}{a:Act}
theorem qK.done {o:Oper}{av:AV}(h:qK P E w st a o av)(r:cx O E w n0 N m st a)(hd:∀ x,o.dst=some x->x < N):lU P O o a w n0 N m st (.val av):=by
 obtain⟨v,hv,hr,hn⟩:=h;intro K Q hK;unfold Oper.wp;rw[hv];exact hK E v w (r.app hd (Mv.refl _ _ _ _ _) (lM hn) hr (fun _ _ h=>by cases h) fun _ _ h=>by cases h) (Below.refl _ _)
def nj (st:St)(id:Nat):Prop:=∀ i,id<=i->i < id+128->lk st.bx i=none/\lk st.rw i=none
def Env.nb (E:Env)(g i:Nat):Env:=⟨fun b=>if b < g then E.rl b else .bx i,fun j=>if j=i then g else E.bk j,E.vl⟩
theorem ahL {w':World}(hb:Below w.heap.size w w')(hf:lk st.bx id=none)(X Y:Nat->Prop):Mv st E w (E.nb w.heap.size id) w' X Y:=
 Mv.below hb (fun b aU=>by simp only[Env.nb,if_pos aU]) (fun i cs hi=>by
  simp only[Env.nb];rw[if_neg (fun e=>by rw[e,hf] at hi;cases hi)]) fun _ _ _ _ _=>rfl
theorem FL (r:cx O E w n0 N m st a){o:Oper}(hd:∀ x,o.dst=some x->x < N)(hf:nj st id)(hm:id < m){vs:List Value}{cs:List Ce}{t:TypeId}(lI:(execOp a.eval o).run P w=.ok (.value (.pointer (some ⟨w.heap.size,0,none⟩))) (w.alloc (.cells vs.toArray t)))(hc:A2 (RC E w) vs cs)(hn:∀ p∈cs.flatMap Ce.cP,st.lJ p) :
  lU P O o a w n0 N m st ⟨.ptr id 0,[(id,cs)],[]⟩:=by
 intro K Q hK;unfold Oper.wp;rw[lI];have hb:Below w.heap.size w (w.alloc (.cells vs.toArray t)):=(Below.refl _ _).alloc (ak _) _;have hfb:=(hf id (ak _) (by omega)).1;have mv:=ahL (E:=E) hb hfb (fun i=>∃ iH,lk [(id,cs)] i=some iH) fun τ=>∃ R,lk ([]:List (Nat × Row)) τ=some R;refine hK (E.nb w.heap.size id) _ _ (r.app hd mv ⟨fun _ _ _ _ h=>(by cases h),fun b hb=>.inr ?_,fun p hp=>(by cases hp),fun b iH h=>?_,fun _ _ h=>(by cases h),fun _ _ _ h=>(by cases h)⟩ ?_ (fun i iH hi=>?_) fun _ _ h=>by cases h) (hb.mono r.hi)
 ·obtain rfl:b=id:=by simpa [AV.ed,AV.iu] using hb
  exact⟨cs,by simp[lk]⟩
 ·rw[cp] at h;split at h
  ·rename_i e;subst e
   cases h
   exact⟨fun p hp=>.inl (hn p hp),hm⟩
  ·cases h
 ·show _=_;simp[Env.nb]
 ·rw[cp] at hi;split at hi
  ·rename_i e;subst e
   cases hi
   refine⟨vs,t,by simp only[Env.nb,if_pos];exact r.hi,?_,by simp[Env.nb],hc.fr mv.size mv.bH fun p hp=>mv.vr (hn p hp)⟩;simp only[Env.nb,if_pos];exact heap_alloc_new w _
  ·cases hi
theorem IX (hT:dz P T)(r:cx O E w n0 N m st a){o:Oper}(hd:∀ x,o.dst=some x->x < N)(hf:nj st id)(hm:id < m){e:Nat}{y:Ty}(ho:o.op=.alloc e)(hy:T e=some y):lU P O o a w n0 N m st ⟨.ptr id 0,[(id,y.z)],[]⟩:=by
 obtain⟨i,zv,hi,_,_,hz,QU⟩:=nB (hT.ty e y hy);refine FL r hd hf hm (vs:=zv.cells.toList) (t:=e) ?_ (lg QU) (fun p hp=>by rw[pG QU] at hp;cases hp);unfold execOp;simp[ho,Instr.alloc,zeroValue,typeInfo,hi,hz,newVar,newRow]
theorem RW (r:cx O E w n0 N m st a){o:Oper}(hd:∀ x,o.dst=some x->x < N)(hf:nj st id)(hm:id < m){e:Nat}{x:Operand}{cs:List Ce}(ho:o.op=.box e x)(hx:gT (ev st x)=some cs):lU P O o a w n0 N m st ⟨.ptr id 0,[(id,cs)],[]⟩:=by
 refine FL r hd hf hm (vs:=(a.eval x).cells.toList) (t:=e) ?_ (lh hx (dy r x)) (pH hx (jF r.sc x));unfold execOp;simp[ho,Instr.box,newVar,newRow]
theorem Bk.set {w:World}{b:Nat}{t:TypeId}{cs:List Value}(h:Bk w b t cs)(i:Nat)(u:Value):Bk (w.setCell ⟨b,i,none⟩ u) b t (cs.set i u):=by
 unfold Bk at *;simp only[World.setCell,Array.getElem?_modify];simp[h]
theorem Bk.OI {b:Nat}{t:TypeId}:∀ {cs:List Value} (o:Nat) (us:List Value) {w:World},Bk w b t cs->o+us.length<=cs.length->Bk (w.setCells b o us) b t (cs.take o++us++cs.drop (o+us.length))
 | cs,o,[],w,h,_=>by
  rw[aW,bM,dm,List.take_append_drop];exact h
 | cs,o,u :: us,w,h,hl=>by
  rw[aZ] at hl;have h1:=Bk.OI (o+1) us (h.set o u) (by rw[bQ];omega);rw[aS (by rw[bQ];omega),List.take_set_of_le (ak o),List.getElem_set_self,List.drop_set_of_lt (by omega)] at h1
  have e:cs.take o++[u]++us++cs.drop (o+1+us.length)=cs.take o++u :: us++cs.drop (o+(us.length+1)):=by
   rw[show o+1+us.length=o+(us.length+1) by omega];simp
  rw[e] at h1;exact h1
theorem jv (b:Nat):∀ (us:List Value) (o:Nat) (w:World),(w.setCells b o us).heap.size=w.heap.size
 | [],_,_=>rfl
 | u :: r,o,w=>by rw[World.setCells,jv b r];simp[World.setCell]
theorem jw (b:Nat):∀ (us:List Value) (o:Nat) (w:World) (k:Nat),k≠b->(w.setCells b o us).heap[k]? = w.heap[k]?
 | [],_,_,_,_=>rfl
 | u :: r,o,w,k,hk=>(jw b r (o+1) _ k hk).trans (Below.heap_setCell w ⟨b,o,none⟩ u k hk)
theorem iI {B:Nat}{w:World}:∀ (us:List Value) (i:Nat) (w':World),Below B w w'->∀ b,B<=b->Below B w (w'.setCells b i us)
 | [],_,_,h,_,_=>h
 | u :: r,i,w',h,b,hb=>iI r (i+1) (w'.setCell ⟨b,i,none⟩ u) ⟨h.os,h.tape,h.output,by have:=h.size;simpa [World.setCell] using this,fun k hk=>(Below.heap_setCell w' ⟨b,i,none⟩ u k fun e=>by have:k=b:=e;omega).trans (h.block k hk)⟩ b hb
theorem uE (hT:dz P T){t:Nat}{y:Ty}(hy:T t=some y){g p:Nat}{v:Value}(hl:v.cells.size=y.sz)(ht:w.there g p y.sz)(h1:∀ u∈v.cells.toList,u.oneCell'=true) :
  (Instr.storeAt t (.pointer (some ⟨g,p,none⟩)) v).run P w=.ok () (w.setCells g p v.cells.toList):=by
 have hs:=run_storeCells_cells (P:=P) g p v.cells.toList 0 w (fun j hj=>by simpa using (ht j (by rw[<- hl];simpa using hj)).1) (fun j hj=>by simpa using (ht j (by rw[<- hl];simpa using hj)).2) h1;rw[dm] at hs;simp[Instr.storeAt,Instr.sureAddr,storeVar,kJ (hT.ty t y hy),hl,hs]
theorem FK (hT:dz P T)(r:cx O E w n0 N m st a){o:Oper}(hd:∀ x,o.dst=some x->x < N){t:Nat}{ax x:Operand}{y:Ty}{us:List Ce}{b off:Nat}{cs:List Ce}(ho:o.op=.store t ax x)(hy:T t=some y)(hx:gT (ev st x)=some us)(hl:us.length=y.sz)(Fh:ev st ax=.ptr b off)(hb:lk st.bx b=some cs)(MR:off+us.length<=cs.length) :
  lU P O o a w n0 N m st ⟨.bot,[(b,lq cs off us)],[]⟩:=by
 have ha:=dy r ax;rw[Fh] at ha;have ha:a.eval ax=.pointer (some ⟨E.bk b,off,none⟩):=ha;obtain⟨vs,tb,h1,h2,h3,h4⟩:=r.box b cs hb;have hu:=lh hx (dy r x);have MP:=hu.len;have hn:=pH hx (jF r.sc x);have Ff:=r.sc.br b cs hb;have XC:off+(a.eval x).cells.toList.length<=vs.length:=by rw[MP,h4.len];exact MR
 have fp:=h2.OI off _ XC
 have lI:=uE (P:=P) (w:=w) hT hy (g:=E.bk b) (p:=off) (v:=a.eval x) (by rw[<- bP,MP,hl]) (fun j hj=>by
  rw[cell_of_row _ _ _ _ _ _ h2];refine⟨?_,by simp[World.frozen?,show w.heap[E.bk b]? = _ from h2]⟩;rw[List.getElem?_toArray,ag (by rw[h4.len];omega)];rfl) (A2.one hu)
 intro K Q hK;unfold Oper.wp execOp;simp only[ho,ha,Sem.run_bind,lI,Result.andThen_ok,Sem.run_pure,Oper.upon];have iR:∀ {k},k≠E.bk b->(w.setCells (E.bk b) off (a.eval x).cells.toList).heap[k]? = w.heap[k]?:=fun hk=>jw _ _ _ _ _ hk
 have mv:Mv st E w E (w.setCells (E.bk b) off (a.eval x).cells.toList) (fun i=>∃ iH,lk [(b,lq cs off us)] i=some iH) (fun τ=>∃ R,lk ([]:List (Nat × Row)) τ=some R):=by
  refine⟨by rw[jv];exact ak _,fun _ _ _=>rfl,fun k hk _=>⟨iR (fun e=>by rw[e,h3] at hk;cases hk),hk⟩,fun _ _ _=>rfl,fun i iH hi hX _ ik=>⟨iR fun e=>?_,ik⟩,fun _ _ _ _ _=>rfl,fun τ R hτ _ g hg _ ik=>⟨iR (fun e=>by rw[e,h3] at ik;cases ik),ik⟩,fun k hk _=>iR (fun e=>by rw[e,h3] at hk;cases hk),fun τ R hτ _ g j x _ ik=>⟨iR (fun e=>by rw[e,h3] at ik;cases ik),ik⟩⟩;rw[e,h3] at ik
  cases ik
  exact hX ⟨lq cs off us,by simp[lk]⟩
 refine hK E _ _ (r.app hd mv ⟨fun _ _ _ _ h=>(by cases h),fun b hb=>(by cases hb),fun p hp=>(by cases hp),fun b' iH h=>?_,fun _ _ h=>(by cases h),fun _ _ _ h=>(by cases h)⟩ trivial (fun i iH hi=>?_) fun _ _ h=>by cases h) (iI _ _ _ (Below.refl _ _) _ h1)
 ·rw[cp] at h;split at h
  ·rename_i e;subst e
   cases h
   refine⟨fun p hp=>?_,r.sc.fb b cs hb⟩;obtain⟨c,hc,x6⟩:=List.mem_flatMap.1 hp;rw[tC] at hc;rcases bh.1 hc with hc|hc
   ·rcases bh.1 hc with hc|hc
    ·exact .inl (Ff p (List.mem_flatMap.2 ⟨c,List.mem_of_mem_take hc,x6⟩))
    ·exact .inl (hn p (List.mem_flatMap.2 ⟨c,hc,x6⟩))
   ·exact .inl (Ff p (List.mem_flatMap.2 ⟨c,List.mem_of_mem_drop hc,x6⟩))
  ·cases h
 ·rw[cp] at hi;split at hi
  ·rename_i e;subst e
   cases hi
   refine⟨_,tb,h1,fp,h3,?_⟩;exact A2.lq (h4.fr mv.size mv.bH fun p hp=>mv.vr (Ff p hp)) (hu.fr mv.size mv.bH fun p hp=>mv.vr (hn p hp)) off
  ·cases hi
end
end
section
variable {P:Program}{T:Nat->Option Ty}{O:iy}
theorem uW {k:Nat}:∀ (es:List (Cl k)) (i:Nat) (x y:Cl k) (o:Nat) (us:List Value),es[i]? = some x->o+us.length<=k->y.1=x.1.take o++us++x.1.drop (o+us.length)->(es.set i y).flatMap Subtype.val=(es.flatMap Subtype.val).take (i*k+o)++us++(es.flatMap Subtype.val).drop (i*k+o+us.length)
 | [],i,x,y,o,us,h,_,_=>by simp at h
 | e :: es,0,x,y,o,us,h,hl,hy=>by
  obtain rfl:e=x:=by simpa using h
  have hk:=e.2.1;rw[List.set_cons_zero,bZ,bZ,hy,Nat.zero_mul,bw,List.take_append_of_le_length (by omega),List.drop_append_of_le_length (by omega)];simp
 | e :: es,i+1,x,y,o,us,h,hl,hy=>by
  have ih:=uW es i x y o us (by simpa using h) hl hy;have hk:=e.2.1;rw[List.set_cons_succ,bZ,bZ,ih,List.take_append,List.drop_append,List.take_of_length_le (l:=e.1) (by rw[hk,Nat.add_mul];omega),List.drop_of_length_le (l:=e.1) (by rw[hk,Nat.add_mul];omega),hk];rw[show(i+1)*k+o - k=i*k+o by rw[Nat.add_mul];omega,show(i+1)*k+o+us.length - k=i*k+o+us.length by rw[Nat.add_mul];omega];simp
theorem DH {α:Type}(l us:List α)(p n:Nat)(h:p+us.length<=n)(hn:n<=l.length):(l.take p++us++l.drop (p+us.length)).take n=(l.take n).take p++us++(l.take n).drop (p+us.length):=by
 have h1:(l.take p++us).length=p+us.length:=by rw[al,au];omega
 rw[List.take_append,h1,List.take_of_length_le (by omega),List.take_take,Nat.min_eq_left (by omega),List.drop_take]
section
variable {E:Env}{w:World}{n0 N m id:Nat}{st:St}{a:Act}
theorem nL {ty k:Nat}{v:Value}{es:List (Cl k)}(h1:w.ownsRow n0 ty k v es.length (es.flatMap Subtype.val)){i:Nat}{x:Cl k}(hx:es[i]? = some x):∃ (g cap:Nat) (cur:Array Value),v=.slice (some ⟨g,0,none⟩) es.length cap/\n0<=g/\w.heap[g]? = some (.cells cur ty (0,0))/\es.length<=cap/\cap<=maxLen/\cur.size=cap*k/\cur.toList.take (es.length*k)=es.flatMap Subtype.val/\
  ∀ (j:Nat) u,x.1[j]? = some u->w.cell? ⟨g,i*k+j,none⟩=some u:=by
 have oB:=(an.1 hx).1;rcases h1.2 with⟨_,h0⟩|⟨g,cap,cur,hv,hg,yl,hc,hm,hs,ht⟩
 ·omega
 ·refine⟨g,cap,cur,hv,hg,yl,hc,hm,hs,ht,fun j u hu=>?_⟩;have hj:j < k:=by have:=(an.1 hu).1;rwa [Cl.len] at this
  have hg2:=flat_get (enc:=Subtype.val) Cl.len es i _ hx j hj;rw[cell_of_row _ _ _ _ _ _ yl];rw[<- ht,List.getElem?_take] at hg2
  have aU:i*k+j < es.length*k:=by
   have:(i+1)*k<=es.length*k:=cy _ oB;rw[Nat.add_mul] at this;omega
  rw[if_pos aU] at hg2;rw[<- dF,hg2];exact hu
theorem Yz {τ:Nat}{R:Row}(h:Ow E w n0 (.rw τ) R.ty R.k (E.vl τ R.bA) R.xs){i:Nat}{xs:List Tr}(hi:R.xs[i]? = some xs):∃ (es:List (Cl R.k)) (g cap:Nat) (x:Cl R.k),E.vl τ R.bA=.slice (some ⟨g,0,none⟩) es.length cap/\w.ownsRow n0 R.ty R.k (E.vl τ R.bA) es.length (es.flatMap Subtype.val)/\I9 E.F w es R.xs/\es[i]? = some x/\jK E.F w x.1 xs/\
  ∀ (j:Nat) u,x.1[j]? = some u->w.cell? ⟨g,i*R.k+j,none⟩=some u:=by
 obtain⟨es,h1,h2,h3⟩:=h;have oB:=(an.1 hi).1;rw[<- h2.len] at oB;have hx:=ag oB;obtain⟨g,cap,cur,hv,_,_,_,_,_,_,h4⟩:=nL h1 hx;exact⟨es,g,cap,_,hv,h1,h2,hx,h2.at_ i _ _ hx hi,h4⟩
theorem IU (hT:dz P T)(r:cx O E w n0 N m st a){o:Oper}(hd:∀ x,o.dst=some x->x < N){t:Nat}{x:Operand}{y:Ty}{τ bA k i off:Nat}{R:Row}{xs:List Tr}{v:AV}(ho:o.op=.load t x)(hx:ev st x=.dX τ bA k i off)(hy:T t=some y)(hR:lk st.rw τ=some R)(fW:R.bA=bA)(hk:R.k=k)(nu:R.dp=none)(hi:R.xs[i]? = some xs)(hc:vm y xs off=some v):lU P O o a w n0 N m st (.val v):=by
 have ha:=dy r x;rw[hx] at ha;obtain⟨g,n,c,h1,hv⟩:=ha;obtain⟨es,g',cap,x',e1,_,_,_,h4,h5⟩:=Yz ((r.row τ R hR).ow nu) hi;rw[fW,h1] at e1
 cases e1
 obtain⟨u,hu,hr⟩:=pt (P:=P) (hT.ty t y hy) h5 (BG h4) (sE hc);refine qK.done ⟨u,?_,hr.rv,CP hc⟩ r hd;rw[hk] at hu;unfold execOp;simp only[ho,hv,Sem.run_bind,hu,Result.andThen_ok,Sem.run_pure]
theorem Nq {y:Ty}{bs cs:List Ce}{o:Nat}(hl:bs.length=cs.length)(h:∀ j,o<=j->j < o+y.wd->bs[j]? = cs[j]?):cut y bs o=cut y cs o:=by
 unfold cut;unfold Ty.wd at h;split
 ·rename_i ha;rw[if_pos ha] at h;rw[hl]
  have:(bs.drop o).take y.sz=(cs.drop o).take y.sz:=by
   refine List.ext_getElem? fun j=>?_;rw[List.getElem?_take,List.getElem?_take];split
   ·rw[List.getElem?_drop,List.getElem?_drop];exact h (o+j) (by omega) (by omega)
   ·rfl
  rw[this]
 ·rename_i ha;rw[if_neg ha] at h;rw[h o (ak _) (by omega)]
theorem EH {o n:Nat}:∀ {l:List (Nat × Nat × Nat × Nat)},Ad o n l=true->∀ x∈l,o<=x.2.1->x.2.1 < o+n->False
 | a :: l,h,x,hx,h1,h2=>by
  unfold Ad at h;split at h
  ·cases h
  ·rename_i hb;rcases List.mem_cons.1 hx with rfl|hx
   ·rw[show(Nat.ble o x.2.1&&Nat.blt x.2.1 (o+n))=true from Bool.and_eq_true_iff.2 ⟨Nat.ble_eq_true_of_le h1,Nat.ble_eq_true_of_le h2⟩] at hb
    cases hb
   ·exact EH h x hx h1 h2
 | [],_,x,hx,_,_=>by cases hx
theorem xC {o n:Nat}:∀ {l:List (Nat × Nat × Nat)},uV o n l=true->∀ x∈l,o<=x.1->x.1 < o+n->False
 | a :: l,h,x,hx,h1,h2=>by
  unfold uV at h;split at h
  ·cases h
  ·rename_i hb;rcases List.mem_cons.1 hx with rfl|hx
   ·rw[show(Nat.ble o x.1&&Nat.blt x.1 (o+n))=true from Bool.and_eq_true_iff.2 ⟨Nat.ble_eq_true_of_le h1,Nat.ble_eq_true_of_le h2⟩] at hb
    cases hb
   ·exact xC h x hx h1 h2
 | [],_,x,hx,_,_=>by cases hx
theorem Kg {o i ρ u:Nat}:∀ {l:List (Nat × Nat × Nat × Nat)},Mz o l=some (i,ρ,u)->(i,o,ρ,u)∈l
 | (a1,a2,a3,a4) :: l,h=>by
  unfold Mz at h;split at h
  ·rename_i hb
   cases h
   obtain rfl:=ai hb;exact aB
  ·exact aM _ (Kg h)
 | [],h=>by cases h
theorem Li {α β:Type}{R:α->β->Prop}:∀ {xs:List α} {ys:List β},xs.length=ys.length->(∀ (i:Nat) x y,xs[i]? = some x->ys[i]? = some y->R x y)->A2 R xs ys
 | [],[],_,_=>.nil
 | x :: xs,y :: ys,hl,h=>.cons (h 0 x y rfl rfl) (Li (by simpa using hl) fun i x y h1 h2=>h (i+1) x y h1 h2)
 | [],_ :: _,hl,_=>by cases hl
 | _ :: _,[],hl,_=>by cases hl
theorem IV (hT:dz P T)(r:cx O E w n0 N m st a){o:Oper}(hd:∀ x,o.dst=some x->x < N){t:Nat}{x:Operand}{y:Ty}{τ bA k i off:Nat}{R:Row}{d:Dp}{xs:List Tr}{v:AV}(ho:o.op=.load t x)(hx:ev st x=.dX τ bA k i off)(hy:T t=some y)(hR:lk st.rw τ=some R)(fW:R.bA=bA)(hk:R.k=k)(nu:R.dp=some d)(qN:Ad off y.wd d.ln=true)(hi:R.xs[i]? = some xs)(hc:vm y xs off=some v)(hD:uV off y.wd d.D=true\/d.c<=i):lU P O o a w n0 N m st (.val v):=by
 have ha:=dy r x;rw[hx] at ha;obtain⟨g,n,c,h1,hv⟩:=ha
 have hM:d.iQ=false:=by
  cases hm:d.iQ with
  | false=>rfl
  | true=>
   rcases(r.row τ R hR).mp (by unfold Row.iQ;rw[nu];exact hm) with⟨e,_⟩|⟨_,_,_,e,_⟩ <;> (rw[fW,h1] at e;cases e)
 obtain⟨es,g1,g2,g3⟩:=(r.row τ R hR).rd nu hM;have oB:=(an.1 hi).1;rw[<- g2.len] at oB;have hex:=ag oB;obtain⟨g',cap,cur,e1,_,_,_,_,_,_,h5⟩:=nL g1 hex;rw[fW,h1] at e1
 cases e1
 have uh:=g2.ln i _ _ hex hi;have hbl:((xs.mapIdx fun j t=>if off<=j/\j < off+y.wd then Ce.t t else Ce.bot)).length=(xs.map Ce.t).length:=by simp
 have VY:=Nq (y:=y) (o:=off) hbl (fun j q1 q2=>by
  rw[List.getElem?_mapIdx,bI]
  cases xs[j]? with
  | none=>rfl
  | some t=>simp only[Option.map_some,if_pos (Ai q1 q2)])
 obtain⟨u,hu,hr⟩:=pt (P:=P) (hT.ty t y hy) h5 (Li (R:=RC E w) (ys:=xs.mapIdx fun j t=>if off<=j/\j < off+y.wd then Ce.t t else Ce.bot) (by rw[List.length_mapIdx,Cl.len];exact uh.symm) (fun j u c q1 q2=>by
  rw[List.getElem?_mapIdx] at q2
  cases hj:xs[j]? with
  | none=>rw[hj] at q2;cases q2
  | some t=>
   rw[hj] at q2;simp only[Option.map_some,Option.some.injEq] at q2;split at q2
   ·rename_i uT;subst q2;have hce:=g2.at_ i _ _ hex hi j u t q1 hj;refine(hce.2 fun ρ u' hm=>EH qN _ hm uT.1 uT.2).2 fun ty k' hm aU=>?_;rcases hD with hD|hD
    ·exact xC hD _ hm uT.1 uT.2
    ·omega
   ·subst q2;exact g2.one i _ hex u (bc q1))) (VY.trans (sE hc))
 refine qK.done ⟨u,?_,hr.rv,CP hc⟩ r hd;rw[hk] at hu;unfold execOp;simp only[ho,hv,Sem.run_bind,hu,Result.andThen_ok,Sem.run_pure]
theorem IT (hT:dz P T)(r:cx O E w n0 N m st a){o:Oper}(hd:∀ x,o.dst=some x->x < N){t:Nat}{x:Operand}{y:Ty}{τ bA k i off ρ u:Nat}{R:Row}{d:Dp}(ho:o.op=.load t x)(hx:ev st x=.dX τ bA k i off)(hy:T t=some y)(hR:lk st.rw τ=some R)(fW:R.bA=bA)(hk:R.k=k)(nu:R.dp=some d)(qN:Mz off d.ln=some (i,ρ,u))(VY:y.isAgg=false)(hi:i < R.xs.length)(MR:off < R.k):lU P O o a w n0 N m st (.val (.c (.row ρ u))):=by
 have ha:=dy r x;rw[hx] at ha;obtain⟨g,n,c,h1,hv⟩:=ha
 have hM:d.iQ=false:=by
  cases hm:d.iQ with
  | false=>rfl
  | true=>
   rcases(r.row τ R hR).mp (by unfold Row.iQ;rw[nu];exact hm) with⟨e,_⟩|⟨_,_,_,e,_⟩ <;> (rw[fW,h1] at e;cases e)
 obtain⟨es,g1,g2,g3⟩:=(r.row τ R hR).rd nu hM;have oB:=hi;rw[<- g2.len] at oB;have hex:=ag oB;have hxi:=ag hi;obtain⟨g',cap,cur,e1,_,_,_,_,_,_,h5⟩:=nL g1 hex;rw[fW,h1] at e1
 cases e1
 have uh:=g2.ln i _ _ hex hxi;have hm:=Kg qN
 have hcut:cut y ((R.xs[i]).mapIdx fun j _=>if j=off then Ce.row ρ u else Ce.bot) off=some (.c (.row ρ u)):=by
  unfold cut;rw[VY];rw[if_neg (by simp),List.getElem?_mapIdx,ag (by omega)];simp
 obtain⟨u',hu,hr⟩:=pt (P:=P) (hT.ty t y hy) h5 (Li (R:=RC E w) (ys:=(R.xs[i]).mapIdx fun j _=>if j=off then Ce.row ρ u else Ce.bot) (by rw[List.length_mapIdx,Cl.len];exact uh.symm) (fun j u' c q1 q2=>by
  rw[List.getElem?_mapIdx] at q2
  cases hj:(R.xs[i])[j]? with
  | none=>rw[hj] at q2;cases q2
  | some t=>
   rw[hj] at q2;simp only[Option.map_some,Option.some.injEq] at q2;split at q2
   ·rename_i uT;subst q2 uT;exact(g2.at_ i _ _ hex hxi j u' t q1 hj).1 ρ u hm
   ·subst q2;exact g2.one i _ hex u' (bc q1))) hcut
 refine qK.done ⟨u',?_,hr.rv,⟨fun b hb=>(by cases hb),fun p hp=>?_⟩⟩ r hd
 ·rw[hk] at hu;unfold execOp;simp only[ho,hv,Sem.run_bind,hu,Result.andThen_ok,Sem.run_pure]
 ·obtain rfl:p=(ρ,u):=by simpa [AV.cP,AV.ig,Ce.cP] using hp
  exact r.sc.rl τ R d hR nu _ hm
theorem lA:∀ {cs:List Ce} {ts:List Tr} {vs:List Value},kp cs=some ts->A2 (RC E w) vs cs->jK E.F w vs ts
 | [],ts,_,h,.nil=>by
  cases h
  exact .nil
 | .t x :: cs,ts,_,h,.cons h1 h2=>by
  unfold kp at h;split at h
  ·rename_i xs hxs
   cases h
   exact .cons h1 (lA hxs h2)
  ·cases h
 | .nil :: cs,ts,_,h,.cons h1 h2=>by
  unfold kp at h;split at h
  ·rename_i xs hxs
   cases h
   refine .cons ?_ (lA hxs h2);rw[show _=Value.slice none 0 0 from h1];exact .gV fun _=>rfl
  ·cases h
 | .row _ _ :: _,_,_,h,_=>by cases h
 | .bot :: _,_,_,h,_=>by cases h
theorem wc (hT:dz P T)(r:cx O E w n0 N m st a){o:Oper}{t:Nat}{ax x:Operand}{y:Ty}{us:List Ce}{τ bA i off:Nat}{R:Row}(R':Row){es:List (Cl R.k)}{x':Cl R.k}(ho:o.op=.store t ax x)(hy:T t=some y)(hu:A2 (RC E w) (a.eval x).cells.toList us)(hl:us.length=y.sz)(Fh:ev st ax=.dX τ bA R.k i off)(fW:R.bA=bA)(iB:w.ownsRow n0 R.ty R.k (E.vl τ R.bA) es.length (es.flatMap Subtype.val))(ik:∀ g,(E.vl τ R.bA).ownBlock=some g->E.rl g=.rw τ)(MV:es[i]? = some x')(MR:off+us.length<=R.k) :
  ∃ (w':World) (y':Cl R.k),y'.1=x'.1.take off++(a.eval x).cells.toList++x'.1.drop (off+(a.eval x).cells.toList.length)/\(∀ (K:Act->World->Prop) (Q:Exit->Act->World->Prop),K (a.put o.dst (.tuple #[])) w'->o.wp P a w K Q)/\Mv st E w E w' (fun i=>∃ iH,lk ([]:List (Nat × List Ce)) i=some iH) (fun τ'=>∃ R1,lk [(τ,R')] τ'=some R1)/\
   w'.ownsRow n0 R.ty R.k (E.vl τ R.bA) (es.set i y').length ((es.set i y').flatMap Subtype.val)/\Below n0 w w'/\(∀ g j q,E.rl g=.jo τ j q->w'.heap[g]? = w.heap[g]?):=by
 have ha:=dy r ax;rw[Fh] at ha;obtain⟨g,n,c,h1,hv⟩:=ha;obtain⟨g',cap,cur,e1,XK,yl,oC,uS,en,vI,h5⟩:=nL iB MV;have ik:=ik g' (by rw[e1];rfl);rw[fW,h1] at e1
 cases e1
 have MP:=hu.len;have oB:=(an.1 MV).1
 have uf:i*R.k+off+(a.eval x).cells.toList.length<=es.length*R.k:=by
  have:(i+1)*R.k<=es.length*R.k:=cy _ oB;rw[Nat.add_mul] at this;rw[MP];omega
 have hcl:es.length*R.k<=cur.size:=by rw[en];exact cy _ oC
 have ID:Bk w g R.ty cur.toList:=yl;have Rc:=ID.OI (i*R.k+off) (a.eval x).cells.toList (by rw[bP (xs:=cur)];omega)
 have lI:=uE (P:=P) (w:=w) hT hy (g:=g) (p:=i*R.k+off) (v:=a.eval x) (by rw[<- bP,hu.len,hl]) (fun j hj=>by
  rw[cell_of_row _ _ _ _ _ _ yl];refine⟨?_,by simp[World.frozen?,yl]⟩;rw[Array.getElem?_eq_getElem (by have:=hu.len;omega)];rfl) (A2.one hu)
 obtain⟨y',NP⟩:∃ y':Cl R.k,y'.1=x'.1.take off++(a.eval x).cells.toList++x'.1.drop (off+(a.eval x).cells.toList.length):=⟨⟨_,by
  simp only[al,au,aO,Cl.len];omega,fun u VP=>by
  rcases bh.1 VP with VP|VP
  ·rcases bh.1 VP with VP|VP
   ·exact x'.one u (List.mem_of_mem_take VP)
   ·exact A2.one hu u VP
  ·exact x'.one u (List.mem_of_mem_drop VP)⟩,rfl⟩
 have iR:∀ {k'},k'≠g->(w.setCells g (i*R.k+off) (a.eval x).cells.toList).heap[k']? = w.heap[k']?:=fun hk=>jw _ _ _ _ _ hk;have lY:(w.setCells g (i*R.k+off) (a.eval x).cells.toList).heap.size=w.heap.size:=jv _ _ _ _;refine⟨w.setCells g (i*R.k+off) (a.eval x).cells.toList,y',NP,fun K Q hK=>?_,?_,?_,iI _ _ _ (Below.refl _ _) _ XK,fun g' j q hq=>iR fun e=>by rw[e,ik] at hq;cases hq⟩
 ·unfold Oper.wp execOp;simp only[ho,hv,Sem.run_bind,lI,Result.andThen_ok,Sem.run_pure,Oper.upon];exact hK
 ·refine⟨by rw[lY];exact ak _,fun _ _ _=>rfl,fun k Fc _=>⟨iR (fun e=>by rw[e,ik] at Fc;cases Fc),Fc⟩,fun _ _ _=>rfl,fun i iH hi hX _ iL=>⟨iR (fun e=>by rw[e,ik] at iL;cases iL),iL⟩,fun _ _ _ _ _=>rfl,fun τ' R' hτ hY g' y9 _ iL=>⟨iR fun e=>?_,iL⟩,fun k Fc _=>iR (fun e=>by rw[e,ik] at Fc;cases Fc),fun τ' R' hτ hY g' j q _ iL=>⟨iR (fun e=>by rw[e,ik] at iL;cases iL),iL⟩⟩;rw[e,ik] at iL
  cases iL
  exact hY ⟨_,cp _ _ _ _ |>.trans (if_pos rfl)⟩
 ·rw[fW,h1,bQ];refine⟨fO Cl.len _ |>.trans (by rw[bQ]),.inr ⟨g,c,_,rfl,XK,Rc,oC,uS,?_,?_⟩⟩
  ·have q0:(a.eval x).cells.toList.length=(a.eval x).cells.size:=bP;simp only[List.size_toArray,al,au,aO,bP];omega
  ·rw[List.toList_toArray,DH _ _ _ _ uf (by rw[bP];exact hcl),vI,uW es i x' y' off _ MV (by rw[MP];exact MR) NP]
theorem FI (hT:dz P T)(r:cx O E w n0 N m st a){o:Oper}(hd:∀ x,o.dst=some x->x < N){t:Nat}{ax x:Operand}{y:Ty}{us:List Ce}{ts:List Tr}{τ bA k i off:Nat}{R:Row}{xs:List Tr}(ho:o.op=.store t ax x)(hy:T t=some y)(hx:gT (ev st x)=some us)(hl:us.length=y.sz)(Fh:ev st ax=.dX τ bA k i off)(hR:lk st.rw τ=some R)(fW:R.bA=bA)(hk:R.k=k)(nu:R.dp=none)(hp:kp us=some ts)(hi:R.xs[i]? = some xs)(MR:off+ts.length<=R.k) :
  lU P O o a w n0 N m st ⟨.bot,[],[(τ,{ R with xs:=R.xs.set i (j4 xs off ts) })]⟩:=by
 have hu:=lh hx (dy r x);have hut:=lA hp hu;have MP:=hut.len;have vG:us.length=ts.length:=hu.len.symm.trans MP;obtain⟨es,iB,fD,ik⟩:=(r.row τ R hR).ow nu;have oB:=(an.1 hi).1;rw[<- fD.len] at oB;have MV:=ag oB;have h4:=fD.at_ i _ _ MV hi;subst hk;obtain⟨w',y',NP,lI,mv,YZ,hb,_⟩:=wc hT r { R with xs:=R.xs.set i (j4 xs off ts) } ho hy hu hl Fh fW iB ik MV (by omega);intro K Q hK;refine lI K Q (hK E _ w' (r.app hd mv ⟨fun τ' R1 R2 e1 e2=>?_,fun b hb=>(by cases hb),fun p hp=>(by cases hp),fun _ _ h=>(by cases h),fun τ' R' h=>?_,fun τ' R' d' h kH=>?_⟩ trivial (fun _ _ h=>by cases h) fun τ' R' h=>?_) hb)
 ·rw[cp] at e2;split at e2
  ·rename_i e;subst e
   cases e2
   rw[hR] at e1
   cases e1
   exact ak _
  ·cases e2
 ·rw[cp] at h;split at h
  ·rename_i e;subst e;exact r.sc.fr τ R hR
  ·cases h
 ·rw[cp] at h;split at h
  ·cases h
   have kH:R.dp=some d':=kH;rw[nu] at kH
   cases kH
  ·cases h
 ·rw[cp] at h;split at h
  ·rename_i e;subst e
   cases h
   refine Ow.rr nu ⟨es.set i y',YZ,⟨by rw[bQ,bQ];exact fD.len,fun j vs Ye q1 q2=>?_⟩,ik⟩;have fr:∀ {vs ts},jK E.F w vs ts->jK E.F w' vs ts:=fun h=>h.frame mv.size (fun b hb aU=>(mv.bH b hb aU).1) fun b hb _=>hb
   by_cases hj:i=j
   ·subst hj;rw[List.getElem?_set_self oB] at q1;rw[List.getElem?_set_self (by rw[<- fD.len];exact oB)] at q2
    cases q1
    cases q2
    rw[NP];rw[qg];rw[MP];exact fr ((((h4.a2).take off).append hut.a2).append ((h4.a2).drop _)).Yy
   ·rw[List.getElem?_set_ne hj] at q1 q2;exact fr (fD.at_ j vs Ye q1 q2)
  ·cases h
theorem Az {i:Nat}:∀ {us:List Ce} {o:Nat} {ts:List Tr} {nl:List (Nat × Nat × Nat × Nat)},n7 st i o us=some (ts,nl)->us.length=ts.length/\(∀ x∈nl,∃ j ρ u,us[j]? = some (.row ρ u)/\x=(i,o+j,ρ,u))/\(∀ j ρ u,us[j]? = some (.row ρ u)->(i,o+j,ρ,u)∈nl)/\∀ (j:Nat) c t,us[j]? = some c->ts[j]? = some t->vW st c=some t
 | [],o,ts,nl,h=>by
  cases h
  exact⟨rfl,fun x hx=>(by cases hx),fun j ρ u hj=>(by simp at hj),fun j c t hj=>by simp at hj⟩
 | c :: us,o,ts,nl,h=>by
  unfold n7 at h;split at h
  ·rename_i t vp nl' h1 h2
   cases h
   obtain⟨a1,a2,a3,a4⟩:=Az h2;refine⟨by simp[a1],fun x hx=>?_,fun j ρ u hj=>?_,fun j c' t' hj ht=>?_⟩
   ·have key:(∃ ρ u,c=.row ρ u/\x=(i,o,ρ,u))\/x∈nl':=by
     cases c with
     | row ρ u=>
      rcases List.mem_cons.1 hx with rfl|hx
      ·exact .inl ⟨ρ,u,rfl,rfl⟩
      ·exact .inr hx
     | _=>exact .inr hx
    rcases key with⟨ρ,u,rfl,rfl⟩|hx
    ·exact⟨0,ρ,u,rfl,rfl⟩
    ·obtain⟨j,ρ,u,h3,rfl⟩:=a2 x hx;exact⟨j+1,ρ,u,h3,by rw[show o+(j+1)=o+1+j by omega]⟩
   ·cases j with
    | zero=>
     obtain rfl:=aY hj;exact aB
    | succ j=>
     have:=a3 j ρ u hj;rw[show o+(j+1)=o+1+j by omega]
     cases c with
     | row=>exact aM _ this
     | _=>exact this
   ·cases j with
    | zero=>
     obtain rfl:=aY hj;obtain rfl:=aY ht;exact h1
    | succ j=>exact a4 j c' t' hj ht
  ·cases h
theorem JW:∀ {us:List Ce} {o:Nat} {D:List (Nat × Nat × Nat)},Hx o us D=true->∀ (j:Nat) c,us[j]? = some c->(∃ ρ u,c=.row ρ u)\/∀ x∈D,x.1≠o+j
 | [],_,_,_,j,c,hj=>by simp at hj
 | c0 :: us,o,D,h,j,c,hj=>by
  have h2:(∃ ρ u,c0=.row ρ u)\/uV o 1 D=true:=by
   cases c0 with
   | row ρ u=>exact .inl ⟨ρ,u,rfl⟩
   | _=>exact .inr (Bool.and_eq_true_iff.1 h).1
  have h3:Hx (o+1) us D=true:=by
   cases c0 with
   | row ρ u=>exact h
   | _=>exact(Bool.and_eq_true_iff.1 h).2
  cases j with
  | zero=>
   obtain rfl:=aY hj;exact h2.imp id fun h2 x hx e=>xC h2 x hx (by omega) (by omega)
  | succ j=>
   rcases JW h3 j c hj with h4|h4
   ·exact .inl h4
   ·exact .inr fun x hx e=>h4 x hx (by omega)
theorem Ki {i o n:Nat}:∀ {l:List (Nat × Nat × Nat × Nat)},Qn i o n l->∀ x∈l,o<=x.2.1->x.2.1 < o+n->x.1=i
 | a :: l,h,x,hx,h1,h2=>by
  obtain⟨h3,h4⟩:=h;rcases List.mem_cons.1 hx with rfl|hx
  ·rw[show(Nat.ble o x.2.1&&Nat.blt x.2.1 (o+n))=true from Bool.and_eq_true_iff.2 ⟨Nat.ble_eq_true_of_le h1,Nat.ble_eq_true_of_le h2⟩] at h3;exact h3
  ·exact Ki h4 x hx h1 h2
 | [],_,x,hx,_,_=>by cases hx
theorem oR {o n:Nat}{x:Nat × Nat × Nat × Nat}:∀ {l:List (Nat × Nat × Nat × Nat)},x∈oe o n l↔x∈l/\¬ (o<=x.2.1/\x.2.1 < o+n)
 | []=>by simp[oe]
 | a :: l=>by
  have ih:=oR (o:=o) (n:=n) (x:=x) (l:=l);unfold oe;split
  ·rename_i hb;have hb:=Bool.and_eq_true_iff.1 hb;have h1:=Nb hb.1;have h2:a.2.1 < o+n:=Nb hb.2;rw[ih];constructor
   ·exact fun h=>⟨aM _ h.1,h.2⟩
   ·rintro⟨h3,h4⟩;rcases List.mem_cons.1 h3 with rfl|h3
    ·exact(h4 ⟨h1,h2⟩).elim
    ·exact⟨h3,h4⟩
  ·rename_i hb
   have hb:¬ (o<=a.2.1/\a.2.1 < o+n):=fun h=>by
    rw[show(Nat.ble o a.2.1&&Nat.blt a.2.1 (o+n))=true from Bool.and_eq_true_iff.2 ⟨Nat.ble_eq_true_of_le h.1,Nat.ble_eq_true_of_le h.2⟩] at hb
    cases hb
   rw[List.mem_cons,List.mem_cons,ih];constructor
   ·rintro(rfl|h)
    ·exact⟨.inl rfl,hb⟩
    ·exact⟨.inr h.1,h.2⟩
   ·rintro⟨rfl|h,h2⟩
    ·exact .inl rfl
    ·exact .inr ⟨h,h2⟩
theorem SO.ch {τ j o:Nat}{d d':Dp}{v:Value}{t:Tr}(hD:d'.D=d.D)(hc:d'.c=d.c)(hl:∀ ρ u,(j,o,ρ,u)∈d'.ln↔(j,o,ρ,u)∈d.ln)(h:SO E w n0 τ j o d v t):SO E w n0 τ j o d' v t:=
 ⟨fun ρ u hm=>h.1 ρ u ((hl ρ u).1 hm),fun fk=>by
  rw[hD,hc];exact h.2 fun ρ u hm=>fk ρ u ((hl ρ u).2 hm)⟩
theorem FJ (hT:dz P T)(r:cx O E w n0 N m st a){o:Oper}(hd:∀ x,o.dst=some x->x < N){t:Nat}{ax x:Operand}{y:Ty}{us:List Ce}{ts:List Tr}{nl:List (Nat × Nat × Nat × Nat)}{τ bA k i off:Nat}{R:Row}{d:Dp}{xs:List Tr}(ho:o.op=.store t ax x)(hy:T t=some y)(hx:gT (ev st x)=some us)(hl:us.length=y.sz)(Fh:ev st ax=.dX τ bA k i off)(hR:lk st.rw τ=some R)(fW:R.bA=bA)(hk:R.k=k)(nu:R.dp=some d)(hcd:n7 st i off us=some (ts,nl))(hi:R.xs[i]? = some xs)(MR:off+ts.length<=R.k)(Di:Qn i off ts.length d.ln)(VU:Hx off us d.D=true\/d.c<=i) :
  lU P O o a w n0 N m st ⟨.bot,[],[(τ,{ R with xs:=R.xs.set i (j4 xs off ts),dp:=some ⟨d.D,d.c,nl++oe off ts.length d.ln⟩ })]⟩:=by
 have hu:=lh hx (dy r x);obtain⟨c1,c2,c3,c4⟩:=Az hcd
 have hM:d.iQ=false:=by
  cases hm:d.iQ with
  | false=>rfl
  | true=>
   have ha:=dy r ax;rw[Fh] at ha;obtain⟨_,_,_,h1,_⟩:=ha;rcases(r.row τ R hR).mp (by unfold Row.iQ;rw[nu];exact hm) with⟨e,_⟩|⟨_,_,_,e,_⟩ <;> (rw[fW,h1] at e;cases e)
 obtain⟨es,iB,fD,ik⟩:=(r.row τ R hR).rd nu hM;have oB:=(an.1 hi).1;rw[<- fD.len] at oB;have MV:=ag oB;have hxl:=fD.ln i _ _ MV hi;subst hk;obtain⟨w',y',NP,lI,mv,YZ,hb,aqW⟩:=wc hT r { R with xs:=R.xs.set i (j4 xs off ts),dp:=some ⟨d.D,d.c,nl++oe off ts.length d.ln⟩ } ho hy hu hl Fh fW iB ik MV (by omega);have MP:=hu.len;have fre:∀ {j o v t},SO E w n0 τ j o d v t->SO E w' n0 τ j o d v t:=fun h=>h.fr mv.size (fun b hb aU=>⟨(mv.bH b hb aU).1,hb⟩) (fun _ _ _=>rfl) fun g _ hr=>⟨aqW g _ _ hr,hr⟩
 intro K Q hK;refine lI K Q (hK E _ w' (r.app hd mv ⟨fun τ' R1 R2 e1 e2=>?_,fun b hb=>(by cases hb),fun p hp=>(by cases hp),fun _ _ h=>(by cases h),fun τ' R' h=>?_,fun τ' R' d' h kH l hl'=>.inl ?_⟩ trivial (fun _ _ h=>by cases h) fun τ' R' h=>?_) hb)
 ·rw[cp] at e2;split at e2
  ·rename_i e;subst e
   cases e2
   rw[hR] at e1
   cases e1
   exact ak _
  ·cases e2
 ·rw[cp] at h;split at h
  ·rename_i e;subst e;exact r.sc.fr τ R hR
  ·cases h
 ·rw[cp] at h;split at h
  ·cases h
   cases kH
   rcases bh.1 hl' with hl'|hl'
   ·obtain⟨j,ρ,u,h1,rfl⟩:=c2 l hl';exact pH hx (jF r.sc x) (ρ,u) (List.mem_flatMap.2 ⟨_,bc h1,aB⟩)
   ·exact r.sc.rl τ R d hR nu l (oR.1 hl').1
  ·cases h
 ·rw[cp] at h;split at h
  ·rename_i e;subst e
   cases h
   refine RD.rr rfl (show Dp.iQ ⟨d.D,d.c,nl++oe off ts.length d.ln⟩=false from hM) ?_;show RD E w' n0 τ ⟨d.D,d.c,nl++oe off ts.length d.ln⟩ R.ty R.k (E.vl τ R.bA) (R.xs.set i (j4 xs off ts));refine⟨es.set i y',YZ,⟨by rw[bQ,bQ];exact fD.len,fun j vs Ye q1 q2=>?_,fun j vs q1 u=>vs.one u,fun j vs Ye q1 q2 p v t q3 q4=>?_⟩,ik⟩
   ·by_cases hj:i=j
    ·subst hj;rw[List.getElem?_set_self (by rw[<- fD.len];exact oB)] at q2
     cases q2
     rw[qg,al,al,au,aO];omega
    ·rw[List.getElem?_set_ne hj] at q1 q2;exact fD.ln j vs Ye q1 q2
   ·by_cases hj:i=j
    ·subst hj;rw[List.getElem?_set_self oB] at q1;rw[List.getElem?_set_self (by rw[<- fD.len];exact oB)] at q2
     cases q1
     cases q2
     rw[NP] at q3;rw[qg] at q4
     by_cases uT:off<=p/\p < off+ts.length
     ·obtain⟨j0,rfl⟩:∃ j0,p=off+j0:=⟨p - off,by omega⟩
      have e1:((es[i]).1.take off).length=off:=by rw[au,Cl.len];omega
      have e2:(xs.take off).length=off:=by rw[au];omega
      rw[b9,bm (by omega),e1,Nat.add_sub_cancel_left,bz (by omega)] at q3;rw[b9,bm (by omega),e2,Nat.add_sub_cancel_left,bz (by omega)] at q4;have hcj:us[j0]? = some (us[j0]'(by omega)):=ag _;obtain⟨v',hv',Q1⟩:=hu.get j0 _ hcj;rw[q3] at hv'
      cases hv'
      have htc:=c4 j0 _ t hcj q4;obtain⟨c,hc⟩:∃ c,us[j0]'(by omega)=c:=⟨_,rfl⟩
      rw[hc] at hcj Q1 htc
      have uh:∀ ρ u,(i,off+j0,ρ,u)∈nl++oe off ts.length d.ln->c=.row ρ u:=fun ρ u hm=>by
       rcases bh.1 hm with hm|hm
       ·obtain⟨j1,ρ',u',h1,h2⟩:=c2 _ hm;simp only[Prod.mk.injEq] at h2;obtain⟨_,h3,rfl,rfl⟩:=h2;obtain rfl:j0=j1:=by omega
        rw[hcj] at h1;exact aY h1
       ·exact((oR.1 hm).2 uT).elim
      refine⟨fun ρ u hm=>?_,fun fk=>⟨fun ty k hm aU=>?_,fun _=>?_⟩⟩
      ·rw[uh ρ u hm] at Q1;exact Q1
      ·rcases VU with VU|VU
       ·rcases JW VU j0 c hcj with⟨ρ,u,rfl⟩|h5
        ·exact(fk ρ u (bR _ (c3 j0 ρ u hcj))).elim
        ·exact(h5 _ hm rfl).elim
       ·exact absurd aU (Nat.not_lt.2 VU)
      ·cases c with
       | row ρ u=>exact(fk ρ u (bR _ (c3 j0 ρ u hcj))).elim
       | t x=>
        cases htc
        exact RT.frame mv.size (fun b hb aU=>(mv.bH b hb aU).1) (fun b hb _=>hb) Q1
       | nil=>
        cases htc
        rw[show v=_ from Q1];exact .gV fun _=>rfl
       | bot=>cases htc
     ·have q3':(es[i]).1[p]? = some v:=by
       rw[<- q3];have e1:((es[i]).1.take off).length=off:=by rw[au,Cl.len];omega
       by_cases x8:p < off
       ·rw[b9,bz (by omega),List.getElem?_take,if_pos x8]
       ·rw[bm (by rw[al];omega),List.getElem?_drop,al,e1];congr 1;omega
      have q4':xs[p]? = some t:=by
       rw[<- q4];have e2:(xs.take off).length=off:=by rw[au];omega
       by_cases x8:p < off
       ·rw[b9,bz (by omega),List.getElem?_take,if_pos x8]
       ·rw[bm (by rw[al];omega),List.getElem?_drop,al,e2];congr 1;omega
      refine SO.ch (d:=d) (h:=fre (fD.at_ i _ _ MV hi p v t q3' q4')) rfl rfl fun ρ u=>?_;rw[bh,oR];constructor
      ·rintro(hm|hm)
       ·obtain⟨j1,ρ',u',h1,h2⟩:=c2 _ hm;simp only[Prod.mk.injEq] at h2;have:=(an.1 h1).1;exact(uT (by omega)).elim
       ·exact hm.1
      ·exact fun hm=>.inr ⟨hm,uT⟩
    ·rw[List.getElem?_set_ne hj] at q1 q2;refine SO.ch (d:=d) (h:=fre (fD.at_ j vs Ye q1 q2 p v t q3 q4)) rfl rfl fun ρ u=>?_;rw[bh,oR];constructor
     ·rintro(hm|hm)
      ·obtain⟨j1,ρ',u',h1,h2⟩:=c2 _ hm;simp only[Prod.mk.injEq] at h2;exact(hj h2.1.symm).elim
      ·exact hm.1
     ·exact fun hm=>.inr ⟨hm,fun uT=>hj (Ki Di _ hm uT.1 uT.2).symm⟩
  ·cases h
end
end
section
variable {P:Program}{T:Nat->Option Ty}{O:iy}
section
variable {E:Env}{w:World}{n0 N m id:Nat}{st:St}{a:Act}
theorem oT {ix:Operand}{kk:IntKind}{n:Int}(r:cx O E w n0 N m st a)(h:ev st ix=.c (.t (.lit (.int kk n)))):a.eval ix=.int kk n:=by
 have:=dy r ix;rw[h] at this;exact eC this
theorem UN (r:cx O E w n0 N m st a){o:Oper}{c x y:Operand}{t:Bool}(ho:o.op=.pick c x y)(h:ev st c=.c (.t (.lit (.bool t)))):qK P E w st a o (cond t (ev st x) (ev st y)):=by
 have hc:=dy r c;rw[h] at hc;have hc:=eC hc
 cases t with
 | true=>exact⟨a.eval x,by unfold execOp;simp[ho,hc,asBool],dy r x,jF r.sc x⟩
 | false=>exact⟨a.eval y,by unfold execOp;simp[ho,hc,asBool],dy r y,jF r.sc y⟩
theorem OS (hT:dz P T){o:Oper}{t e:Nat}{x ix:Operand}{s b:Nat}{z:List Ce}{q:List Lk}{kk:IntKind}{n:Int}{y:Ty}{j len cap g p:Nat}(ho:o.op=.indexAddr t x ix)(ht:T t=some ⟨.iU e,s,b,z,q⟩)(hi:a.eval ix=.int kk n)(he:T e=some y)(hx:a.eval x=.slice (some ⟨g,p,none⟩) len cap)(hn:n=j)(hj:j < len) :
  (execOp a.eval o).run P w=.ok (.value (.pointer (some ⟨g,p+j*y.sz,none⟩))) w:=by
 have hu:=jt (hT.ty t _ ht) rfl;subst hn;unfold execOp;have aU:(0:Int)<=(j:Int)/\(j:Int) < (len:Int):=⟨by omega,by omega⟩
 simp only[ho,hi,hx,Instr.indexAt,asIntOf,Sem.run_bind,Sem.run_pure,Result.andThen_ok,run_underlying hu,if_pos aU,kJ (hT.ty e y he),Int.toNat_natCast,lS,Sem.run_ite]
theorem TI {F:Nat->Prop}{v:Value}{k:Nat}{xs:List (List Tr)}(h:RT F w v (.sl k xs)){j:Nat}{ts:List Tr}(hj:xs[j]? = some ts):∃ g p cap vs,v=.slice (some ⟨g,p,none⟩) xs.length cap/\F g/\g < w.heap.size/\(∀ (i:Nat) u,vs[i]? = some u->w.cell? ⟨g,p+j*k+i,none⟩=some u)/\jK F w vs ts:=by
 cases h with
 | gV=>simp at hj
 | jS h1 h2 h3 h4 h5=>
  obtain⟨vs,_,h6,h7⟩:=h5.get j ts hj;subst h1;exact⟨_,_,_,vs,rfl,h3,h4,h6,h7⟩
theorem Y9 (hT:dz P T)(r:cx O E w n0 N m st a){o:Oper}{t e:Nat}{x ix:Operand}{s b:Nat}{z:List Ce}{q:List Lk}{kk:IntKind}{n:Int}{y:Ty}{k:Nat}{xs:List (List Tr)}{j:Nat}{ts:List Tr}(ho:o.op=.indexAddr t x ix)(ht:T t=some ⟨.iU e,s,b,z,q⟩)(hi:ev st ix=.c (.t (.lit (.int kk n))))(he:T e=some y)(hx:ev st x=.c (.t (.sl k xs)))(hk:k=y.sz)(hn:n=j)(hj:xs[j]? = some ts):qK P E w st a o (.dL ts 0):=by
 have ha:=dy r x;rw[hx] at ha;obtain⟨g,p,cap,vs,hv,h1,h2,h3,h4⟩:=TI (show RT E.F w (a.eval x) (.sl k xs) from ha) hj;refine⟨_,OS hT ho ht (oT r hi) he hv hn (an.1 hj).1,⟨g,p+j*y.sz,vs,by rw[dm],h1,h2,?_,h4⟩,fun b hb=>(by cases hb),fun p hp=>(by cases hp)⟩;rw[<- hk];exact h3
theorem Zb (hT:dz P T)(r:cx O E w n0 N m st a){o:Oper}{t e:Nat}{x ix:Operand}{s b:Nat}{z:List Ce}{q:List Lk}{kk:IntKind}{n:Int}{y:Ty}{τ bA:Nat}{R:Row}{j:Nat}(ho:o.op=.indexAddr t x ix)(ht:T t=some ⟨.iU e,s,b,z,q⟩)(hi:ev st ix=.c (.t (.lit (.int kk n))))(he:T e=some y)(hx:ev st x=.c (.row τ bA))(hR:lk st.rw τ=some R)(fW:R.bA=bA)(hk:R.k=y.sz)(hM:R.iQ=false)(hn:n=j)(hj:j < R.xs.length):qK P E w st a o (.dX τ bA R.k j 0):=by
 have ha:=dy r x;have Dh:=jF r.sc x;rw[hx] at ha Dh;have hv:a.eval x=E.vl τ bA:=ha.1;obtain⟨es,h1,h2,_⟩:=(r.row τ R hR).hd hM;obtain⟨g,cap,cur,e1,_⟩:=nL h1 (ag (i:=j) (by rw[h2];exact hj));rw[fW] at e1;rw[e1] at hv;refine⟨_,OS hT ho ht (oT r hi) he hv hn (by rw[h2];exact hj),⟨g,es.length,cap,e1,by rw[bw,dm,hk]⟩,Dh⟩
theorem BF (hT:dz P T){o:Oper}{t m' e:Nat}{x ix:Operand}{s b:Nat}{z:List Ce}{q:List Lk}{kk:IntKind}{n:Int}{y:Ty}{j g p:Nat}(ho:o.op=.indexAddr t x ix)(ht:T t=some ⟨.arr m' e,s,b,z,q⟩)(hi:a.eval ix=.int kk n)(he:T e=some y)(hx:a.eval x=.pointer (some ⟨g,p,none⟩))(hn:n=j)(hj:j < m') :
  (execOp a.eval o).run P w=.ok (.value (.pointer (some ⟨g,p+j*y.sz,none⟩))) w:=by
 have hu:=GJ (hT.ty t _ ht) rfl;subst hn;unfold execOp;have aU:(0:Int)<=(j:Int)/\(j:Int) < (m':Int):=⟨by omega,by omega⟩
 simp only[ho,hi,hx,Instr.indexAt,asIntOf,Instr.sureAddr,Sem.run_bind,Sem.run_pure,Result.andThen_ok,run_underlying hu,if_pos aU,kJ (hT.ty e y he),Int.toNat_natCast,lS,Sem.run_ite]
theorem UP (hT:dz P T)(r:cx O E w n0 N m st a){o:Oper}{t m' e:Nat}{x ix:Operand}{s b:Nat}{z:List Ce}{q:List Lk}{kk:IntKind}{n:Int}{y:Ty}{g off j:Nat}(ho:o.op=.indexAddr t x ix)(ht:T t=some ⟨.arr m' e,s,b,z,q⟩)(hi:ev st ix=.c (.t (.lit (.int kk n))))(he:T e=some y)(hx:ev st x=.ptr g off)(hn:n=j)(hj:j < m'):qK P E w st a o (.ptr g (off+j*y.sz)):=by
 have ha:=dy r x;have Dh:=jF r.sc x;rw[hx] at ha Dh;exact⟨_,BF hT ho ht (oT r hi) he ha hn hj,rfl,Dh⟩
theorem UQ (hT:dz P T)(r:cx O E w n0 N m st a){o:Oper}{t m' e:Nat}{x ix:Operand}{s b:Nat}{z:List Ce}{q:List Lk}{kk:IntKind}{n:Int}{y:Ty}{xs:List Tr}{off j:Nat}(ho:o.op=.indexAddr t x ix)(ht:T t=some ⟨.arr m' e,s,b,z,q⟩)(hi:ev st ix=.c (.t (.lit (.int kk n))))(he:T e=some y)(hx:ev st x=.dL xs off)(hn:n=j)(hj:j < m'):qK P E w st a o (.dL xs (off+j*y.sz)):=by
 have ha:=dy r x;have Dh:=jF r.sc x;rw[hx] at ha Dh;obtain⟨g,p,vs,hv,h1⟩:=ha;exact⟨_,BF hT ho ht (oT r hi) he hv hn hj,⟨g,p,vs,by rw[Nat.add_assoc],h1⟩,Dh⟩
theorem UR (hT:dz P T)(r:cx O E w n0 N m st a){o:Oper}{t m' e:Nat}{x ix:Operand}{s b:Nat}{z:List Ce}{q:List Lk}{kk:IntKind}{n:Int}{y:Ty}{τ bA k i off j:Nat}(ho:o.op=.indexAddr t x ix)(ht:T t=some ⟨.arr m' e,s,b,z,q⟩)(hi:ev st ix=.c (.t (.lit (.int kk n))))(he:T e=some y)(hx:ev st x=.dX τ bA k i off)(hn:n=j)(hj:j < m'):qK P E w st a o (.dX τ bA k i (off+j*y.sz)):=by
 have ha:=dy r x;have Dh:=jF r.sc x;rw[hx] at ha Dh;obtain⟨g,n',c,h1,hv⟩:=ha;exact⟨_,BF hT ho ht (oT r hi) he hv hn hj,⟨g,n',c,h1,by rw[Nat.add_assoc]⟩,Dh⟩
theorem Za (hT:dz P T)(r:cx O E w n0 N m st a){o:Oper}{t:Nat}{x ix:Operand}{s b:Nat}{z:List Ce}{q:List Lk}{kk:IntKind}{n:Int}{str:ByteArray}{j:Nat}(h:j < str.size)(ho:o.op=.index t x ix)(ht:T t=some ⟨.string,s,b,z,q⟩)(hx:ev st x=.c (.t (.lit (.string str))))(hi:ev st ix=.c (.t (.lit (.int kk n))))(hn:n=j):qK P E w st a o (.c (.t (.lit (.int .u8 (str[j]'h).toNat)))):=by
 have hu:=kV (hT.ty t _ ht) rfl;have hv:=dy r x;rw[hx] at hv;have hv:=eC hv;subst hn;refine eZ ?_ rfl rfl;unfold execOp;simp only[ho,oT r hi,hv,Instr.index,asIntOf,Sem.run_bind,Sem.run_pure,Result.andThen_ok,run_underlying hu];simp[h]
theorem Y8 (hT:dz P T)(r:cx O E w n0 N m st a){o:Oper}{t m' e:Nat}{x ix:Operand}{s b:Nat}{z:List Ce}{q:List Lk}{kk:IntKind}{n:Int}{y:Ty}{cs:List Ce}{j:Nat}{v:AV}(ho:o.op=.index t x ix)(ht:T t=some ⟨.arr m' e,s,b,z,q⟩)(hx:ev st x=.agg cs)(hi:ev st ix=.c (.t (.lit (.int kk n))))(he:T e=some y)(hn:n=j)(hj:j < m')(hc:cut y cs (j*y.sz)=some v):qK P E w st a o v:=by
 have hu:=GJ (hT.ty t _ ht) rfl;have hv:=dy r x;have Dh:=jF r.sc x;rw[hx] at hv Dh;obtain⟨vs,hv,ha⟩:=hv;subst hn;obtain⟨u,hp,hr⟩:=JQ (P:=P) (hT.ty e y he) ha hc;have aU:(0:Int)<=(j:Int)/\(j:Int) < (m':Int):=⟨by omega,by omega⟩
 refine⟨u,?_,hr.rv,CO hc Dh.2⟩;unfold execOp;simp only[ho,oT r hi,hv,Instr.index,asIntOf,Sem.run_bind,Sem.run_pure,Result.andThen_ok,run_underlying hu,if_pos aU,kJ (hT.ty e y he),Int.toNat_natCast,hp]
theorem AF (r:cx O E w n0 N m st a){x:Option Operand}{z n:Nat}(h:bound st x z n):x.map a.eval=none/\n=z\/∃ k,x.map a.eval=some (.int k n):=by
 cases x with
 | none=>exact .inl ⟨rfl,h⟩
 | some x=>
  unfold bound at h;simp only at h;split at h
  ·rename_i k m' e;subst h;exact .inr ⟨k,congrArg some (oT r e)⟩
  ·exact h.elim
theorem oa (r:cx O E w n0 N m st a){Ij:Bool}{lo hi:Option Operand}{len cap l h:Nat}(hl:bound st lo 0 l)(hh:bound st hi len h)(h1:l<=h)(h2:h<=len)(hc:len<=cap):(Instr.sliceBounds Ij len cap (lo.map a.eval) (hi.map a.eval) none).run P w=.ok (l,h,cap) w:=by
 have c1:(0:Int)<=(h:Int)/\(h:Int)<=(cap:Int):=⟨by omega,by omega⟩
 have c2:(0:Int)<=(l:Int)/\(l:Int)<=(h:Int):=⟨by omega,by omega⟩
 have c3:(0:Int)<=(l:Int)/\(l:Int)<=(len:Int):=⟨by omega,by omega⟩
 rcases AF r hl with⟨e1,rfl⟩|⟨k1,e1⟩ <;> rcases AF r hh with⟨e2,rfl⟩|⟨k2,e2⟩
 ·simp[Instr.sliceBounds,e1,e2]
 ·simp[Instr.sliceBounds,e1,e2,run_sliceBound w _ _ _ _ c1.1 c1.2]
 ·simp[Instr.sliceBounds,e1,e2,run_sliceBound w _ _ _ _ c3.1 c3.2]
 ·simp[Instr.sliceBounds,e1,e2,run_sliceBound w _ _ _ _ c1.1 c1.2,run_sliceBound w _ _ _ _ c2.1 c2.2]
theorem Y4 (hT:dz P T)(r:cx O E w n0 N m st a){o:Oper}{t:Nat}{x:Operand}{lo hi:Option Operand}{s b:Nat}{z:List Ce}{q:List Lk}{str:ByteArray}{l h:Nat}(ho:o.op=.slice t x lo hi none)(ht:T t=some ⟨.string,s,b,z,q⟩)(hx:ev st x=.c (.t (.lit (.string str))))(hl:bound st lo 0 l)(hh:bound st hi str.size h)(h1:l<=h)(h2:h<=str.size):qK P E w st a o (.s (str.extract l h)):=by
 have hu:=kV (hT.ty t _ ht) rfl;have hv:=dy r x;rw[hx] at hv;have hv:=eC hv;refine eZ (u:=.string (str.extract l h)) ?_ rfl rfl;unfold execOp;simp[ho,hv,Instr.sliceAt,Instr.slice,run_underlying hu,oa r hl hh h1 h2 (ak _)]
theorem tc.drop {F:Nat->Prop}{k g:Nat}:∀ {xs:List (List Tr)} {o:Nat} (l:Nat),tc F w k g o xs->tc F w k g (o+l*k) (xs.drop l)
 | _,_,0,h=>by simpa using h
 | [],_,l+1,_=>by simpa using tc.nil
 | x :: xs,o,l+1,.cons _ _ _ h=>by
  have:=tc.drop l h
  rwa [show o+k+l*k=o+(l+1)*k by rw[Nat.add_mul];omega] at this
theorem tc.take {F:Nat->Prop}{k g:Nat}:∀ {xs:List (List Tr)} {o:Nat} (l:Nat),tc F w k g o xs->tc F w k g o (xs.take l)
 | _,_,0,h=>.nil
 | [],_,l+1,_=>by simpa using tc.nil
 | x :: xs,o,l+1,.cons h1 h2 h3 h=>.cons h1 h2 h3 (tc.take l h)
theorem RT.CZ {F:Nat->Prop}{v:Value}{k:Nat}{xs:List (List Tr)}(h:RT F w v (.sl k xs)):xs=[]\/∃ g o cap,v=.slice (some ⟨g,o,none⟩) xs.length cap/\xs.length<=cap/\F g/\g < w.heap.size/\tc F w k g o xs:=by
 cases h with
 | gV=>exact .inl rfl
 | jS h1 h2 h3 h4 h5=>
  subst h1;exact .inr ⟨_,_,_,rfl,h2,h3,h4,h5⟩
theorem Y3 (hT:dz P T)(r:cx O E w n0 N m st a){o:Oper}{t e:Nat}{x:Operand}{lo hi:Option Operand}{s b:Nat}{z:List Ce}{q:List Lk}{y:Ty}{k:Nat}{xs:List (List Tr)}{l h:Nat}(ho:o.op=.slice t x lo hi none)(ht:T t=some ⟨.iU e,s,b,z,q⟩)(hx:ev st x=.c (.t (.sl k xs)))(he:T e=some y)(hk:k=y.sz)(hl:bound st lo 0 l)(hh:bound st hi xs.length h)(h1:l<=h)(h2:h<=xs.length):qK P E w st a o (.c (.t (.sl k ((xs.take h).drop l)))):=by
 have hu:=jt (hT.ty t _ ht) rfl;have hv:=dy r x;rw[hx] at hv;have hv:RT E.F w (a.eval x) (.sl k xs):=hv;obtain⟨ao,cap,mn,hc,Fb⟩:=RT.len hv;have hlen:((xs.take h).drop l).length=h - l:=by rw[aO,au];omega
 refine⟨.slice (if cap=l then ao else ao.map (·.add (l*y.sz))) (h - l) (cap - l),?_,?_,fun b hb=>(by cases hb),fun p hp=>(by cases hp)⟩
 ·unfold execOp;simp[ho,mn,Instr.sliceAt,Instr.slice,run_underlying hu,oa r hl hh h1 h2 hc,kJ (hT.ty e y he)]
 ·show RT E.F w _ _
  by_cases hz:h - l=0
  ·have:(xs.take h).drop l=[]:=List.eq_nil_of_length_eq_zero (by omega);rw[this,hz];refine .gV fun hn=>?_;split at hn
   ·rw[Fb hn];omega
   ·cases ao with
    | none=>rw[Fb rfl];omega
    | some p=>cases hn
  ·rcases hv.CZ with h0|⟨g,p,Nx,xv,_,h3,h4,h5⟩
   ·rw[h0] at h2;simp at h2;omega
   ·rw[mn] at xv
    cases xv
    rw[if_neg (by omega)];simp only[Option.map_some,lS];refine .jS (by rw[hlen]) (by omega) h3 h4 ?_;rw[<- hk];exact(h5.take h).drop l
end
end
section
variable {P:Program}{T:Nat->Option Ty}{O:iy}
theorem tp (w:World)(base:Nat)(t ty e:TypeId){i:TypeInfo}{z:Value}{k bytes:Nat}(ht:P.underlying t=some (.slice e))(hi:P.info? e=some i)(hz:i.zero=some z)(KB:i.size=k)(MX:i.bytes=bytes)(hzs:z.cells.size=k)(lY:0 < k)
  (v:Value) (n:Nat) (xs:List Value) (iB:w.ownsRow base e k v n xs)
  (a:Addr) (m c:Nat) (news:List Value) (hl:news.length=m*k) (KD:∀ j u,news[j]? = some u->w.cell? (a.add j)=some u) (h1:∀ u∈news,u.oneCell'=true)
  (h63:n+m<=maxLen) (IC:(n+m)*bytes<=140737488355328) (KG:base<=w.heap.size) :
  ∃ v' w',(Builtin.append_ #[t,t] ty #[v,.slice (some a) m c]).run P w=.ok v' w'/\w'.ownsRow base e k v' (n+m) (xs++news)/\w.grownBy w' v.ownBlock/\(v'.ownBlock=v.ownBlock\/v'.ownBlock=some w.heap.size):=by
 obtain⟨v',w',hr,h2,h3,_⟩:=run_append_own (P:=P) w base t ty e i z k bytes ht hi hz KB MX hzs lY v n xs iB a m c news hl KD h1 h63 IC KG;refine⟨v',w',hr,h2,h3,?_⟩;have aqE:n+m<=9223372036854775807:=by simp only[maxLen] at h63;omega
 subst KB;subst MX;rcases iB.2 with⟨rfl,rfl⟩|⟨g,cap,cur,rfl,XL,hg,hnc,hcm,en,aiR⟩
 ·by_cases hm:m=0
  ·subst hm;have hn:news=[]:=List.eq_nil_of_length_eq_zero (by simpa using hl);subst hn
   have hq:(Builtin.append_ #[t,t] ty #[.slice none 0 0,.slice (some a) 0 c]).run P w=.ok (.slice none 0 0) w:=by
    simp[Builtin.append_,run_underlying ht,Go.sizeOf,typeInfo,hi,Builtin.lenOf,Builtin.firstCells,loadCells,loadCellsFrom]
   rw[hq] at hr
   cases hr
   exact .inl rfl
  ·have hq:=run_append_nil (P:=P) w t ty e i z ht hi hz a m c news hl KD (by omega) (by omega) (by have hb:=IC;simp only[bw] at hb;omega);rw[hq] at hr
   cases hr
   exact .inr rfl
 ·by_cases XA:n+m<=cap
  ·have aaR:n*i.size+news.length<=cur.size:=by rw[hl,en,<- Nat.add_mul];exact cy _ XA
   have hq:=run_append_room (P:=P) w t ty e i ht hi g n cap cur hg a m c news hl KD h1 XA aaR;rw[hq] at hr
   cases hr
   exact .inl rfl
  ·have holds:∀ j u,xs[j]? = some u->w.cell? ((⟨g,0,none⟩:Addr).add j)=some u:=iB.cells (g:=g) rfl;have hq:=run_append_grow (P:=P) w t ty e i z ht hi hz ⟨g,0,none⟩ n cap xs iB.1 holds a m c news hl KD (by omega) (by omega) (growslice_fits (by omega) IC);rw[hq] at hr
   cases hr
   exact .inr rfl
section
variable {E:Env}{w:World}{n0 N m id:Nat}{st:St}{a:Act}
theorem tc.raw {F:Nat->Prop}{k g:Nat}:∀ {xs:List (List Tr)} {o:Nat},tc F w k g o xs->∃ es:List (Cl k),I9 F w es xs/\∀ (j:Nat) u,(es.flatMap Subtype.val)[j]? = some u->w.cell? ⟨g,o+j,none⟩=some u
 | _,_,.nil=>⟨[],⟨rfl,fun j vs ts h=>by simp at h⟩,fun j u h=>by simp at h⟩
 | _,o,.cons (vs:=vs) hl hc h1 h2=>by
  obtain⟨es,h3,h4⟩:=tc.raw h2;refine⟨⟨vs,hl,h1.one⟩ :: es,⟨by simp[h3.len],fun j Lt ds' e1 e2=>?_⟩,fun j u hu=>?_⟩
  ·rcases j with _|j
   ·obtain rfl:=aY e1;obtain rfl:=aY e2;exact h1
   ·exact h3.at_ j Lt ds' e1 e2
  ·rw[bZ] at hu
   by_cases hj:j < vs.length
   ·rw[bz hj] at hu;exact hc j u hu
   ·rw[bm (by simpa using hj)] at hu;have:=h4 _ u hu
    rwa [show o+k+(j - vs.length)=o+j by omega] at this
theorem By (r:cx O E w n0 N m st a){v:Value}{av:AV}{k kk:Nat}{ys:List (List Tr)}(hv:RV E w v av)(h:gS st av=some (k,ys))(hk:k=kk\/ys=[]):∃ ao cap,∃ es:List (Cl kk),v=.slice ao ys.length cap/\(ao=none->cap=0)/\ys.length<=cap/\I9 E.F w es ys/\∀ ad,ao=some ad->∀ (j:Nat) u,(es.flatMap Subtype.val)[j]? = some u->w.cell? (ad.add j)=some u:=by
 have empty:∀ {ao cap},v=.slice ao 0 cap->(ao=none->cap=0)->ys=[]->∃ ao cap,∃ es:List (Cl kk),v=.slice ao ys.length cap/\(ao=none->cap=0)/\ys.length<=cap/\I9 E.F w es ys/\∀ ad,ao=some ad->∀ (j:Nat) u,(es.flatMap Subtype.val)[j]? = some u->w.cell? (ad.add j)=some u:=fun h1 h2 h3=>by
  subst h3;exact⟨_,_,[],h1,h2,aA _,⟨rfl,fun j vs ts h=>by simp at h⟩,fun ad _ j u hu=>by simp at hu⟩
 unfold gS at h;split at h
 ·rename_i c;split at h
  ·rename_i k' tf hc
   cases h
   unfold vW at hc;split at hc
   ·cases hc
    have hv:RT E.F w v (.sl k ys):=hv;obtain⟨ao,cap,h1,h2,h3⟩:=RT.len hv;rcases hv.CZ with h0|⟨g,o,Nx,h4,h5,h6,h7,h8⟩
    ·subst h0;exact empty h1 h3 rfl
    ·rcases hk with rfl|hk
     ·obtain⟨es,h9,mZ⟩:=h8.raw;refine⟨_,_,es,h4,fun h=>(by cases h),h5,h9,fun ad XN j u hu=>?_⟩
      cases XN
      rw[lS];exact mZ j u hu
     ·subst hk;exact empty h1 h3 rfl
   ·cases hc
    exact empty hv (fun _=>rfl) rfl
   ·rename_i τ bA;split at hc
    ·rename_i R hR
     cases hb:Nat.beq R.bA bA&&R.dp.isNone with
     | false=>rw[hb] at hc;cases hc
     | true=>
      rw[hb] at hc
      cases hc
      have hb:=Bool.and_eq_true_iff.1 hb;obtain⟨es,h1,h2,_⟩:=(r.row τ R hR).ow (by simpa using hb.2);have fW:=ai hb.1;obtain⟨ao,cap,h3,h4,h5⟩:=mf h1;have xv:v=E.vl τ bA:=hv.1;rw[h2.len] at h3 h4;rw[<- fW,h3] at xv;rcases hk with rfl|hk
      ·refine⟨ao,cap,es,xv,h5,h4,h2,fun ad XN j u hu=>?_⟩;subst XN;rcases h1.2 with⟨h6,_⟩|⟨g,aA1,cur,h6,_⟩
       ·rw[h3] at h6;cases h6
       ·have h7:=h1.cells (g:=g) (by rw[h6];rfl) j u hu;rw[h3,h2.len] at h6
        cases h6
        exact h7
      ·rw[hk] at xv;exact empty xv h5 hk
    ·cases hc
   ·cases hc
  ·cases h
 ·cases h
def Env.nr (E:Env)(g i:Nat)(v:Value):Env:=⟨fun b=>if b < g then E.rl b else .rw i,E.bk,fun τ bA=>if τ=i then v else E.vl τ bA⟩
theorem vv (r:cx O E w n0 N m st a){o:Oper}(hd:∀ x,o.dst=some x->x < N)(hf:nj st id)(hm:id < m){w':World}{v':Value}{ty k:Nat}{es:List (Cl k)}{xs:List (List Tr)}(hb:Below w.heap.size w w')(own:w'.ownsRow w.heap.size ty k v' es.length (es.flatMap Subtype.val))(fD:I9 E.F w es xs)(h1:v'.oneCell'=true) :
  cx O (E.nr w.heap.size id v') w' n0 N m (st.app o.dst ⟨.c (.row id 0),[],[(id,⟨ty,k,0,xs,none⟩)]⟩) (a.put o.dst v'):=by
 have za:=(hf id (ak _) (by omega)).2
 have mv:Mv st E w (E.nr w.heap.size id v') w' (fun i=>∃ iH,lk ([]:List (Nat × List Ce)) i=some iH) (fun τ=>∃ R,lk [(id,(⟨ty,k,0,xs,none⟩:Row))] τ=some R):=
  Mv.below hb (fun b aU=>by simp only[Env.nr,if_pos aU]) (fun _ _ _=>rfl) (fun τ R v hτ _=>by
   simp only[Env.nr];rw[if_neg (fun e=>by rw[e,za] at hτ;cases hτ)])
 refine r.app hd mv ⟨fun τ R R' e1 e2=>?_,fun b hb=>(by cases hb),fun p hp=>.inr ?_,fun _ _ h=>(by cases h),fun τ R h=>?_,fun τ R d h hd=>?_⟩ ⟨by simp[Env.nr],h1⟩ (fun _ _ h=>by cases h) fun τ R h=>?_
 ·rw[cp] at e2;split at e2
  ·rename_i e;subst e;rw[za] at e1
   cases e1
  ·cases e2
 ·obtain rfl:p=(id,0):=by simpa [AV.cP,AV.ig,Ce.cP,Dl.val] using hp
  exact⟨_,cp _ _ _ _ |>.trans (if_pos rfl),ak _⟩
 ·rw[cp] at h;split at h
  ·rename_i e;subst e;exact hm
  ·cases h
 ·rw[cp] at h;split at h
  ·cases h
   cases hd
  ·cases h
 ·rw[cp] at h;split at h
  ·rename_i e;subst e
   cases h
   refine Ow.rr rfl ⟨es,?_,fD.fr mv.size (fun b hb aU=>(mv.bH b hb aU).1) fun b hb aU=>(mv.bH b hb aU).2,fun g hg=>?_⟩
   ·simp only[Env.nr,if_pos];refine⟨own.1,?_⟩;rcases own.2 with h|⟨g,cap,cur,h2,h3,h4⟩
    ·exact .inl h
    ·exact .inr ⟨g,cap,cur,h2,aX r.hi h3,h4⟩
   ·simp only[Env.nr,if_pos] at hg ⊢;have:=(own.lt g hg).1;rw[if_neg (by omega)]
  ·cases h
theorem Below.JX {w w':World}(h:w.grownBy w' none):Below w.heap.size w w':=⟨h.os,h.tape,h.output,h.size,fun k hk=>h.block k hk (by simp)⟩
theorem pq {w':World}{B e k n:Nat}{v:Value}{xs:List Value}(h:w'.ownsRow B e k v n xs):v.oneCell'=true:=by
 rcases h.2 with⟨rfl,_⟩|⟨g,cap,cur,rfl,_⟩ <;> rfl
theorem na {k:Nat}(es:List (Cl k)):∀ u∈es.flatMap Subtype.val,u.oneCell'=true:=fun u hu=>by
 obtain⟨y,_,hy⟩:=List.mem_flatMap.1 hu;exact Cl.one y u hy
theorem kA (w:World)(t ty e:TypeId){i:TypeInfo}{k:Nat}(ht:P.underlying t=some (.slice e))(hi:P.info? e=some i){B n:Nat}{v:Value}{xs:List Value}(iB:w.ownsRow B e k v n xs):(Builtin.append_ #[t,t] ty #[v,.slice none 0 0]).run P w=.ok v w:=
 run_append_owned_none (P:=P) (w:=w) B t ty e i k ht hi v n xs iB
theorem No (hT:dz P T)(r:cx O E w n0 N m st a){o:Oper}(hd:∀ x,o.dst=some x->x < N)(hf:nj st id)(hm:id < m){s x:Operand}{t e:Nat}{sz b:Nat}{z:List Ce}{q:List Lk}{y:Ty}{k:Nat}{ys:List (List Tr)}(ho:o.op=.call ⟨.builtin .append,#[s,x],#[t,t]⟩)(ht:T t=some ⟨.iU e,sz,b,z,q⟩)(he:T e=some y)(hx:gS st (ev st x)=some (k,ys))(hs:ev st s=.c .nil)(hk:k=y.sz\/ys=[])(MX:ys.length*y.lP<=140737488355328)(hl:ys.length < 140737488355328)(lY:0 < y.sz) :
  lU P O o a w n0 N m st ⟨.c (.row id 0),[],[(id,⟨e,y.sz,0,ys,none⟩)]⟩:=by
 have hu:=jt (hT.ty t _ ht) rfl;obtain⟨i,zv,h1,h2,h3,h4,_,h5⟩:=ju (hT.ty e y he);have yZ:=dy r s;rw[hs] at yZ;have yZ:a.eval s=.slice none 0 0:=yZ;obtain⟨ao,cap,es,NQ,hn,hc,fD,qA⟩:=By r (dy r x) hx hk;intro K Q hK;have Zl:=World.ownsRow_nil w w.heap.size e y.sz
 cases ao with
 | none=>
  have Cq:=hn rfl;have hy:ys=[]:=List.eq_nil_of_length_eq_zero (by omega);subst hy;have:es=[]:=List.eq_nil_of_length_eq_zero (by rw[fD.len];rfl);subst this;rw[Cq] at NQ;have hr:=kA (P:=P) w t o.type e hu h1 Zl;exact Lib.wp_append_run w s x t t ho _ _ yZ NQ _ _ hr (hK _ _ _ (vv r hd hf hm (Below.refl _ _) (es:=[]) Zl fD rfl) (Below.refl _ _))
 | some ad=>
  obtain⟨v',w',hr,iB,hg,_⟩:=tp (P:=P) w w.heap.size t o.type e hu h1 h4 h2 h3 (h5.trans h2) lY _ 0 [] Zl ad ys.length cap (es.flatMap Subtype.val) (by rw[fO Cl.len,fD.len]) (qA ad rfl) (na es) (by simp only[maxLen];omega) (by rw[bw];exact MX) (ak _);rw[bw,bE,<- fD.len] at iB;have hb:Below w.heap.size w w':=Below.JX hg;exact Lib.wp_append_run w s x t t ho _ _ yZ NQ _ _ hr (hK _ _ _ (vv r hd hf hm hb iB fD (pq iB)) (hb.mono r.hi))
def Env.gr (E:Env)(g τ bA:Nat)(v:Value):Env:=⟨fun b=>if b < g then E.rl b else .rw τ,E.bk,fun τ' vf=>if τ'=τ/\vf=bA then v else E.vl τ' vf⟩
theorem Nn (hT:dz P T)(r:cx O E w n0 N m st a){o:Oper}(hd:∀ x,o.dst=some x->x < N){s x:Operand}{t e:Nat}{sz b:Nat}{z:List Ce}{q:List Lk}{y:Ty}{k:Nat}{ys:List (List Tr)}{τ bA:Nat}{R:Row}(ho:o.op=.call ⟨.builtin .append,#[s,x],#[t,t]⟩)(ht:T t=some ⟨.iU e,sz,b,z,q⟩)(he:T e=some y)(hx:gS st (ev st x)=some (k,ys))(hs:ev st s=.c (.row τ bA))(hR:lk st.rw τ=some R)(fW:R.bA=bA)(Cv:R.k=y.sz)(hRt:R.ty=e)(nu:R.dp=none)(hk:k=y.sz\/ys=[])(MX:(R.xs.length+ys.length)*y.lP<=140737488355328)(hl:R.xs.length+ys.length < 140737488355328)(lY:0 < y.sz) :
  lU P O o a w n0 N m st ⟨.c (.row τ (bA+1)),[],[(τ,{ R with bA:=bA+1,xs:=R.xs++ys })]⟩:=by
 have hu:=jt (hT.ty t _ ht) rfl;obtain⟨i,zv,h1,h2,h3,h4,_,h5⟩:=ju (hT.ty e y he);have yZ:=dy r s;rw[hs] at yZ;have yZ:a.eval s=E.vl τ bA:=yZ.1;rw[<- Cv] at hk;obtain⟨ao,cap,es,NQ,hn,hc,fD,qA⟩:=By r (dy r x) hx hk;obtain⟨jG,ro,pR,ik⟩:=(r.row τ R hR).ow nu;subst hRt;rw[fW] at ro ik
 -- what follows from the new slice
 have fin:∀ v' w',w'.ownsRow n0 R.ty R.k v' (jG.length+es.length) (jG.flatMap Subtype.val++es.flatMap Subtype.val)->w.grownBy w' (E.vl τ bA).ownBlock->(v'.ownBlock=(E.vl τ bA).ownBlock\/v'.ownBlock=some w.heap.size)->
   cx O (E.gr w.heap.size τ (bA+1) v') w' n0 N m (st.app o.dst ⟨.c (.row τ (bA+1)),[],[(τ,{ R with bA:=bA+1,xs:=R.xs++ys })]⟩) (a.put o.dst v')/\Below n0 w w':=fun v' w' own hg Q5=>by
  have Z5:∀ g,(E.vl τ bA).ownBlock=some g->E.rl g=.rw τ:=ik;have nM:∀ b,b < w.heap.size->E.rl b≠.rw τ->w'.heap[b]? = w.heap[b]?:=fun b aU iR=>hg.block b aU fun e=>iR (Z5 b e.symm)
  have mv:Mv st E w (E.gr w.heap.size τ (bA+1) v') w' (fun i=>∃ iH,lk ([]:List (Nat × List Ce)) i=some iH) (fun τ'=>∃ R',lk [(τ,({ R with bA:=bA+1,xs:=R.xs++ys }:Row))] τ'=some R'):=by
   refine⟨hg.size,fun b aU _=>by simp only[Env.gr,if_pos aU],fun b hb aU=>⟨nM b aU (by rw[hb];simp),by simp only[Env.gr,if_pos aU];exact hb⟩,fun _ _ _=>rfl,fun i cs hi _ aU iL=>⟨nM _ aU (by rw[iL];simp),by simp only[Env.gr,if_pos aU];exact iL⟩,fun τ' R' v hτ hv=>?_,fun τ' R' hτ hY g y9 aU iL=>⟨nM g aU (by
    rw[iL];intro e
    cases e
    exact hY ⟨_,cp _ _ _ _ |>.trans (if_pos rfl)⟩),by simp only[Env.gr,if_pos aU];exact iL⟩,fun b hb aU=>nM b aU (by rw[hb];simp),fun τ' R' hτ hY g j q aU iL=>⟨nM g aU (by rw[iL];simp),by simp only[Env.gr,if_pos aU];exact iL⟩⟩
   simp only[Env.gr];rw[if_neg];rintro⟨e1,e2⟩;subst e1;rw[hR] at hτ
   cases hτ
   omega
  refine⟨r.app hd mv ⟨fun τ' R1 R2 e1 e2=>?_,fun b hb=>(by cases hb),fun p hp=>.inr ?_,fun _ _ h=>(by cases h),fun τ' R' h=>?_,fun τ' R' d' h kH=>?_⟩ ⟨by simp[Env.gr],pq own⟩ (fun _ _ h=>by cases h) fun τ' R' h=>?_,⟨hg.os,hg.tape,hg.output,hg.size,fun b hb=>hg.block b (cA hb r.hi) fun e=>by have:=(ro.lt b e.symm).1;omega⟩⟩
  ·rw[cp] at e2;split at e2
   ·rename_i e;subst e
    cases e2
    rw[hR] at e1
    cases e1
    show R.bA<=bA+1;omega
   ·cases e2
  ·obtain rfl:p=(τ,bA+1):=by simpa [AV.cP,AV.ig,Ce.cP] using hp
   exact⟨_,cp _ _ _ _ |>.trans (if_pos rfl),ak _⟩
  ·rw[cp] at h;split at h
   ·rename_i e;subst e;exact r.sc.fr τ R hR
   ·cases h
  ·rw[cp] at h;split at h
   ·cases h
    have kH:R.dp=some d':=kH;rw[nu] at kH
    cases kH
   ·cases h
  ·rw[cp] at h;split at h
   ·rename_i e;subst e
    cases h
    have fr:∀ {vs ts},jK E.F w vs ts->jK (E.gr w.heap.size τ (bA+1) v').F w' vs ts:=fun h=>h.frame mv.size (fun b hb aU=>(mv.bH b hb aU).1) fun b hb aU=>(mv.bH b hb aU).2;refine Ow.rr nu ⟨jG++es,?_,⟨by rw[al,al,pR.len,fD.len],fun j vs ts q1 q2=>?_⟩,fun g y9=>?_⟩
    ·have:(E.gr w.heap.size τ (bA+1) v').vl τ (bA+1)=v':=by simp[Env.gr]
     show World.ownsRow _ n0 R.ty R.k ((E.gr w.heap.size τ (bA+1) v').vl τ (bA+1)) _ _;rw[this,al,List.flatMap_append];exact own
    ·by_cases hj:j < jG.length
     ·rw[bz hj] at q1;rw[bz (by rw[<- pR.len];exact hj)] at q2;exact fr (pR.at_ j vs ts q1 q2)
     ·rw[bm (by omega)] at q1;rw[bm (by rw[<- pR.len];omega),<- pR.len] at q2;exact fr (fD.at_ _ vs ts q1 q2)
    ·have y9:((E.gr w.heap.size τ (bA+1) v').vl τ (bA+1)).ownBlock=some g:=y9;have:(E.gr w.heap.size τ (bA+1) v').vl τ (bA+1)=v':=by simp[Env.gr]
     rw[this] at y9;show(if g < w.heap.size then E.rl g else .rw τ)=.rw τ;split
     ·rename_i aU;rcases Q5 with h|h
      ·rw[h] at y9;exact ik g y9
      ·rw[h] at y9
       cases y9
       omega
     ·rfl
   ·cases h
 intro K Q hK
 cases ao with
 | none=>
  have Cq:=hn rfl;have hy:ys=[]:=List.eq_nil_of_length_eq_zero (by omega);subst hy;have:es=[]:=List.eq_nil_of_length_eq_zero (by rw[fD.len];rfl);subst this;rw[Cq] at NQ;have hr:=kA (P:=P) w t o.type R.ty hu h1 ro;obtain⟨f1,f2⟩:=fin (E.vl τ bA) w (by simpa using ro) ⟨rfl,rfl,rfl,ak _,fun _ _ _=>rfl⟩ (.inl rfl);exact Lib.wp_append_run w s x t t ho _ _ yZ NQ _ _ hr (hK _ _ _ f1 f2)
 | some ad=>
  obtain⟨v',w',hr,iB,hg,Q5⟩:=tp (P:=P) w n0 t o.type R.ty hu h1 h4 (h2.trans Cv.symm) h3 ((h5.trans h2).trans Cv.symm) (by rw[Cv];exact lY) _ jG.length _ ro ad ys.length cap (es.flatMap Subtype.val) (by rw[fO Cl.len,fD.len]) (qA ad rfl) (na es) (by rw[pR.len];simp only[maxLen];omega) (by rw[pR.len];exact MX) r.hi;rw[<- fD.len] at iB;obtain⟨f1,f2⟩:=fin v' w' iB hg Q5;exact Lib.wp_append_run w s x t t ho _ _ yZ NQ _ _ hr (hK _ _ _ f1 f2)
end
end
section
variable {P:Program}{T:Nat->Option Ty}{O:iy}
section
variable {E:Env}{w:World}{n0 N m id:Nat}{st:St}{a:Act}
theorem KV (r:cx O E w n0 N m st a){sz:Nat}:∀ {parts:List (Nat × Operand)} {i:Nat} {xs:List (List Tr)},jU st sz i parts=some xs->∀ vs:List Value,(i+parts.length)*sz<=vs.length->
  ∃ es:List (Cl sz),I9 E.F w es xs/\es.length=parts.length/\Instr.fill (fun i=>some (i*sz,sz)) vs.toArray (parts.map fun p=>(p.1,a.eval p.2))=some (vs.take (i*sz)++es.flatMap Subtype.val++vs.drop ((i+parts.length)*sz)).toArray
 | [],i,xs,h,vs,hl=>by
  cases h
  exact⟨[],⟨rfl,fun j vs ts h=>by simp at h⟩,rfl,by simp[Instr.fill]⟩
 | (j,x) :: parts,i,xs,h,vs,hl=>by
  unfold jU at h
  cases hb:Nat.beq i j with
  | false=>rw[hb] at h;cases h
  | true=>
   rw[hb] at h;simp only[cond_true] at h;obtain rfl:=ai hb;split at h
   ·rename_i us e1;split at h
    ·rename_i ts e2
     cases dK:Nat.beq ts.length sz with
     | false=>rw[dK] at h;cases h
     | true=>
      rw[dK] at h;simp only[cond_true] at h;have h1:=ai dK;split at h
      ·rename_i tf e3
       cases h
       have hu:=lh e1 (dy r x);have hut:=lA e2 hu;have MP:(a.eval x).cells.toList.length=sz:=hut.len.trans h1;have lY:(a.eval x).cells.size=sz:=by rw[<- bP];exact MP
       rw[aZ] at hl;have e4:(i+(parts.length+1))*sz=i*sz+sz+parts.length*sz:=by rw[Nat.add_mul,Nat.add_mul];omega
       rw[e4] at hl
       have qO:(vs.take (i*sz)++(a.eval x).cells.toList++vs.drop (i*sz+(a.eval x).cells.toList.length)).length=vs.length:=by
        simp only[al,au,aO];omega
       obtain⟨es,h2,h3,h4⟩:=KV r e3 (vs.take (i*sz)++(a.eval x).cells.toList++vs.drop (i*sz+(a.eval x).cells.toList.length)) (by rw[qO,Nat.add_mul,Nat.add_mul];omega);refine⟨⟨(a.eval x).cells.toList,MP,A2.one hu⟩ :: es,⟨by simp[h2.len],fun j Lt vp q1 q2=>?_⟩,by simp[h3],?_⟩
       ·rcases j with _|j
        ·cases q1
         cases q2
         exact hut
        ·exact h2.at_ j Lt vp q1 q2
       ·rw[bW,Instr.fill];simp only
        rw[if_neg (by
         simp only[ne_eq,List.size_toArray,cC,decide_eq_true_eq,not_or,Decidable.not_not];exact⟨lY,by omega⟩)]
        rw[<- Array.foldl_toList,Array.toList_zipIdx,xG _ (i*sz) 0 vs (by omega),dm,h4];congr 2;rw[bZ,aZ,e4];show _=List.take (i*sz) vs++((a.eval x).cells.toList++es.flatMap Subtype.val)++_;rw[MP];have e5:(i+1)*sz=i*sz+sz:=by rw[Nat.add_mul];omega
        have e6:(i+1+parts.length)*sz=i*sz+sz+parts.length*sz:=by rw[Nat.add_mul,Nat.add_mul];omega
        have e7:(vs.take (i*sz)++(a.eval x).cells.toList).length=i*sz+sz:=by rw[al,au];omega
        rw[e5,e6,List.take_append,e7,List.take_of_length_le (by omega),Nat.sub_self,List.take_zero,aW,List.drop_append,e7,List.drop_of_length_le (by omega),bE,List.drop_drop];rw[show i*sz+sz+(i*sz+sz+parts.length*sz - (i*sz+sz))=i*sz+sz+parts.length*sz by omega];simp
      ·cases h
    ·cases h
   ·cases h
theorem RU (hT:dz P T)(r:cx O E w n0 N m st a){o:Oper}(hd:∀ x,o.dst=some x->x < N)(hf:nj st id)(hm:id < m){t e:Nat}{len:Nat}{parts:Array (Nat × Operand)}{s b:Nat}{z:List Ce}{q:List Lk}{y:Ty}{xs:List (List Tr)}(ho:o.op=.buildSlice t len parts)(ht:T t=some ⟨.iU e,s,b,z,q⟩)(he:T e=some y)(hp:jU st y.sz 0 parts.toList=some xs)(hl:xs.length=len)(hs:len*y.sz<=10000)(h0:0 < y.sz) :
  lU P O o a w n0 N m st ⟨.c (.row id 0),[],[(id,⟨e,y.sz,0,xs,none⟩)]⟩:=by
 have hu:=jt (hT.ty t _ ht) rfl;obtain⟨i,zv,h1,h2,h3,h4,_,h5⟩:=ju (hT.ty e y he);obtain⟨vs,QX⟩:∃ vs:List Value,vs=((Array.range (len*i.size)).map fun j=>zv.cells[j % zv.cells.size]!).toList:=⟨_,rfl⟩
 have Ip:vs.length=len*y.sz:=by rw[QX,h2];simp
 have key:∃ es:List (Cl y.sz),I9 E.F w es xs/\es.length=len/\(Instr.buildSlice t len (parts.map fun (i,x)=>(i,a.eval x))).run P w=.ok (.slice (some ⟨w.heap.size,0,none⟩) len len) (w.alloc (.cells (es.flatMap Subtype.val).toArray e)):=by
  have om:parts.toList.length=xs.length:=by
   have:∀ (ps:List (Nat × Operand)) (i:Nat) xs,jU st y.sz i ps=some xs->ps.length=xs.length:=by
    intro ps
    induction ps with
    | nil=>intro i xs h;cases h;rfl
    | cons p ps ih=>
     intro i xs h;obtain⟨j,x⟩:=p;unfold jU at h
     cases hb:Nat.beq i j with
     | false=>rw[hb] at h;cases h
     | true=>
      rw[hb] at h;simp only[cond_true] at h;split at h
      ·split at h
       ·rename_i ts _
        cases dK:Nat.beq ts.length y.sz with
        | false=>rw[dK] at h;cases h
        | true=>
         rw[dK] at h;simp only[cond_true] at h;split at h
         ·rename_i tf e3
          cases h
          simp[ih _ _ e3]
         ·cases h
       ·cases h
      ·cases h
   exact this _ _ _ hp
  obtain⟨es,h6,h7,h8⟩:=KV r hp vs (by rw[bw,om,hl,Ip];exact ak _);rw[om,hl] at h7;rw[om,hl,Nat.zero_mul,bw,List.take_zero,bE,List.drop_of_length_le (by omega),aW] at h8;have h9:(parts.map fun (i,x)=>(i,a.eval x)).toList=parts.toList.map fun p=>(p.1,a.eval p.2):=by simp
  refine⟨es,h6,h7,?_⟩
  by_cases hz:len=0
  ·subst hz;have S1:es=[]:=List.eq_nil_of_length_eq_zero h7;have Gx:parts=#[]:=Array.toList_inj.1 (List.eq_nil_of_length_eq_zero (by rw[om];exact hl));subst S1;subst Gx;have e0:Array.range 0=#[]:=by simp
   simp[Instr.buildSlice,run_underlying hu,Go.sizeOf,typeInfo,h1,Instr.fill,newRow,e0]
  ·refine run_buildSlice w t e len _ (es.flatMap Subtype.val).toArray i zv hu h1 h4 (by rw[h2];omega) (by rw[h2];exact fun h=>by rcases Nat.mul_eq_zero.1 h with h|h <;> omega) ?_;rw[h9,h2];rw[QX,h2] at h8;exact h8
 obtain⟨es,h6,h7,lI⟩:=key;have hb:Below w.heap.size w (w.alloc (.cells (es.flatMap Subtype.val).toArray e)):=(Below.refl _ _).alloc (ak _) _;have si:(es.flatMap Subtype.val).length=len*y.sz:=by rw[fO Cl.len,h7]
 have own:(w.alloc (.cells (es.flatMap Subtype.val).toArray e)).ownsRow w.heap.size e y.sz (.slice (some ⟨w.heap.size,0,none⟩) len len) es.length (es.flatMap Subtype.val):=by
  refine⟨by rw[si,h7],.inr ⟨w.heap.size,len,_,by rw[h7],ak _,heap_alloc_new w _,by omega,?_,?_,?_⟩⟩
  ·have:len<=len*y.sz:=Nat.le_mul_of_pos_right _ h0;simp only[maxLen];omega
  ·rw[List.size_toArray,si]
  ·rw[List.toList_toArray,List.take_of_length_le (by rw[si,h7];exact ak _)]
 intro K Q hK;unfold Oper.wp execOp;simp only[ho,Sem.run_bind,lI,Result.andThen_ok,Sem.run_pure,Oper.upon];exact hK _ _ _ (vv r hd hf hm hb own h6 rfl) (hb.mono r.hi)
theorem Hs {ty k:Nat}{v:Value}{es:List (Cl k)}{xs:List (List Tr)}{G:Nat->Prop}(h1:w.ownsRow n0 ty k v es.length (es.flatMap Subtype.val))(hl:es.length=xs.length)(hG:∀ g,v.ownBlock=some g->g < w.heap.size->G g)(Ra:∀ (j:Nat) (x:Cl k) ts,es[j]? = some x->xs[j]? = some ts->jK G w x.1 ts):RT G w v (.sl k xs):=by
 obtain⟨ao,cap,h4,h5,h6⟩:=mf h1
 by_cases hx:xs=[]
 ·have:es=[]:=List.eq_nil_of_length_eq_zero (by rw[hl,hx];rfl);subst this;rw[hx,h4];exact .gV h6
 ·have hp:0 < es.length:=by rw[hl];exact List.length_pos_iff.2 hx
  obtain⟨g,Nx,cur,e1,_,yl,hc,_⟩:=nL h1 (ag hp);have aU:=(Array.getElem?_eq_some_iff.1 yl).1;refine e1▸.jS hl hc (hG g (by rw[e1];rfl) aU) aU (tc.mk _ _ fun j ts hj=>?_);have Q9:j < es.length:=by rw[hl];exact(an.1 hj).1
  have hex:=ag Q9;obtain⟨g2,_,_,e2,_,_,_,_,_,_,h8⟩:=nL h1 hex;rw[e1] at e2;simp only[Value.slice.injEq,Option.some.injEq,Addr.mk.injEq] at e2;obtain⟨⟨rfl,_⟩,_,_⟩:=e2;exact⟨_,Cl.len _,fun i u hu=>by rw[bw];exact h8 i u hu,Ra j _ ts hex hj⟩
theorem Xd {q:jm}{ty k:Nat}{v:Value}{xs:List (List Tr)}{G:Nat->Prop}(h:Ow E w n0 q ty k v xs)(hG:∀ b,b < w.heap.size->E.rl b=.bH\/E.rl b=q->G b):RT G w v (.sl k xs):=by
 obtain⟨es,h1,h2,h3⟩:=h;exact Hs h1 h2.len (fun g hg aU=>hG g aU (.inr (h3 g hg))) fun j x ts q1 q2=>(h2.at_ j x ts q1 q2).frame (ak _) (fun _ _ _=>rfl) fun b hb aU=>hG b aU (.inl hb)
theorem OV {τ:Nat}{R:Row}{G:Nat->Prop}(h:RR E w n0 τ R)(hs:R.shut=true)(hG:∀ b,b < w.heap.size->E.rl b=.bH\/(E.rl b=.rw τ\/∃ j o,E.rl b=.jo τ j o)->G b):RT G w (E.vl τ R.bA) R.tr:=by
 cases hM:R.iQ with
 | true=>
  rw[show R.tr=.mp R.xs by simp only[Row.tr,hM]];rcases h.mp hM with⟨e1,e2⟩|⟨g,es,clock,e1,_,e3,e4,e5⟩
  ·rw[e1,e2];exact .mp0
  rw[e1];exact .mp e3 e4 (hG g (Array.getElem?_eq_some_iff.1 e3).1 (.inr (.inr ⟨0,0,e5⟩)))
 | false=>
 rw[show R.tr=.sl R.k R.xs by simp only[Row.tr,hM]]
 cases hd:R.dp with
 | none=>exact Xd (h.ow hd) fun b hb h=>hG b hb (h.imp id .inl)
 | some d=>
  have hl:=kL hs hd;obtain⟨es,h1,h2,h3⟩:=h.rd hd (by unfold Row.iQ at hM;rw[hd] at hM;exact hM);refine Hs h1 h2.len (fun g hg aU=>hG g aU (.inr (.inl (h3 g hg)))) fun j x ts q1 q2=>(Li (by rw[x.len];exact(h2.ln j x ts q1 q2).symm) fun o u t q3 q4=>?_).Yy;obtain⟨_,h5⟩:=h2.at_ j x ts q1 q2 o u t q3 q4;obtain⟨h6,h7⟩:=h5 fun ρ u=>by rw[hl];exact List.not_mem_nil
  by_cases uT:∃ ty k,(o,ty,k)∈d.D/\j < d.c
  ·obtain⟨ty,k,p1,p2⟩:=uT;obtain⟨xs,rfl,p4⟩:=h6 ty k p1 p2;exact Xd p4 fun b hb h=>hG b hb (h.imp id fun h=>.inr ⟨j,o,h⟩)
  ·exact(h7 fun ty k p1 p2=>uT ⟨ty,k,p1,p2⟩).frame (ak _) (fun _ _ _=>rfl) fun b hb aU=>hG b aU (.inl hb)
def Env.co (E:Env):Env:=⟨fun b=>match E.rl b with
 | .rw _=>.bH
 | .jo _ _ _=>.bH
 | .bx _=>.bH
 | x=>x,E.bk,E.vl⟩
def AL (E E0:Env):Prop:=(∀ b τ,(E.rl b=.rw τ\/∃ j o,E.rl b=.jo τ j o)->E0.rl b=.bH)/\∀ b i,E.rl b=.bx i->E0.rl b=.bH
theorem KR {E0:Env}(r:cx O E w n0 N m st a)(hc:∀ b,E.rl b=.bH->E0.rl b=.bH){v:Value}{x y:Ce}(hr:x.cP=[]\/∀ b τ,(E.rl b=.rw τ\/∃ j o,E.rl b=.jo τ j o)->E0.rl b=.bH)(h:Gr st x y)(hv:RC E w v x):RC E0 w v y:=by
 unfold Gr at h;split at h
 ·subst h;exact RT.frame (ak _) (fun _ _ _=>rfl) (fun b hb _=>hc b hb) hv
 ·obtain⟨k,rfl⟩:=h;rw[show v=_ from hv];exact .gV fun _=>rfl
 ·exact hv
 ·rename_i τ bA y;split at h
  ·rename_i R hR;obtain⟨rfl,h⟩:=h;obtain⟨ue,rfl⟩:=sP h;rw[hv.1];rcases hr with hr|hr
   ·cases hr
   ·exact OV (r.row τ R hR) ue (fun b _ h=>by
     rcases h with h|h
     ·exact hc b h
     ·exact hr b τ h)
  ·exact h.elim
 ·exact h.elim
theorem KQ {E0:Env}(r:cx O E w n0 N m st a)(hc:∀ b,E.rl b=.bH->E0.rl b=.bH):∀ {vs:List Value} {xs ys:List Ce},(xs.flatMap Ce.cP=[]\/∀ b τ,(E.rl b=.rw τ\/∃ j o,E.rl b=.jo τ j o)->E0.rl b=.bH)->NK st xs ys->A2 (RC E w) vs xs->A2 (RC E0 w) vs ys
 | _,[],[],_,_,.nil=>.nil
 | _,x :: xs,y :: ys,hr,h,.cons h1 h2=>by
  have x5:(x.cP=[]\/∀ b τ,(E.rl b=.rw τ\/∃ j o,E.rl b=.jo τ j o)->E0.rl b=.bH)/\(xs.flatMap Ce.cP=[]\/∀ b τ,(E.rl b=.rw τ\/∃ j o,E.rl b=.jo τ j o)->E0.rl b=.bH):=by
   rcases hr with hr|hr
   ·rw[bZ,List.append_eq_nil_iff] at hr;exact⟨.inl hr.1,.inl hr.2⟩
   ·exact⟨.inr hr,.inr hr⟩
  exact .cons (KR r hc x5.1 h.1 h1) (KQ r hc x5.2 h.2 h2)
 | _,[],_ :: _,_,h,_=>h.elim
 | _,_ :: _,[],_,h,_=>h.elim
theorem CG {E0:Env}(r:cx O E w n0 N m st a)(hc:∀ b,E.rl b=.bH->E0.rl b=.bH)(hr:AL E E0):∀ {cs:List (Nat × Nat)} {ds:List (List Tr × Nat)},NJ st cs ds->A2 (fun u (c:List Tr × Nat)=>RI E0 w u c.1 c.2) (cs.map (pc E)) ds
 | [],[],_=>.nil
 | (b,o) :: cs,(ys,o') :: ds,h=>by
  obtain⟨⟨rfl,h1⟩,h2⟩:=h;refine .cons ?_ (CG r hc hr h2);split at h1
  ·rename_i us pz;obtain⟨vs,t,_,hb,ik,ha⟩:=r.box b us pz
   exact⟨E.bk b,0,vs,by rw[bw];rfl,hr.2 _ _ ik,hb.lt,fun i u hu=>by
    rw[bw,cell_of_row _ _ _ _ _ _ hb];simpa using hu,(lA h1 ha).frame (ak _) (fun _ _ _=>rfl) fun b hb _=>hc b hb⟩
  ·exact h1.elim
 | [],_ :: _,h=>h.elim
 | _ :: _,[],h=>h.elim
theorem IL {E0:Env}(r:cx O E w n0 N m st a)(hc:∀ b,E.rl b=.bH->E0.rl b=.bH){v:Value}{x y:AV}(hr:(x.cP=[]/\x.ed=[])\/AL E E0)(h:Fit st x y)(hv:RV E w v x):R1 E0 w v y:=by
 unfold Fit at h;split at h
 ·exact KR r hc (hr.imp (·.1) (·.1)) h hv
 ·obtain⟨vs,rfl,ha⟩:=hv;exact⟨vs,rfl,KQ r hc (hr.imp (·.1) (·.1)) h ha⟩
 ·exact hv
 ·obtain⟨rfl,rfl⟩:=h;obtain⟨g,p,vs,rfl,h1,h2,h3,h4⟩:=hv;exact⟨g,p,vs,rfl,hc g h1,h2,h3,h4.frame (ak _) (fun _ _ _=>rfl) fun b hb _=>hc b hb⟩
 ·rename_i b o ys o';rcases hr with hr|hr
  ·cases hr.2
  ·cases CG r hc hr h with
   | cons h1 _=>
    rw[show v=pc E (b,o) from hv];exact h1
 ·obtain⟨rfl,rfl⟩:=h;obtain⟨us,rfl,h⟩:=hv;refine⟨us,rfl,h.imp fun u c _ h=>?_⟩;obtain⟨g,p,vs,rfl,h1,h2,h3,h4⟩:=h;exact⟨g,p,vs,rfl,hc g h1,h2,h3,h4.frame (ak _) (fun _ _ _=>rfl) fun b hb _=>hc b hb⟩
 ·rename_i f cs g ds;obtain⟨rfl,h⟩:=h;rcases hr with hr|hr
  ·have en:cs=[]:=by simpa [AV.ed,AV.iu] using hr.2
   subst en
   cases ds with
   | nil=>exact⟨[],hv,.nil⟩
   | cons _ _=>exact h.elim
  ·exact⟨_,hv,CG r hc hr h⟩
 ·exact h.elim
theorem KM {E0:Env}(r:cx O E w n0 N m st a)(hc:∀ b,E.rl b=.bH->E0.rl b=.bH):∀ {vs:List Value} {xs ys:List AV},(HJ xs=true\/AL E E0)->Fits st xs ys->A2 (RV E w) vs xs->A2 (R1 E0 w) vs ys
 | _,[],[],_,_,.nil=>.nil
 | _,x :: xs,y :: ys,hr,h,.cons h1 h2=>by
  have x5:((x.cP=[]/\x.ed=[])\/AL E E0)/\(HJ xs=true\/AL E E0):=by
   rcases hr with hr|hr
   ·unfold HJ at hr;rw[List.all_cons,ah,ah,List.isEmpty_iff,List.isEmpty_iff] at hr;exact⟨.inl hr.1,.inl hr.2⟩
   ·exact⟨.inr hr,.inr hr⟩
  exact .cons (IL r hc x5.1 h.1 h1) (KM r hc x5.2 h.2 h2)
 | _,[],_ :: _,_,h,_=>h.elim
 | _,_ :: _,[],_,h,_=>h.elim
theorem IM (r:cx O E w n0 N m st a):∀ (xs:List Operand),A2 (RV E w) (xs.map a.eval) (xs.map (ev st))
 | []=>.nil
 | x :: xs=>.cons (dy r x) (IM r xs)
theorem F4 (r:cx O E w n0 N m st a){f:Operand}{xs:List Operand}{g:Nat}{vs:List AV}(h:pY (xs.map (ev st)) (ev st f)=some (g,vs)):∃ us:List Value,a.eval f=.func (.func g) #[] us.toArray/\A2 (RV E w) (xs.map a.eval++us) vs:=by
 have hf:=dy r f;unfold pY at h;split at h
 ·rename_i g' caps e
  cases h
  rw[e] at hf;refine⟨_,hf,(IM r xs).append ?_⟩
  have:∀ cs:List (Nat × Nat),A2 (RV E w) (cs.map (pc E)) (cs.map fun c=>AV.ptr c.1 c.2):=fun cs=>by
   induction cs with
   | nil=>exact .nil
   | cons c cs ih=>exact .cons rfl ih
  exact this caps
 ·rename_i g' caps e
  cases h
  rw[e] at hf;obtain⟨us,h1,h2⟩:=hf;refine⟨us,h1,(IM r xs).append ?_⟩
  have:∀ {us:List Value} {cs:List (List Tr × Nat)},A2 (fun u (c:List Tr × Nat)=>RI E w u c.1 c.2) us cs->A2 (RV E w) us (cs.map fun c=>AV.dL c.1 c.2):=fun {us cs} h=>by
   induction h with
   | nil=>exact .nil
   | cons h1 _ ih=>exact .cons h1 ih
  exact this h2
 ·cases h
theorem fc (id:Nat):∀ (rs:List Row) (j i:Nat),lk (jV id j rs) i=if id+j<=i then rs[i - (id+j)]? else none
 | [],j,i=>by simp[jV,lk]
 | R :: rs,j,i=>by
  rw[jV,cp,fc id rs (j+1) i]
  by_cases h:id+j=i
  ·subst h;simp
  ·rw[if_neg h]
   by_cases h2:id+j<=i
   ·rw[if_pos h2,if_pos (by omega),show i - (id+j)=i - (id+(j+1))+1 by omega,List.getElem?_cons_succ]
   ·rw[if_neg h2,if_neg (by omega)]
theorem LD (r:AV):(r.DW id).iu=[]:=by cases r <;> rfl
theorem OX (r:AV):(r.G1 id).ed=[]:=by
 cases r with
 | gi dh=>
  show((dh.map (AV.DW id)).flatMap AV.iu)=[]
  induction dh with
  | nil=>rfl
  | cons a dh ih=>rw[bW,bZ,ih,LD];rfl
 | _=>rfl
theorem zK {c:Ce}{p:Nat × Nat}(h:p∈(c.G1 id).cP):∃ q∈c.cP,p=(id+q.1,q.2):=by
 cases c with
 | row τ bA=>
  obtain rfl:p=(id+τ,bA):=by simpa [Ce.G1,Ce.cP] using h
  exact⟨(τ,bA),aB,rfl⟩
 | _=>cases h
theorem mQ {r:AV}{p:Nat × Nat}(h:p∈(r.DW id).ig):∃ q∈r.ig,p=(id+q.1,q.2):=by
 cases r with
 | c x=>exact zK h
 | agg xs=>
  obtain⟨c,hc,hp⟩:=List.mem_flatMap.1 (show p∈(xs.map (Ce.G1 id)).flatMap Ce.cP from h);obtain⟨x,hx,rfl⟩:=bL.1 hc;obtain⟨q,hq,e⟩:=zK hp;exact⟨q,List.mem_flatMap.2 ⟨x,hx,hq⟩,e⟩
 | _=>cases h
theorem OW {r:AV}{p:Nat × Nat}(h:p∈(r.G1 id).cP):∃ q∈r.cP,p=(id+q.1,q.2):=by
 cases r with
 | gi dh=>
  obtain⟨c,hc,hp⟩:=List.mem_flatMap.1 (show p∈(dh.map (AV.DW id)).flatMap AV.ig from h);obtain⟨x,hx,rfl⟩:=bL.1 hc;obtain⟨q,hq,e⟩:=mQ hp;exact⟨q,List.mem_flatMap.2 ⟨x,hx,hq⟩,e⟩
 | c x=>exact mQ (r:=.c x) h
 | agg xs=>exact mQ (r:=.agg xs) h
 | ptr b o=>exact mQ (r:=.ptr b o) h
 | dL b o=>exact mQ (r:=.dL b o) h
 | dX a b c d e=>cases h
 | sub a b c d=>cases h
 | e9=>cases h
 | fn f c=>cases h
 | lL f c=>cases h
 | bot=>cases h
def Env.cl (E E':Env)(g i:Nat):Env:=⟨fun b=>if b < g then E.rl b else(match E'.rl b with
 | .bH=>.bH
 | .rw j=>.rw (i+j)
 | .jo j x y=>.jo (i+j) x y
 | _=>.eH),E.bk,fun τ bA=>if i<=τ/\τ < i+128 then E'.vl (τ - i) bA else E.vl τ bA⟩
theorem Nl [GlC O](r:cx O E w n0 N m st a){o:Oper}(hd:∀ x,o.dst=some x->x < N)(hf:nj st id)(hm:id+128<=m){f:Operand}{args:Array Operand}{s7:Array TypeId}{g:Nat}{dh:List AV}{rv:AV}{rs:List Row}{fresh:Bool}(ho:o.op=.call ⟨.value f,args,s7⟩){vs:List AV}(hfn:pY (args.toList.map (ev st)) (ev st f)=some (g,vs))(aaR:Fits st vs dh)(ct:Ct P g dh rv rs fresh)(Aq:fresh=true\/HJ vs=true) :
  lU P O o a w n0 N m st ⟨rv.G1 id,[],jV id 0 rs⟩:=by
 obtain⟨cv,hfv,xB⟩:=F4 r hfn
 obtain⟨E0,hE0,IG,Cw⟩:∃ E0:Env,(∀ b,E.rl b=.bH->E0.rl b=.bH)/\(HJ vs=true\/AL E E0)/\(fresh=false->∀ b,E0.rl b=.bH->E.rl b=.bH):=by
  rcases Aq with h|h
  ·exact⟨E.co,fun b hb=>by unfold Env.co;simp only[hb],.inr ⟨fun b τ hb=>by
   rcases hb with hb|⟨j,o,hb⟩
   ·unfold Env.co;simp only[hb]
   ·unfold Env.co;simp only[hb],fun b τ hb=>by unfold Env.co;simp only[hb]⟩,fun hq=>by rw[h] at hq;cases hq⟩
  ·exact⟨E,fun _ h=>h,.inl h,fun _ _ h=>h⟩
 have ha:=KM r hE0 IG aaR xB;have e1:(args.toList.map a.eval++cv).toArray=args.map a.eval++cv.toArray:=Array.toList_inj.1 (by simp)
 have lI:(execOp a.eval o).run P w=.ok (.enter g (args.map a.eval++cv.toArray)) w:=by
  unfold execOp;simp only[ho,resolve,hfv,Deferred.ofValue,Sem.run_bind,Sem.run_pure,Result.andThen_ok,invoke];have:=ct.RJ (#[]++args.map a.eval++cv.toArray) w;rw[this];simp
 intro K Q hK;unfold Oper.wp;rw[lI];show Calls P g (args.map a.eval++cv.toArray) w _;rw[<- e1];refine(ct.run w _ E0 r.gl ha).mono ?_;rintro e w' ⟨v,rfl,hb,E',hr,Cn,Ao⟩;have hfz:=fun i h1 h2=>(hf i h1 h2)
 have mv:Mv st E w (E.cl E' w.heap.size id) w' (fun i=>∃ iH,lk ([]:List (Nat × List Ce)) i=some iH) (fun τ=>∃ R,lk (jV id 0 rs) τ=some R):=
  Mv.below hb (fun b aU=>by simp only[Env.cl,if_pos aU]) (fun _ _ _=>rfl) (fun τ R v hτ _=>by
   simp only[Env.cl];rw[if_neg (fun e=>by rw[(hfz τ e.1 e.2).2] at hτ;cases hτ)])
 have S3:∀ b,E'.rl b=.bH->(E.cl E' w.heap.size id).rl b=.bH:=fun b hc=>by
  simp only[Env.cl];split
  ·rename_i aU;obtain⟨h1,h2⟩:=Ao b aU hc;exact Cw h1 b h2
  ·rw[hc]
 have fr:∀ {v t},RT E'.F w' v t->RT (E.cl E' w.heap.size id).F w' v t:=fun h=>h.frame (ak _) (fun _ _ _=>rfl) fun b hb _=>S3 b hb;have frl:∀ {v t},jK E'.F w' v t->jK (E.cl E' w.heap.size id).F w' v t:=fun h=>h.frame (ak _) (fun _ _ _=>rfl) fun b hb _=>S3 b hb
 have vle:∀ j bA,j < 128->(E.cl E' w.heap.size id).vl (id+j) bA=E'.vl j bA:=fun j bA hj=>by
  simp only[Env.cl];rw[if_pos ⟨by omega,by omega⟩,Nat.add_sub_cancel_left]
 have uX:∀ q∈rv.cP,q.1 < 128:=fun q hq=>by
  obtain⟨R,h1,_⟩:=ct.rid q hq;have:=(an.1 h1).1;have:=ct.uX;omega
 have rcr:∀ {v c},(∀ q∈Ce.cP c,q.1 < 128)->RC E' w' v c->RC (E.cl E' w.heap.size id) w' v (c.G1 id):=fun {v c} hq h=>by
  cases c with
  | t x=>exact fr h
  | nil=>exact h
  | row τ bA=>exact⟨h.1.trans (vle τ bA (hq _ aB)).symm,h.2⟩
  | bot=>exact h
 have a2r:∀ {vs cs},(∀ q∈cs.flatMap Ce.cP,q.1 < 128)->A2 (RC E' w') vs cs->A2 (RC (E.cl E' w.heap.size id) w') vs (cs.map (Ce.G1 id)):=fun {vs cs} hq h=>by
  induction h with
  | nil=>exact .nil
  | cons h1 _ ih=>
   rw[bZ] at hq;exact .cons (rcr (fun q h=>hq q (bR _ h)) h1) (ih fun q h=>hq q (bT _ h))
 have L5:∀ {v x},(∀ q∈AV.ig x,q.1 < 128)->R1 E' w' v x->R1 (E.cl E' w.heap.size id) w' v (x.DW id):=fun {v x} hq h=>by
  cases x with
  | c x=>exact rcr hq h
  | agg xs=>
   obtain⟨vs,rfl,h⟩:=h;exact⟨vs,rfl,a2r hq h⟩
  | e9=>exact h
  | lL f cs=>
   obtain⟨us,rfl,h⟩:=h;refine⟨us,rfl,h.imp fun u c _ hri=>?_⟩;obtain⟨g,p,vs,rfl,h1,h2,h3,h4⟩:=hri;exact⟨g,p,vs,rfl,S3 g h1,h2,h3,frl h4⟩
  | gi dh=>exact h.elim
  | _=>exact⟨⟩
 refine hK (E.cl E' w.heap.size id) v w' (r.app hd mv ⟨fun τ R R' e1 e2=>?_,fun b hb=>?_,fun p hp=>.inr ?_,fun _ _ h=>(by cases h),fun τ R h=>?_,fun τ R d' h kH l hl=>?_⟩ ?_ (fun _ _ h=>by cases h) fun τ R h=>?_) (hb.mono r.hi)
 ·rw[fc] at e2;split at e2
  ·rename_i hle;have h1:=(an.1 e2).1;have:=ct.uX;rw[(hfz τ (by omega) (by omega)).2] at e1
   cases e1
  ·cases e2
 ·rw[show(Dl.v ⟨rv.G1 id,[],jV id 0 rs⟩).ed=[] from OX rv] at hb
  cases hb
 ·obtain⟨q,hq,rfl⟩:=OW hp;obtain⟨R,h1,h2⟩:=ct.rid q hq;refine⟨R,?_,h2⟩;rw[fc,if_pos (by omega),show id+q.1 - (id+0)=q.1 by omega];exact h1
 ·rw[fc] at h;split at h
  ·rename_i hle;have h1:=(an.1 h).1;have:=ct.uX;omega
  ·cases h
 ·rw[fc] at h;split at h
  ·rw[kL (ct.shut R (bc h)) kH] at hl
   cases hl
  ·cases h
 ·show RV _ w' v (rv.G1 id)
  cases rv with
  | gi dh=>
   obtain⟨vs,rfl,h⟩:=hr;refine⟨vs,rfl,?_⟩
   have:∀ {vs:List Value} {dh:List AV},(∀ q∈dh.flatMap AV.ig,q.1 < 128)->A2 (R1 E' w') vs dh->A2 (R1 (E.cl E' w.heap.size id) w') vs (dh.map (AV.DW id)):=fun {vs dh} hq h=>by
    induction h with
    | nil=>exact .nil
    | cons h1 _ ih=>
     rw[bZ] at hq;exact .cons (L5 (fun q h=>hq q (bR _ h)) h1) (ih fun q h=>hq q (bT _ h))
   exact this uX h
  | c x=>exact(L5 (x:=.c x) uX hr).rv
  | agg x=>exact(L5 (x:=.agg x) uX hr).rv
  | lL f x=>exact(L5 (x:=.lL f x) uX hr).rv
  | e9=>exact(L5 (x:=.e9) uX hr).rv
  | _=>exact⟨⟩
 ·rw[fc] at h;split at h
  ·rename_i hle;have hj:=h;have h1:=(an.1 h).1;have:=ct.uX;obtain⟨j,rfl⟩:∃ j,τ=id+j:=⟨τ - id,by omega⟩
   rw[show id+j - (id+0)=j by omega] at hj h1;refine(Cn j R hj).to r.hi rfl rfl rfl rfl (ct.shut R (bc hj)) (vle j R.bA (by omega)) (fun b hb _=>S3 b hb) (fun b h6 _ h7=>?_) fun b x y h6 _ h7=>?_
   ·simp only[Env.cl];rw[if_neg (by omega),h7]
   ·simp only[Env.cl];rw[if_neg (by omega),h7]
  ·cases h
end
end
end
end Cg
