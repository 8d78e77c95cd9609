/- Parts of the proof, joined: . -/
import Derived.Test.YtbmdcnkidjlbbaaGreatDA
import Derived.Laws.IdiomCopy
import Derived.Laws.OwnMore
import Derived.Laws.IdiomStrings
open True renaming intro->ea
open List renaming getElem?_eq_getElem->ag,length_append->al,getElem?_eq_some_iff->an,length_cons->aZ,length_take->au,length_nil->bM,mem_cons_self->aB,mem_singleton->aJ,mem_cons_of_mem->aM,all_eq_true->aN,length_drop->aO,append_nil->aW,mem_of_getElem?->bc,mem_append->bh,take_length->bj,getElem?_append_right->bm,getElem?_append_left->bz,nil_append->bE,getElem?_map->bI,mem_map->bL,mem_append_left->bR,mem_append_right->bT,map_cons->bW,flatMap_cons->bZ,append_assoc->b9,drop_eq_getElem_cons->cd,length_replicate->cz
open Bool renaming and_eq_true->ah,not_eq_true'->cu,or_eq_true->cC
open Nat renaming eq_of_beq_eq_true->ai,le_refl->ak,zero_le->aA,le_trans->aX,zero_add->bw,mul_le_mul_right->cy,lt_of_lt_of_le->cA,le_of_lt->db,add_zero->dm
open Go.IntKind renaming wrap_i64->bp
open Option.some renaming inj->aY
open Array renaming length_toList->bP,getElem?_toList->dF
open Cg.AV renaming b->aEo
set_option maxRecDepth 100000
set_option maxHeartbeats 4000000
namespace Cg
section
open Go Go.RowKit Go.Sort Go.Lib
section
variable {P:Program}{T:Nat->Option Ty}{O:iy}
theorem aaD {x:Nat}:∀ {l:List Nat} {i:Nat},kh x l=some i->l[i]? = some x
 | y :: r,i,h=>by
  unfold kh at h
  cases hb:Nat.beq y x with
  | true=>
   rw[hb] at h
   cases h
   rw[ai hb];rfl
  | false=>
   rw[hb] at h;simp only[cond_false] at h;split at h
   ·rename_i j hj
    cases h
    exact(show r[j]? = some x from aaD hj)
   ·cases h
theorem Ci {x:Nat}:∀ {l:List Nat} {i:Nat},fT l=true->l[i]? = some x->kh x l=some i
 | y :: r,0,h,hx=>by
  obtain rfl:=aY hx;unfold kh;rw[show Nat.beq y y=true by simp];rfl
 | y :: r,i+1,h,hx=>by
  unfold fT at h;split at h
  ·cases h
  ·rename_i hn;have hx:r[i]? = some x:=hx;have ih:=Ci h hx
   have iR:Nat.beq y x=false:=by
    cases hb:Nat.beq y x with
    | false=>rfl
    | true=>
     rw[ai hb,ih] at hn
     cases hn
   unfold kh;rw[iR,ih];rfl
theorem PV {st:St}{f:Operand}{vs:List AV}{mb:List Nat}{mr:List (Nat × Nat)}(h:NM T st f vs mb mr=true):fT mb=true/\fT (mr.map (·.1))=true:=by
 unfold NM at h;simp only[ah] at h;exact⟨h.2.1,h.2.2.1⟩
def Env.eR (E:Env)(mb:List Nat)(mr:List (Nat × Nat)):Env:=⟨fun b=>match E.rl b with
 | .bx i=>(match kh i mb with
  | some p=>.bx p
  | none=>.eH)
 | .rw τ=>(match kh τ (mr.map (·.1)) with
  | some j=>.rw j
  | none=>.eH)
 | .jo τ x y=>(match kh τ (mr.map (·.1)) with
  | some j=>.jo j x y
  | none=>.eH)
 | x=>x,fun p=>E.bk (mb.getD p 0),fun j u=>E.vl (mr.getD j (0,0)).1 ((mr.getD j (0,0)).2+u)⟩
def Ox (mb:List Nat)(mr:List (Nat × Nat))(id:Nat):jm->jm
 | .bx i=>(match mb[i]? with
  | some b=>.bx b
  | none=>.eH)
 | .rw j=>(match mr[j]? with
  | some q=>.rw q.1
  | none=>.rw (id+(j - mr.length)))
 | .jo j x y=>(match mr[j]? with
  | some q=>.jo q.1 x y
  | none=>.jo (id+(j - mr.length)) x y)
 | x=>x
def Env.kt (E E':Env)(g id:Nat)(mb:List Nat)(mr:List (Nat × Nat)):Env:=⟨fun b=>if b < g then(match E.rl b with
 | .bx i=>(match kh i mb with
  | some _=>Ox mb mr id (E'.rl b)
  | none=>.bx i)
 | .rw τ=>(match kh τ (mr.map (·.1)) with
  | some _=>Ox mb mr id (E'.rl b)
  | none=>.rw τ)
 | .jo τ x y=>(match kh τ (mr.map (·.1)) with
  | some _=>Ox mb mr id (E'.rl b)
  | none=>.jo τ x y)
 | x=>x) else Ox mb mr id (E'.rl b),E.bk,fun τ u=>if id<=τ/\τ < id+128 then E'.vl (mr.length+(τ - id)) u else(match kh τ (mr.map (·.1)) with
  | some j=>if u<=(mr.getD j (0,0)).2 then E.vl τ u else E'.vl j (u - (mr.getD j (0,0)).2)
  | none=>E.vl τ u)⟩
theorem Ca {mr:List (Nat × Nat)}{id:Nat}:∀ {mb:List Nat} {ob:List (List Ce)} {b:Nat} {cs:List Ce},lk (rJ mr id mb ob) b=some cs->∃ i c,kh b mb=some i/\ob[i]? = some c/\cs=c.map (Ce.rn mr id)
 | [],_,b,cs,h=>by
  unfold rJ at h
  cases h
 | _ :: _,[],b,cs,h=>by cases h
 | b0 :: mb,c :: ob,b,cs,h=>by
  unfold rJ at h;rw[cp] at h;split at h
  ·rename_i e;subst e
   cases h
   refine⟨0,c,?_,rfl,rfl⟩;unfold kh;rw[show Nat.beq b0 b0=true by simp];rfl
  ·rename_i iR;obtain⟨i,c',h1,h2,h3⟩:=Ca h;refine⟨i+1,c',?_,h2,h3⟩;unfold kh
   rw[show Nat.beq b0 b=false by
    cases hb:Nat.beq b0 b
    ·rfl
    ·exact absurd (ai hb) iR,h1]
   rfl
theorem rQ {mr:List (Nat × Nat)}{id:Nat}:∀ {mb:List Nat} {ob:List (List Ce)} {b:Nat},ob.length=mb.length->lk (rJ mr id mb ob) b=none->kh b mb=none
 | [],_,b,_,_=>rfl
 | b0 :: mb,c :: ob,b,hl,h=>by
  unfold rJ at h;rw[cp] at h;split at h
  ·cases h
  ·rename_i iR;unfold kh
   rw[show Nat.beq b0 b=false by
    cases hb:Nat.beq b0 b
    ·rfl
    ·exact absurd (ai hb) iR,rQ (by simpa using hl) h]
   rfl
 | _ :: _,[],b,hl,_=>by cases hl
theorem pw:∀ {mr:List (Nat × Nat)} {fF:List Row} {τ:Nat} {R:Row},lk (mz mr fF) τ=some R->∃ j q R0,kh τ (mr.map (·.1))=some j/\mr[j]? = some q/\q.1=τ/\fF[j]? = some R0/\R=⟨R0.ty,R0.k,q.2+R0.bA,R0.xs,R0.dp⟩
 | [],_,τ,R,h=>by
  unfold mz at h
  cases h
 | (_,_) :: _,[],τ,R,h=>by cases h
 | (t0,v) :: mr,c :: fF,τ,R,h=>by
  unfold mz at h;rw[cp] at h;rw[bW];split at h
  ·rename_i e;subst e
   cases h
   refine⟨0,(t0,v),c,?_,rfl,rfl,rfl,rfl⟩;unfold kh;rw[show Nat.beq t0 t0=true by simp];rfl
  ·rename_i iR;obtain⟨j,q,R0,h1,h2,h3,h4,h5⟩:=pw h;refine⟨j+1,q,R0,?_,h2,h3,h4,h5⟩;unfold kh
   rw[show Nat.beq t0 τ=false by
    cases hb:Nat.beq t0 τ
    ·rfl
    ·exact absurd (ai hb) iR,h1]
   rfl
theorem nS:∀ {mr:List (Nat × Nat)} {fF:List Row} {τ:Nat},fF.length=mr.length->lk (mz mr fF) τ=none->kh τ (mr.map (·.1))=none
 | [],_,τ,_,_=>rfl
 | (t0,v) :: mr,c :: fF,τ,hl,h=>by
  unfold mz at h;rw[cp] at h;rw[bW];split at h
  ·cases h
  ·rename_i iR;unfold kh
   rw[show Nat.beq t0 τ=false by
    cases hb:Nat.beq t0 τ
    ·rfl
    ·exact absurd (ai hb) iR,nS (by simpa using hl) h]
   rfl
 | (_,_) :: _,[],τ,hl,_=>by cases hl
theorem En:∀ {mr:List (Nat × Nat)} {fF:List Row} {j:Nat} {q:Nat × Nat} {R0:Row},fT (mr.map (·.1))=true->mr[j]? = some q->fF[j]? = some R0->lk (mz mr fF) q.1=some ⟨R0.ty,R0.k,q.2+R0.bA,R0.xs,R0.dp⟩
 | (t0,v) :: mr,c :: fF,0,q,R0,_,h1,h2=>by
  obtain rfl:=aY h1;obtain rfl:=aY h2;unfold mz;rw[cp,if_pos rfl]
 | (t0,v) :: mr,c :: fF,j+1,q,R0,hn,h1,h2=>by
  have h1:mr[j]? = some q:=h1;rw[bW] at hn;unfold fT at hn;split at hn
  ·cases hn
  ·rename_i hx;unfold mz;rw[cp,if_neg,En hn h1 h2];intro e;have:kh q.1 (mr.map (·.1))=some j:=Ci hn (by rw[bI,h1];rfl);rw[<- e,hx] at this
   cases this
theorem FB {st:St}{mr:List (Nat × Nat)}:∀ {mb:List Nat} {ib:List (List Ce)},zh st mr mb ib->mb.length=ib.length/\∀ (i b:Nat),mb[i]? = some b->∃ us cs,lk st.bx b=some us/\ib[i]? = some cs/\Gq mr us cs
 | [],[],_=>⟨rfl,fun i b h=>by simp at h⟩
 | b0 :: mb,cs :: ib,h=>by
  obtain⟨h1,h2⟩:=h;obtain⟨h3,h4⟩:=FB h2;refine⟨by simp[h3],fun i b hb=>?_⟩
  cases i with
  | zero=>
   obtain rfl:=aY hb;split at h1
   ·rename_i us pz;exact⟨us,cs,pz,rfl,h1⟩
   ·exact h1.elim
  | succ i=>exact h4 i b hb
 | [],_ :: _,h=>h.elim
 | _ :: _,[],h=>h.elim
theorem Fx {st:St}:∀ {mr:List (Nat × Nat)} {ir:List Row},Gp st mr ir->mr.length=ir.length/\∀ (j:Nat) (q:Nat × Nat),mr[j]? = some q->∃ R,lk st.rw q.1=some R/\R.bA=q.2/\ir[j]? = some ⟨R.ty,R.k,0,R.xs,R.dp⟩/\R.shut=true
 | [],[],_=>⟨rfl,fun i b h=>by simp at h⟩
 | (t0,v) :: mr,R :: ir,h=>by
  obtain⟨h1,h2⟩:=h;obtain⟨h3,h4⟩:=Fx h2;refine⟨by simp[h3],fun i b hb=>?_⟩
  cases i with
  | zero=>
   obtain rfl:=aY hb;split at h1
   ·rename_i R' Fk;obtain⟨ty,k,bA,xs,dp⟩:=R;obtain⟨e1,e2,e3,e4,e5,e6,e7⟩:=h1;simp only at e2 e3 e4 e5 e6;subst e2 e3 e4 e5 e6;exact⟨R',Fk,e1,rfl,e7⟩
   ·exact h1.elim
  | succ i=>exact h4 i b hb
 | [],_ :: _,h=>h.elim
 | (_,_) :: _,[],h=>h.elim
section
variable {E:Env}{w:World}{mb:List Nat}{mr:List (Nat × Nat)}
theorem jE {b:Nat}(h:E.rl b=.bH):(E.eR mb mr).rl b=.bH:=by unfold Env.eR;simp only[h]
theorem Z3 {v:Value}{t:Tr}(h:RT E.F w v t):RT (E.eR mb mr).F w v t:=h.frame (ak _) (fun _ _ _=>rfl) fun _ hb _=>jE hb
theorem VM {v:List Value}{t:List Tr}(h:jK E.F w v t):jK (E.eR mb mr).F w v t:=h.frame (ak _) (fun _ _ _=>rfl) fun _ hb _=>jE hb
theorem FA {v:Value}{c d:Ce}(h:Ll mr c d)(hv:RC E w v c):RC (E.eR mb mr) w v d:=by
 cases d with
 | t y=>
  cases c with
  | t x=>
   obtain rfl:x=y:=h;exact Z3 hv
  | nil=>
   obtain⟨k,rfl⟩:=h;rw[show v=_ from hv];exact .gV fun _=>rfl
  | _=>exact h.elim
 | nil=>
  cases c with
  | nil=>exact hv
  | _=>exact h.elim
 | row j u=>
  unfold Ll at h;simp only at h;split at h
  ·rename_i τ v' τ' u' hj;obtain⟨rfl,rfl⟩:=h;refine⟨hv.1.trans ?_,hv.2⟩;unfold Env.eR;simp only[List.getD_eq_getElem?_getD,hj,Option.getD_some]
  ·exact h.elim
 | bot=>exact hv.one
theorem xJ:∀ {vs:List Value} {cs ds:List Ce},Gq mr cs ds->A2 (RC E w) vs cs->A2 (RC (E.eR mb mr) w) vs ds
 | _,[],[],_,.nil=>.nil
 | _,_c :: _cs,_d :: _ds,h,.cons h1 h2=>.cons (FA h.1 h1) (xJ h.2 h2)
 | _,[],_ :: _,h,_=>h.elim
 | _,_ :: _,[],h,_=>h.elim
theorem KO:∀ {cs ds:List (Nat × Nat)},adB mb cs ds->cs.map (pc E)=ds.map (pc (E.eR mb mr))
 | [],[],_=>rfl
 | (b,o) :: cs,(i,o') :: ds,h=>by
  obtain⟨h1,h2⟩:=h;rw[bW,bW,KO h2];congr 1;split at h1
  ·rename_i x hx;obtain⟨rfl,rfl⟩:=h1;unfold pc Env.eR;simp only[List.getD_eq_getElem?_getD,hx,Option.getD_some]
  ·exact h1.elim
 | [],_ :: _,h=>h.elim
 | _ :: _,[],h=>h.elim
theorem We {v:Value}{x y:AV}(h:WY mb mr x y)(hv:RV E w v x):R1 (E.eR mb mr) w v y:=by
 cases y with
 | c y=>
  cases x with
  | c x=>exact FA h hv
  | _=>exact h.elim
 | agg ys=>
  cases x with
  | agg xs=>
   obtain⟨vs,rfl,ha⟩:=hv;exact⟨vs,rfl,xJ h ha⟩
  | _=>exact h.elim
 | ptr i o=>
  unfold WY at h;simp only at h;split at h
  ·rename_i b b' o' hi;obtain⟨rfl,rfl⟩:=h;refine(show v=_ from hv).trans ?_;unfold Env.eR;simp only[List.getD_eq_getElem?_getD,hi,Option.getD_some]
  ·exact h.elim
 | dX j u k i o=>
  unfold WY at h;simp only at h;split at h
  ·rename_i τ v' τ' u' k' i' o' hj;obtain⟨rfl,rfl,rfl,rfl,rfl⟩:=h;obtain⟨g,n,c,h1,h2⟩:=hv;refine⟨g,n,c,?_,h2⟩;unfold Env.eR;simp only[List.getD_eq_getElem?_getD,hj,Option.getD_some];exact h1
  ·exact h.elim
 | e9=>
  cases x with
  | e9=>exact hv
  | _=>exact h.elim
 | dL ys o=>
  cases x with
  | dL xs o'=>
   obtain⟨rfl,rfl⟩:=h;obtain⟨g,p,vs,rfl,h1,h2,h3,h4⟩:=hv;exact⟨g,p,vs,rfl,jE h1,h2,h3,VM h4⟩
  | _=>exact h.elim
 | bot=>exact⟨⟩
 | sub _ _ _ _=>exact h.elim
 | gi _=>exact h.elim
 | fn f ds=>
  cases x with
  | fn g cs=>
   obtain⟨rfl,h⟩:=h;have hv:v=.func (.func g) #[] (cs.map (pc E)).toArray:=hv;show v=.func (.func g) #[] (ds.map (pc (E.eR mb mr))).toArray;rw[hv,KO h]
  | _=>exact h.elim
 | lL _ _=>exact h.elim
theorem Fv:∀ {vs:List Value} {xs ys:List AV},Gn mb mr xs ys->A2 (RV E w) vs xs->A2 (R1 (E.eR mb mr) w) vs ys
 | _,[],[],_,.nil=>.nil
 | _,_x :: _xs,_y :: _ys,h,.cons h1 h2=>.cons (We h.1 h1) (Fv h.2 h2)
 | _,[],_ :: _,h,_=>h.elim
 | _,_ :: _,[],h,_=>h.elim
end
section
variable {E:Env}{w:World}{n0 N m id:Nat}{st:St}{a:Act}
theorem IW [GlC O](r:cx O E w n0 N m st a){o:Oper}(hd:∀ x,o.dst=some x->x < N)(hf:nj st id)(hm:id+128<=m){f:Operand}{args:Array Operand}{s7:Array TypeId}{g:Nat}(ho:o.op=.call ⟨.value f,args,s7⟩){vs:List AV}(hfn:pY (args.toList.map (ev st)) (ev st f)=some (g,vs)){mb:List Nat}{mr:List (Nat × Nat)}{dh:List AV}{ib:List (List Ce)}{ir:List Row}{rv:AV}{ob:List (List Ce)}{fF nr:List Row}(k1:Gn mb mr vs dh)(k2:zh st mr mb ib)(k3:Gp st mr ir)(k4:fT mb=true)(k5:fT (mr.map (·.1))=true)(ct:Ja P g dh ib ir rv ob fF nr) :
  lU P O o a w n0 N m st ⟨rv.rn mb mr id,rJ mr id mb ob,mz mr fF++jV id 0 nr⟩:=by
 obtain⟨cv,hfv,xB⟩:=F4 r hfn;obtain⟨lB,gB⟩:=FB k2;obtain⟨lR,gR⟩:=Fx k3;have XD:ob.length=mb.length:=ct.lb.trans lB.symm;have hlr:fF.length=mr.length:=ct.lr.trans lR.symm;have ha:A2 (R1 (E.eR mb mr) w) (args.toList.map a.eval++cv) dh:=Fv k1 xB;have e1:(args.toList.map a.eval++cv).toArray=args.map a.eval++cv.toArray:=Array.toList_inj.1 (by simp)
 have lI:(execOp a.eval o).run P w=.ok (.enter g (args.map a.eval++cv.toArray)) w:=by
  unfold execOp;simp only[ho,resolve,hfv,Deferred.ofValue,Sem.run_bind,Sem.run_pure,Result.andThen_ok,invoke];have:=ct.RJ (#[]++args.map a.eval++cv.toArray) w;rw[this];simp
 -- the world of the caller's beginning
 obtain⟨w0,SW,NV⟩:∃ w0:World,w0.heap.size=n0/\Below n0 w0 w:=by
  refine⟨{ w with heap:=w.heap.extract 0 n0 },?_,⟨rfl,rfl,rfl,?_,fun k hk=>?_⟩⟩
  ·show(w.heap.extract 0 n0).size=n0;rw[Array.size_extract];have:=r.hi;omega
  ·show(w.heap.extract 0 n0).size<=w.heap.size;rw[Array.size_extract];omega
  ·show w.heap[k]? = (w.heap.extract 0 n0)[k]?;rw[Array.getElem?_extract];have:=r.hi;rw[if_pos (by omega),bw]
 -- variables and rows that are passed
 have alB:∀ (i b:Nat),mb[i]? = some b->∀ cs,ib[i]? = some cs->RB (E.eR mb mr) w n0 i cs:=fun i b hb cs en=>by
  obtain⟨us,iH,h1,h2,h3⟩:=gB i b hb;rw[h2] at en
  cases en
  obtain⟨ws,t,q1,q2,q3,q4⟩:=r.box b us h1
  have ebk:(E.eR mb mr).bk i=E.bk b:=by
   unfold Env.eR;simp only[List.getD_eq_getElem?_getD,hb,Option.getD_some]
  refine⟨ws,t,by rw[ebk];exact q1,by rw[ebk];exact q2,?_,xJ h3 q4⟩;rw[ebk];unfold Env.eR;simp only[q3,Ci k4 hb]
 have evl:∀ (j:Nat) (q:Nat × Nat),mr[j]? = some q->∀ u,(E.eR mb mr).vl j u=E.vl q.1 (q.2+u):=fun j q hq u=>by
  unfold Env.eR;simp only[List.getD_eq_getElem?_getD,hq,Option.getD_some]
 have VE:∀ (j:Nat) (q:Nat × Nat),mr[j]? = some q->kh q.1 (mr.map (·.1))=some j:=fun j q hq=>Ci k5 (by rw[bI,hq];rfl)
 have afY:∀ (j:Nat) (q:Nat × Nat),mr[j]? = some q->∀ R,ir[j]? = some R->RR (E.eR mb mr) w n0 j R:=fun j q hq R hR=>by
  obtain⟨R',h1,h2,h3,ue⟩:=gR j q hq;rw[h3] at hR
  cases hR
  have e:(E.eR mb mr).vl j 0=E.vl q.1 R'.bA:=by rw[evl j q hq,h2];rfl
  refine RR.to (R:=R') (h:=r.row q.1 R' h1) (ak _) rfl rfl rfl rfl ue e (fun b hb _=>jE hb) (fun b _ _ h=>?_) fun b x y _ _ h=>?_
  ·unfold Env.eR;simp only[h,VE j q hq]
  ·unfold Env.eR;simp only[h,VE j q hq]
 intro K Q hK;unfold Oper.wp;rw[lI];show Calls P g (args.map a.eval++cv.toArray) w _;rw[<- e1]
 have aaB:∀ b,(E.eR mb mr).rl b=.bH\/(E.eR mb mr).rl b=.eH\/(∃ i,i < ib.length/\(E.eR mb mr).rl b=.bx i)\/(∃ j,j < ir.length/\(E.eR mb mr).rl b=.rw j)\/∃ j x y,j < ir.length/\(E.eR mb mr).rl b=.jo j x y:=fun b=>by
  cases hq:E.rl b with
  | bH=>exact .inl (jE hq)
  | eH=>exact .inr (.inl (by unfold Env.eR;simp only[hq]))
  | bx i=>
   cases hi:kh i mb with
   | none=>exact .inr (.inl (by unfold Env.eR;simp only[hq,hi]))
   | some p=>
    have:=(an.1 (aaD hi)).1;exact .inr (.inr (.inl ⟨p,by omega,by unfold Env.eR;simp only[hq,hi]⟩))
  | rw τ=>
   cases hi:kh τ (mr.map (·.1)) with
   | none=>exact .inr (.inl (by unfold Env.eR;simp only[hq,hi]))
   | some p=>
    have:=(an.1 (aaD hi)).1;rw[Lm] at this;exact .inr (.inr (.inr (.inl ⟨p,by omega,by unfold Env.eR;simp only[hq,hi]⟩)))
  | jo τ x y=>
   cases hi:kh τ (mr.map (·.1)) with
   | none=>exact .inr (.inl (by unfold Env.eR;simp only[hq,hi]))
   | some p=>
    have:=(an.1 (aaD hi)).1;rw[Lm] at this;exact .inr (.inr (.inr (.inr ⟨p,x,y,by omega,by unfold Env.eR;simp only[hq,hi]⟩)))
 have Iw:∀ b,b < w0.heap.size->(E.eR mb mr).rl b=.bH\/(E.eR mb mr).rl b=.eH:=fun b hb=>by
  rcases r.nM b (by omega) with h|h
  ·exact .inl (jE h.1)
  ·exact .inr (by unfold Env.eR;simp only[h])
 refine(ct.run w0 w _ (E.eR mb mr) r.gl (r.W9.imp jE fun h=>by unfold Env.eR;simp only[h]) (by rw[SW];exact NV) ha (fun i cs hi=>?_) (fun j R hj=>?_) aaB Iw).mono ?_
 ·have aU:=(an.1 hi).1;rw[SW];exact alB i (mb[i]'(by omega)) (ag _) cs hi
 ·have aU:=(an.1 hj).1;rw[SW];exact afY j (mr[j]'(by omega)) (ag _) R hj
 rintro e w' ⟨v,rfl,MY,lY,E',Z9,ID,Q5,Q3,NS,za⟩;rw[SW] at MY Q5 Q3;have oZ:Below n0 w w':=⟨MY.os.trans NV.os.symm,MY.tape.trans NV.tape.symm,MY.output.trans NV.output.symm,lY,fun k hk=>(MY.block k hk).trans (NV.block k hk).symm⟩
 -- roles
 have agH:∀ b,b < w.heap.size->E.rl b=.bH->w'.heap[b]? = w.heap[b]?:=fun b aU h=>(za b aU (.inl (jE h))).1;have aoF:∀ b,b < w.heap.size->E.rl b=.eH->w'.heap[b]? = w.heap[b]?:=fun b aU h=>(za b aU (.inr (by unfold Env.eR;simp only[h]))).1;have rbx:∀ b i,b < w.heap.size->E.rl b=.bx i->kh i mb=none->w'.heap[b]? = w.heap[b]?:=fun b i aU h hi=>(za b aU (.inr (by unfold Env.eR;simp only[h,hi]))).1;have rrw:∀ b τ,b < w.heap.size->E.rl b=.rw τ->kh τ (mr.map (·.1))=none->w'.heap[b]? = w.heap[b]?:=fun b i aU h hi=>(za b aU (.inr (by unfold Env.eR;simp only[h,hi]))).1;have rns:∀ b τ x y,b < w.heap.size->E.rl b=.jo τ x y->kh τ (mr.map (·.1))=none->w'.heap[b]? = w.heap[b]?:=fun b i x y aU h hi=>(za b aU (.inr (by unfold Env.eR;simp only[h,hi]))).1
 have out:∀ b,b < w.heap.size->(∀ i,E.rl b=.bx i->kh i mb=none)->(∀ τ,(E.rl b=.rw τ\/∃ x y,E.rl b=.jo τ x y)->kh τ (mr.map (·.1))=none)->(E.kt E' w.heap.size id mb mr).rl b=E.rl b:=fun b aU h1 h2=>by
  unfold Env.kt;simp only[if_pos aU]
  cases hq:E.rl b with
  | bx i=>simp only[h1 i hq]
  | rw τ=>simp only[h2 τ (.inl hq)]
  | jo τ x y=>simp only[h2 τ (.inr ⟨x,y,hq⟩)]
  | _=>rfl
 have S3:∀ b,E'.rl b=.bH->(E.kt E' w.heap.size id mb mr).rl b=.bH:=fun b hc=>by
  by_cases aU:b < w.heap.size
  ·cases hq:E.rl b with
   | bH=>rw[out b aU (fun i h=>by rw[hq] at h;cases h) (fun i h=>by rw[hq] at h;rcases h with h | ⟨x,y,h⟩ <;> cases h),hq]
   | eH=>
    have:=(za b aU (.inr (by unfold Env.eR;simp only[hq]))).2;rw[hc] at this;unfold Env.eR at this;simp only[hq] at this
    cases this
   | bx i=>
    cases hi:kh i mb with
    | none=>
     have:=(za b aU (.inr (by unfold Env.eR;simp only[hq,hi]))).2;rw[hc] at this;unfold Env.eR at this;simp only[hq,hi] at this
     cases this
    | some p=>
     unfold Env.kt;simp only[if_pos aU,hq,hi,hc];rfl
   | rw τ=>
    cases hi:kh τ (mr.map (·.1)) with
    | none=>
     have:=(za b aU (.inr (by unfold Env.eR;simp only[hq,hi]))).2;rw[hc] at this;unfold Env.eR at this;simp only[hq,hi] at this
     cases this
    | some p=>
     unfold Env.kt;simp only[if_pos aU,hq,hi,hc];rfl
   | jo τ x y=>
    cases hi:kh τ (mr.map (·.1)) with
    | none=>
     have:=(za b aU (.inr (by unfold Env.eR;simp only[hq,hi]))).2;rw[hc] at this;unfold Env.eR at this;simp only[hq,hi] at this
     cases this
    | some p=>
     unfold Env.kt;simp only[if_pos aU,hq,hi,hc];rfl
  ·unfold Env.kt;simp only[if_neg aU,hc];rfl
 have orl:∀ b,(b < w.heap.size->(∃ i p,E.rl b=.bx i/\kh i mb=some p)\/(∃ τ p,E.rl b=.rw τ/\kh τ (mr.map (·.1))=some p)\/∃ τ x y p,E.rl b=.jo τ x y/\kh τ (mr.map (·.1))=some p)->(E.kt E' w.heap.size id mb mr).rl b=Ox mb mr id (E'.rl b):=fun b h=>by
  unfold Env.kt
  by_cases aU:b < w.heap.size
  ·rcases h aU with⟨i,p,h1,h2⟩|⟨i,p,h1,h2⟩|⟨i,x,y,p,h1,h2⟩
   ·simp only[if_pos aU,h1,h2]
   ·simp only[if_pos aU,h1,h2]
   ·simp only[if_pos aU,h1,h2]
  ·simp only[if_neg aU]
 -- a block that the callee holds as its own is one that was passed, or new
 have own:∀ b,(∃ i,E'.rl b=.bx i)\/(∃ j,E'.rl b=.rw j)\/(∃ j x y,E'.rl b=.jo j x y)->(E.kt E' w.heap.size id mb mr).rl b=Ox mb mr id (E'.rl b):=fun b h=>orl b fun aU=>by
  have key:∀ {x:jm},(E.eR mb mr).rl b=x->x=.bH\/x=.eH->False:=fun {x} h1 h2=>by
   have:=(za b aU (h2.elim (fun e=>.inl (h1.trans e)) fun e=>.inr (h1.trans e))).2;rw[h1] at this;rcases h with⟨i,h⟩|⟨i,h⟩|⟨i,x,y,h⟩ <;> rw[h] at this <;> rcases h2 with e|e <;> rw[e] at this <;> cases this
  cases hq:E.rl b with
  | bH=>exact(key (jE hq) (.inl rfl)).elim
  | eH=>exact(key (x:=.eH) (by unfold Env.eR;simp only[hq]) (.inr rfl)).elim
  | bx i=>
   cases hi:kh i mb with
   | none=>exact(key (x:=.eH) (by unfold Env.eR;simp only[hq,hi]) (.inr rfl)).elim
   | some p=>exact .inl ⟨i,p,rfl,hi⟩
  | rw τ=>
   cases hi:kh τ (mr.map (·.1)) with
   | none=>exact(key (x:=.eH) (by unfold Env.eR;simp only[hq,hi]) (.inr rfl)).elim
   | some p=>exact .inr (.inl ⟨τ,p,rfl,hi⟩)
  | jo τ x y=>
   cases hi:kh τ (mr.map (·.1)) with
   | none=>exact(key (x:=.eH) (by unfold Env.eR;simp only[hq,hi]) (.inr rfl)).elim
   | some p=>exact .inr (.inr ⟨τ,x,y,p,rfl,hi⟩)
 have fresh:∀ τ,(∃ R,lk st.rw τ=some R)->¬ (id<=τ/\τ < id+128):=fun τ ⟨R,hR⟩ e=>by
  rw[(hf τ e.1 e.2).2] at hR
  cases hR
 have vlo:∀ τ,(∃ R,lk st.rw τ=some R/\True)->∀ u,(∀ (j:Nat) (q:Nat × Nat),kh τ (mr.map (·.1))=some j->mr[j]? = some q->u<=q.2)->(E.kt E' w.heap.size id mb mr).vl τ u=E.vl τ u:=fun τ ⟨R,hR,_⟩ u hu=>by
  unfold Env.kt;simp only[if_neg (fresh τ ⟨R,hR⟩)]
  cases hi:kh τ (mr.map (·.1)) with
  | none=>rfl
  | some j=>
   have hj:=aaD hi;rw[bI] at hj
   cases hq:mr[j]? with
   | none=>rw[hq] at hj;cases hj
   | some q=>
    simp only[List.getD_eq_getElem?_getD,hq,Option.getD_some];rw[if_pos (hu j q hi hq)]
 have vlm:∀ (j:Nat) (q:Nat × Nat) (u:Nat),mr[j]? = some q->(E.kt E' w.heap.size id mb mr).vl q.1 (q.2+u)=E'.vl j u:=fun j q u hq=>by
  obtain⟨R,h1,h2,h3⟩:=gR j q hq
  have hj:j < ir.length:=by
   have:=(an.1 hq).1;omega
  unfold Env.kt;simp only[if_neg (fresh q.1 ⟨R,h1⟩),VE j q hq,List.getD_eq_getElem?_getD,hq,Option.getD_some]
  by_cases hu:q.2+u<=q.2
  ·obtain rfl:u=0:=by omega
   rw[if_pos hu,NS j hj,evl j q hq]
  ·rw[if_neg hu,Nat.add_sub_cancel_left]
 have vln:∀ j u,j < 128->(E.kt E' w.heap.size id mb mr).vl (id+j) u=E'.vl (mr.length+j) u:=fun j u hj=>by
  unfold Env.kt;simp only;rw[if_pos ⟨by omega,by omega⟩,Nat.add_sub_cancel_left]
 have hlen:∀ (j:Nat) R,(fF++nr)[j]? = some R->mr[j]? = none->mr.length<=j/\j - mr.length < 128/\nr[j - mr.length]? = some R:=fun j R h1 h2=>by
  have hj:=List.getElem?_eq_none_iff.1 h2;rw[bm (by omega),hlr] at h1;have h3:=(an.1 h1).1;have:=ct.uX;exact⟨hj,by omega,h1⟩
 have fr:∀ {v t},RT E'.F w' v t->RT (E.kt E' w.heap.size id mb mr).F w' v t:=fun h=>h.frame (ak _) (fun _ _ _=>rfl) fun b hb _=>S3 b hb;have frl:∀ {v t},jK E'.F w' v t->jK (E.kt E' w.heap.size id mb mr).F w' v t:=fun h=>h.frame (ak _) (fun _ _ _=>rfl) fun b hb _=>S3 b hb
 have rcr:∀ {v c},(∀ q∈Ce.cP c,∃ R,(fF++nr)[q.1]? = some R/\q.2<=R.bA)->RC E' w' v c->RC (E.kt E' w.heap.size id mb mr) w' v (c.rn mr id):=fun {v c} hq h=>by
  cases c with
  | t x=>exact fr h
  | nil=>exact h
  | row j u=>
   obtain⟨R,h1,h2⟩:=hq (j,u) aB
   show RC _ w' v (match mr[j]? with
    | some (τ,v)=>.row τ (v+u)
    | none=>.row (id+(j - mr.length)) u)
   cases hj:mr[j]? with
   | some q=>exact⟨h.1.trans (vlm j q u hj).symm,h.2⟩
   | none=>
    obtain⟨h3,h4,_⟩:=hlen j R h1 hj;refine⟨h.1.trans ?_,h.2⟩;rw[vln _ u h4,show mr.length+(j - mr.length)=j by omega]
  | bot=>exact h
 have a2r:∀ {vs cs},(∀ q∈cs.flatMap Ce.cP,∃ R,(fF++nr)[q.1]? = some R/\q.2<=R.bA)->A2 (RC E' w') vs cs->A2 (RC (E.kt E' w.heap.size id mb mr) w') vs (cs.map (Ce.rn mr id)):=fun {vs cs} hq h=>by
  induction h with
  | nil=>exact .nil
  | cons h1 _ ih=>
   rw[bZ] at hq;exact .cons (rcr (fun q h=>hq q (bR _ h)) h1) (ih fun q h=>hq q (bT _ h))
 have L5:∀ {v x},(∀ q∈AV.ig x,∃ R,(fF++nr)[q.1]? = some R/\q.2<=R.bA)->(∀ b∈AV.iu x,b < ib.length)->R1 E' w' v x->R1 (E.kt E' w.heap.size id mb mr) w' v (x.Jw mb mr id):=fun {v x} hq hbq h=>by
  cases x with
  | c x=>exact rcr hq h
  | agg xs=>
   obtain⟨vs,rfl,h⟩:=h;exact⟨vs,rfl,a2r hq h⟩
  | ptr i o=>
   have hi:=hbq i aB;have hmb:mb[i]? = some (mb[i]'(by omega)):=ag _
   show R1 _ w' v (match mb[i]? with
    | some b=>.ptr b o
    | none=>.bot)
   rw[hmb];refine(show v=_ from h).trans ?_;rw[ID i hi];unfold Env.eR;simp only[List.getD_eq_getElem?_getD,hmb,Option.getD_some];rfl
  | sub _ _ _ _=>exact⟨⟩
  | dX j u k i o=>
   obtain⟨R,h1,h2⟩:=hq (j,u) aB;obtain⟨g,n,c,h3,h4⟩:=h
   show R1 _ w' v (match mr[j]? with
    | some (τ,v)=>.dX τ (v+u) k i o
    | none=>.dX (id+(j - mr.length)) u k i o)
   cases hj:mr[j]? with
   | some q=>exact⟨g,n,c,(vlm j q u hj).trans h3,h4⟩
   | none=>
    obtain⟨h5,h6,_⟩:=hlen j R h1 hj;refine⟨g,n,c,?_,h4⟩;rw[vln _ u h6,show mr.length+(j - mr.length)=j by omega];exact h3
  | e9=>exact h
  | dL xs o=>
   obtain⟨g,p,vs,rfl,h1,h2,h3,h4⟩:=h;exact⟨g,p,vs,rfl,S3 g h1,h2,h3,frl h4⟩
  | gi dh=>exact h.elim
  | fn _ _=>exact⟨⟩
  | lL _ _=>exact⟨⟩
  | bot=>exact⟨⟩
 have mv:Mv st E w (E.kt E' w.heap.size id mb mr) w' (fun i=>∃ iH,lk (rJ mr id mb ob) i=some iH) (fun τ=>∃ R,lk (mz mr fF++jV id 0 nr) τ=some R):=by
  refine⟨lY,fun b aU h=>out b aU (fun i hi=>?_) fun i hi=>?_,fun b hb aU=>⟨agH b aU hb,?_⟩,fun _ _ _=>rfl,fun i cs hi hX aU ik=>?_,fun τ R u hτ hu=>vlo τ ⟨R,hτ,ea⟩ u fun j q hj hq=>?_,fun τ R hτ hY g hg aU ik=>?_,fun b hb aU=>aoF b aU hb,fun τ R hτ hY g x y aU ik=>?_⟩
  ·rcases h with h|h <;> rw[h] at hi <;> cases hi
  ·rcases h with h|h <;> rw[h] at hi <;> rcases hi with hi|⟨x,y,hi⟩ <;> cases hi
  ·rw[out b aU (fun i h=>by rw[hb] at h;cases h) (fun i h=>by rw[hb] at h;rcases h with h|⟨x,y,h⟩ <;> cases h),hb]
  ·have hn:kh i mb=none:=rQ XD (by
    cases hq:lk (rJ mr id mb ob) i with
    | none=>rfl
    | some x=>exact absurd ⟨x,hq⟩ hX)
   refine⟨rbx _ i aU ik hn,?_⟩;rw[out _ aU (fun i' h=>by rw[ik] at h;cases h;exact hn) (fun τ h=>by rw[ik] at h;rcases h with h|⟨x,y,h⟩ <;> cases h),ik]
  ·have hjq:=aaD hj;rw[bI,hq] at hjq;have hjq:q.1=τ:=aY hjq;obtain⟨R',h1,h2,_⟩:=gR j q hq;rw[hjq,hτ] at h1
   cases h1
   omega
  ·have hn:kh τ (mr.map (·.1))=none:=nS hlr (by
    cases hq:lk (mz mr fF) τ with
    | none=>rfl
    | some x=>exact absurd ⟨x,by rw[cB,hq]⟩ hY)
   refine⟨rrw _ τ aU ik hn,?_⟩
   rw[out _ aU (fun i' h=>by rw[ik] at h;cases h) (fun τ' h=>by
    rw[ik] at h;rcases h with h|⟨x,y,h⟩
    ·cases h;exact hn
    ·cases h),ik]
  ·have hn:kh τ (mr.map (·.1))=none:=nS hlr (by
    cases hq:lk (mz mr fF) τ with
    | none=>rfl
    | some x=>exact absurd ⟨x,by rw[cB,hq]⟩ hY)
   refine⟨rns _ τ x y aU ik hn,?_⟩
   rw[out _ aU (fun i' h=>by rw[ik] at h;cases h) (fun τ' h=>by
    rw[ik] at h;rcases h with h|⟨x,y,h⟩
    ·cases h
    ·cases h;exact hn),ik]
 -- names
 have nm:∀ q∈mr,∃ R,lk st.rw q.1=some R/\R.bA=q.2:=fun q hq=>by
  obtain⟨j,hj⟩:=List.mem_iff_getElem?.1 hq;obtain⟨R,h1,h2,_⟩:=gR j q hj;exact⟨R,h1,h2⟩
 have rnC:∀ {c:Ce},(∀ q∈c.cP,∃ R,(fF++nr)[q.1]? = some R/\q.2<=R.bA)->∀ p∈(c.rn mr id).cP,∃ R,lk (mz mr fF++jV id 0 nr) p.1=some R/\p.2<=R.bA:=fun {c} hq p hp=>by
  cases c with
  | row j u=>
   obtain⟨R,h1,h2⟩:=hq (j,u) aB
   have hp:p∈Ce.cP (match mr[j]? with
    | some (τ,v)=>.row τ (v+u)
    | none=>.row (id+(j - mr.length)) u):=hp
   cases hj:mr[j]? with
   | some q=>
    rw[hj] at hp;obtain rfl:p=(q.1,q.2+u):=by simpa [Ce.cP] using hp
    have aU:=(an.1 hj).1;rw[bz (by omega)] at h1;refine⟨_,by rw[cB,En k5 hj h1],?_⟩;show q.2+u<=q.2+R.bA;have h2:u<=R.bA:=h2;omega
   | none=>
    rw[hj] at hp;obtain rfl:p=(id+(j - mr.length),u):=by simpa [Ce.cP] using hp
    obtain⟨h3,h4,h5⟩:=hlen j R h1 hj;refine⟨R,?_,h2⟩;rw[cB]
    cases hq:lk (mz mr fF) (id+(j - mr.length)) with
    | some x=>
     obtain⟨j',q',R0,_,h7,h8,_⟩:=pw hq;obtain⟨R1,h9,_⟩:=gR j' q' h7;rw[h8,(hf _ (by omega) (by omega)).2] at h9
     cases h9
    | none=>
     show lk (jV id 0 nr) (id+(j - mr.length))=some R;rw[fc,if_pos (by omega),show id+(j - mr.length) - (id+0)=j - mr.length by omega];exact h5
  | _=>cases hp
 have Jw:∀ {x:AV},(∀ q∈x.ig,∃ R,(fF++nr)[q.1]? = some R/\q.2<=R.bA)->∀ p∈(x.Jw mb mr id).ig,∃ R,lk (mz mr fF++jV id 0 nr) p.1=some R/\p.2<=R.bA:=fun {x} hq p hp=>by
  cases x with
  | c x=>exact rnC hq p hp
  | agg xs=>
   obtain⟨c,hc,hp⟩:=List.mem_flatMap.1 (show p∈(xs.map (Ce.rn mr id)).flatMap Ce.cP from hp);obtain⟨y,hy,rfl⟩:=bL.1 hc;exact rnC (fun q h=>hq q (List.mem_flatMap.2 ⟨y,hy,h⟩)) p hp
  | ptr i o=>
   have hp:p∈AV.ig (match mb[i]? with
    | some b=>.ptr b o
    | none=>.bot):=hp
   cases hj:mb[i]? with
   | some b=>rw[hj] at hp;cases hp
   | none=>rw[hj] at hp;cases hp
  | dX j u k i o=>
   refine rnC (c:=.row j u) hq p ?_
   have hp:p∈AV.ig (match mr[j]? with
    | some (τ,v)=>.dX τ (v+u) k i o
    | none=>.dX (id+(j - mr.length)) u k i o):=hp
   show p∈Ce.cP (match mr[j]? with
    | some (τ,v)=>.row τ (v+u)
    | none=>.row (id+(j - mr.length)) u)
   cases hj:mr[j]? with
   | some q=>rw[hj] at hp;exact hp
   | none=>rw[hj] at hp;exact hp
  | _=>cases hp
 have bn1:∀ {x:AV},∀ b∈(x.Jw mb mr id).iu,st.hasB b:=fun {x} b hb=>by
  cases x with
  | ptr i o=>
   have hb:b∈AV.iu (match mb[i]? with
    | some b=>.ptr b o
    | none=>.bot):=hb
   cases hj:mb[i]? with
   | some b'=>
    rw[hj] at hb;obtain rfl:b=b':=by simpa [AV.iu] using hb
    obtain⟨us,_,h1,_⟩:=gB i b hj;exact⟨us,h1⟩
   | none=>rw[hj] at hb;cases hb
  | dX j u k i o=>
   have hb:b∈AV.iu (match mr[j]? with
    | some (τ,v)=>.dX τ (v+u) k i o
    | none=>.dX (id+(j - mr.length)) u k i o):=hb
   cases hj:mr[j]? with
   | some q=>rw[hj] at hb;cases hb
   | none=>rw[hj] at hb;cases hb
  | _=>cases hb
 refine hK (E.kt E' w.heap.size id mb mr) v w' (r.app hd mv ⟨fun τ R R' e1 e2=>?_,fun b hb=>.inl ?_,fun p hp=>.inr ?_,fun b cs h=>?_,fun τ R h=>?_,fun τ R d' h kH l hl=>?_⟩ ?_ (fun b cs h=>?_) fun τ R h=>?_) oZ
 ·rw[cB] at e2;split at e2
  ·rename_i x hx
   cases e2
   obtain⟨j,q,R0,_,h7,h8,_,rfl⟩:=pw hx;obtain⟨R1,h9,mZ,_⟩:=gR j q h7;rw[h8,e1] at h9
   cases h9
   show R.bA<=q.2+R0.bA;omega
  ·rw[fc] at e2;split at e2
   ·rename_i hle;have h1:=(an.1 e2).1;have:=ct.uX;rw[(hf τ (by omega) (by omega)).2] at e1
    cases e1
   ·cases e2
 ·have hb:b∈(rv.rn mb mr id).ed:=hb
  cases rv with
  | gi xs=>
   obtain⟨c,hc,hp⟩:=List.mem_flatMap.1 (show b∈(xs.map (AV.Jw mb mr id)).flatMap AV.iu from hb);obtain⟨y,hy,rfl⟩:=bL.1 hc;exact bn1 b hp
  | ptr i o=>exact bn1 (x:=.ptr i o) b (by
    have hb:b∈AV.ed (match mb[i]? with
     | some b=>.ptr b o
     | none=>.bot):=hb
    show b∈AV.iu (match mb[i]? with
     | some b=>.ptr b o
     | none=>.bot)
    cases hj:mb[i]? with
    | some b'=>rw[hj] at hb;exact hb
    | none=>rw[hj] at hb;cases hb)
  | dX j u k i o=>exact bn1 (x:=.dX j u k i o) b (by
    have hb:b∈AV.ed (match mr[j]? with
     | some (τ,v)=>.dX τ (v+u) k i o
     | none=>.dX (id+(j - mr.length)) u k i o):=hb
    show b∈AV.iu (match mr[j]? with
     | some (τ,v)=>.dX τ (v+u) k i o
     | none=>.dX (id+(j - mr.length)) u k i o)
    cases hj:mr[j]? with
    | some q=>rw[hj] at hb;exact hb
    | none=>rw[hj] at hb;exact hb)
  | _=>cases hb
 ·have hp:p∈(rv.rn mb mr id).cP:=hp
  cases rv with
  | gi xs=>
   obtain⟨c,hc,hp⟩:=List.mem_flatMap.1 (show p∈(xs.map (AV.Jw mb mr id)).flatMap AV.ig from hp);obtain⟨y,hy,rfl⟩:=bL.1 hc;exact Jw (fun q h=>ct.vr q (List.mem_flatMap.2 ⟨y,hy,h⟩)) p hp
  | c x=>exact Jw (x:=.c x) ct.vr p hp
  | agg x=>exact Jw (x:=.agg x) ct.vr p hp
  | ptr i o=>exact Jw (x:=.ptr i o) ct.vr p (by
    have hp:p∈AV.cP (match mb[i]? with
     | some b=>.ptr b o
     | none=>.bot):=hp
    cases hj:mb[i]? with
    | some b'=>rw[hj] at hp;cases hp
    | none=>rw[hj] at hp;cases hp)
  | dX j u k i o=>exact Jw (x:=.dX j u k i o) ct.vr p (by
    have hp:p∈AV.cP (match mr[j]? with
     | some (τ,v)=>.dX τ (v+u) k i o
     | none=>.dX (id+(j - mr.length)) u k i o):=hp
    show p∈AV.ig (match mr[j]? with
     | some (τ,v)=>.dX τ (v+u) k i o
     | none=>.dX (id+(j - mr.length)) u k i o)
    cases hj:mr[j]? with
    | some q=>rw[hj] at hp;exact hp
    | none=>rw[hj] at hp;exact hp)
  | _=>cases hp
 ·obtain⟨i,c,h1,h2,rfl⟩:=Ca h;refine⟨fun p hp=>.inr ?_,?_⟩
  ·obtain⟨x,hx,hp⟩:=List.mem_flatMap.1 hp;obtain⟨y,hy,rfl⟩:=bL.1 hx;exact rnC (fun q h=>ct.br i c h2 q (List.mem_flatMap.2 ⟨y,hy,h⟩)) p hp
  ·obtain⟨us,_,h3,_⟩:=gB i b (aaD h1);exact r.sc.fb b us h3
 ·rw[cB] at h;split at h
  ·rename_i x hx;obtain⟨j,q,R0,_,h7,h8,_⟩:=pw hx;obtain⟨R1,h9,_⟩:=gR j q h7;rw[h8] at h9;exact r.sc.fr τ R1 h9
  ·rw[fc] at h;split at h
   ·have h1:=(an.1 h).1;have:=ct.uX;omega
   ·cases h
 ·rw[cB] at h;split at h
  ·rename_i x hx
   cases h
   obtain⟨j,q,R0,_,_,_,h9,rfl⟩:=pw hx;rw[kL (R:=R0) (ct.shut R0 (bR _ (bc h9))) kH] at hl
   cases hl
  ·rw[fc] at h;split at h
   ·rw[kL (ct.shut R (bT _ (bc h))) kH] at hl
    cases hl
   ·cases h
 ·show RV _ w' v (rv.rn mb mr id)
  cases rv with
  | gi xs=>
   obtain⟨us,rfl,h⟩:=Z9;refine⟨us,rfl,?_⟩
   have:∀ {us:List Value} {xs:List AV},(∀ q∈xs.flatMap AV.ig,∃ R,(fF++nr)[q.1]? = some R/\q.2<=R.bA)->(∀ b∈xs.flatMap AV.iu,b < ib.length)->A2 (R1 E' w') us xs->A2 (R1 (E.kt E' w.heap.size id mb mr) w') us (xs.map (AV.Jw mb mr id)):=fun {us xs} hq hb h=>by
    induction h with
    | nil=>exact .nil
    | cons h1 _ ih=>
     rw[bZ] at hq hb;exact .cons (L5 (fun q h=>hq q (bR _ h)) (fun q h=>hb q (bR _ h)) h1) (ih (fun q h=>hq q (bT _ h)) fun q h=>hb q (bT _ h))
   exact this ct.vr ct.vb h
  | c x=>exact(L5 (x:=.c x) ct.vr ct.vb Z9).rv
  | agg x=>exact(L5 (x:=.agg x) ct.vr ct.vb Z9).rv
  | ptr i o=>exact(L5 (x:=.ptr i o) ct.vr ct.vb Z9).rv
  | dX j u k i o=>exact(L5 (x:=.dX j u k i o) ct.vr ct.vb Z9).rv
  | e9=>exact(L5 (x:=.e9) ct.vr ct.vb Z9).rv
  | dL xs o=>exact(L5 (x:=.dL xs o) ct.vr ct.vb Z9).rv
  | _=>exact⟨⟩
 ·obtain⟨i,c,h1,h2,rfl⟩:=Ca h;obtain⟨us,t,q1,q2,q3,q4⟩:=Q5 i c h2;have hmb:=aaD h1
  have hi:i < ib.length:=by
   have:=(an.1 hmb).1;omega
  have ebk:E'.bk i=E.bk b:=by
   rw[ID i hi];unfold Env.eR;simp only[List.getD_eq_getElem?_getD,hmb,Option.getD_some]
  rw[ebk] at q1 q2 q3;refine⟨us,t,q1,q2,?_,a2r (ct.br i c h2) q4⟩;show(E.kt E' w.heap.size id mb mr).rl (E.bk b)=_;rw[own _ (.inl ⟨i,q3⟩),q3];unfold Ox;simp only[hmb]
 ·rw[cB] at h;split at h
  ·rename_i x hx
   cases h
   obtain⟨j,q,R0,h6,h7,h8,h9,rfl⟩:=pw hx;have aU:=(an.1 h7).1;subst h8;refine RR.to (R:=R0) (h:=Q3 j R0 (by rw[bz (by omega)];exact h9)) (ak _) rfl rfl rfl rfl (ct.shut R0 (bR _ (bc h9))) (vlm j q R0.bA h7) (fun b hb _=>S3 b hb) (fun g _ _ Cx=>?_) fun g x y _ _ Cx=>?_
   ·rw[own g (.inr (.inl ⟨j,Cx⟩)),Cx];unfold Ox;simp only[h7]
   ·rw[own g (.inr (.inr ⟨j,x,y,Cx⟩)),Cx];unfold Ox;simp only[h7]
  ·rw[fc] at h;split at h
   ·rename_i hle;have h1:=(an.1 h).1;have:=ct.uX;obtain⟨j,rfl⟩:∃ j,τ=id+j:=⟨τ - id,by omega⟩
    rw[show id+j - (id+0)=j by omega] at h h1;have hn:mr[mr.length+j]? = none:=List.getElem?_eq_none_iff.2 (by omega);refine(Q3 (mr.length+j) R (by rw[bm (by omega),hlr,Nat.add_sub_cancel_left];exact h)).to (ak _) rfl rfl rfl rfl (ct.shut R (bT _ (bc h))) (vln j R.bA (by omega)) (fun b hb _=>S3 b hb) (fun g _ _ Cx=>?_) fun g x y _ _ Cx=>?_
    ·rw[own g (.inr (.inl ⟨_,Cx⟩)),Cx];unfold Ox;simp only[hn];congr 1;omega
    ·rw[own g (.inr (.inr ⟨_,x,y,Cx⟩)),Cx];unfold Ox;simp only[hn];congr 1;omega
   ·cases h
end
end
section
variable {P:Program}{T:Nat->Option Ty}{O:iy}
theorem yP {P:Program}(w:World)(dT sT ty elem:TypeId)(k b o Np acD:Nat)(a:Addr)(LA Yx:Nat)(cs:List Value)
  (hu:P.underlying dT=some (.slice elem)) (hs:(P.info? elem).map (·.size)=some k) (hn:cs.length=Nat.min LA Np*k)
  (Z7:∀ j v,cs[j]? = some v->w.cell? (a.add j)=some v) (hc:∀ j,j < cs.length->(w.cell? ⟨b,o+j,none⟩).isSome=true) (hf:∀ j,j < cs.length->w.frozen? ⟨b,o+j,none⟩=false) (h1:∀ v∈cs,v.oneCell'=true) :
  (Builtin.copy_ #[dT,sT] ty #[.slice (some ⟨b,o,none⟩) Np acD,.slice (some a) LA Yx]).run P w=.ok (goInt (Nat.min LA Np)) (w.setCells b o cs):=by
 have hl:=run_loadCells_list (P:=P) w a cs Z7;have fu:=run_storeCells_cells (P:=P) b o cs 0 w (by simpa using hc) (by simpa using hf) h1
 cases hq:P.info? elem with
 | none=>simp[hq] at hs
 | some i=>
  have hi:i.size=k:=by simpa [hq] using hs
  simp[Builtin.copy_,run_underlying hu,Builtin.lenOf,Builtin.firstCells,Go.sizeOf,typeInfo,hq,hi,<- hn,hl,fu]
theorem Bn (w:World)(dT sT ty elem:TypeId)(d a:Option Addr)(Np acD LA Yx:Nat)(hu:P.underlying dT=some (.slice elem))(hs:((P.info? elem).map (·.size)).isSome=true)(hn:Nat.min LA Np=0) :
  (Builtin.copy_ #[dT,sT] ty #[.slice d Np acD,.slice a LA Yx]).run P w=.ok (goInt 0) w:=by
 cases hq:P.info? elem with
 | none=>simp[hq] at hs
 | some i=>
  have hl:∀ (x:Addr),(loadCells x 0).run P w=.ok #[] w:=fun x=>by simpa using run_loadCells_list (P:=P) w x [] (by simp)
  cases d <;> cases a <;> simp[Builtin.copy_,run_underlying hu,Builtin.lenOf,Builtin.firstCells,Go.sizeOf,typeInfo,hq,hn,storeCells,hl]
section
variable {E:Env}{w:World}{n0 N m id:Nat}{st:St}{a:Act}
theorem qQ {F:Nat->Prop}(hF:E.F=F):∀ {vs:List Value} {cs:List Ce} {ts:List Tr},A2 (RC E w) vs cs->zg cs ts->jK F w vs ts
 | _,_,[],.nil,_=>.nil
 | _,_,t :: ts,.cons (y:=c) h1 h2,h=>by
  cases c with
  | t x=>
   obtain⟨rfl,h4⟩:=h;exact .cons (by rw[<- hF];exact h1) (qQ hF h2 h4)
  | nil=>
   obtain⟨⟨k,rfl⟩,h4⟩:=h;have h1:_=Value.slice none 0 0:=h1;subst h1;exact .cons (.gV fun _=>rfl) (qQ hF h2 h4)
  | row _ _=>exact h.elim
  | bot=>exact h.elim
 | _,_,_ :: _,.nil,h=>h.elim
 | _,_,[],.cons (y:=c) _ _,h=>by cases c <;> exact h.elim
theorem z7 {k:Nat}(z:Cl k)(n:Nat)(zs:Array Value)(hz:zs.toList=z.1):(madeCells zs (n*k)).toList=(List.replicate n z).flatMap Subtype.val:=by
 have hk:zs.size=k:=by rw[<- bP,hz,z.len]
 have lY:=size_madeCells zs (n*k);refine List.ext_getElem? fun j=>?_
 by_cases hj:j < n*k
 ·have Iy:0 < k:=Nat.pos_of_ne_zero fun h=>by rw[h] at hj;omega
  have hq:j / k < n:=Nat.div_lt_of_lt_mul (by rw[Nat.mul_comm];exact hj);have hr:j % k < k:=Nat.mod_lt _ Iy;have h1:=flat_get (enc:=Subtype.val) Cl.len (List.replicate n z) (j / k) z (by rw[List.getElem?_replicate,if_pos hq]) (j % k) hr;rw[show j / k*k+j % k=j by rw[Nat.mul_comm];exact Nat.div_add_mod j k] at h1;rw[h1,<- hz,dF,dF];unfold madeCells;rw[Array.getElem?_map,Array.getElem?_range,if_pos hj,hk];simp only[Option.map_some];rw[Array.getElem?_eq_getElem (by rw[hk];exact hr),getElem!_pos zs (j % k) (by rw[hk];exact hr)]
 ·rw[List.getElem?_eq_none (by rw[bP,lY];omega),List.getElem?_eq_none (by rw[fO Cl.len,cz];omega)]
theorem Nj (hT:dz P T)(r:cx O E w n0 N m st a){o:Oper}(hd:∀ x,o.dst=some x->x < N)(hf:nj st id)(hm:id < m){t e:Nat}{l c:Operand}{s b:Nat}{z:List Ce}{q:List Lk}{y:Ty}{kl kc:IntKind}{n:Nat}{zs:List Tr}(ho:o.op=.makeSlice t l c)(ht:T t=some ⟨.iU e,s,b,z,q⟩)(he:T e=some y)
  (hl:ev st l=.c (.t (.lit (.int kl (n:Int))))) (hc:ev st c=.c (.t (.lit (.int kc (n:Int))))) (hz:zg y.z zs) (MX:n*y.lP<=140737488355328) (hn:n < 140737488355328):lU P O o a w n0 N m st ⟨.c (.row id 0),[],[(id,⟨e,y.sz,0,List.replicate n zs,none⟩)]⟩:=by
 have hu:=jt (hT.ty t _ ht) rfl;obtain⟨i,zv,h1,h2,h3,h4,h6,h5⟩:=ju (hT.ty e y he);have hlv:=eC (by have:=dy r l;rw[hl] at this;exact this);have hcv:=eC (by have:=dy r c;rw[hc] at this;exact this);have hzl:zv.cells.toList.length=y.sz:=by rw[bP,h5,h2]
 have Q1:A2 (RC E w) zv.cells.toList y.z:=lg h6;have hrt:=qQ rfl Q1 hz;obtain⟨w',hr,own,hg⟩:=run_make_full (P:=P) w w.heap.size t e i zv y.sz hu h1 h4 h2 kl kc n (by rw[h3,Nat.mul_comm];omega) (by simp only[maxLen];omega) (ak _);obtain⟨x,hx⟩:∃ x:Cl y.sz,x.1=zv.cells.toList:=⟨⟨_,hzl,A2.one Q1⟩,rfl⟩
 rw[z7 x n zv.cells hx.symm] at own;have qN:(List.replicate n x).length=n:=cz;have hb:Below w.heap.size w w':=Below.JX hg;intro K Q hK;unfold Oper.wp execOp;simp only[ho,hlv,hcv,Sem.run_bind,Sem.run_pure,Result.andThen_ok,hr];refine hK _ _ _ (vv r hd hf hm hb (es:=List.replicate n x) (by rw[qN];exact own) ⟨by rw[qN,cz],fun j vs ts e1 e2=>?_⟩ (pq own)) (hb.mono r.hi);rw[List.getElem?_replicate] at e1 e2;split at e1
 ·rw[if_pos ‹_›] at e2
  cases e1
  cases e2
  rw[hx];exact hrt
 ·cases e1
theorem zt {k:Nat}(es:List (Cl k))(h:Nat)(hh:h<=es.length):(es.take h).flatMap Subtype.val=(es.flatMap Subtype.val).take (h*k):=by
 conv=>rhs;rw[<- List.take_append_drop h es,List.flatMap_append]
 rw[List.take_left' (by rw[fO Cl.len,au,Nat.min_eq_left hh])]
theorem DQ (r:cx O E w n0 N m st a){o:Oper}(hd:∀ x,o.dst=some x->x < N){τ bA:Nat}{R:Row}(hR:lk st.rw τ=some R)(fW:R.bA=bA)(nu:R.dp=none){_es0 XS:List (Cl R.k)}(ik:∀ g,(E.vl τ bA).ownBlock=some g->E.rl g=.rw τ){xs2:List (List Tr)}{w':World}{u:Value}{v:AV}(hu:RV E w' u v)(vF:v.ed=[])(Cp:v.cP=[])
  (lY:w.heap.size=w'.heap.size) (hold:∀ g,(E.vl τ bA).ownBlock≠some g->w'.heap[g]? = w.heap[g]?) (own:w'.ownsRow n0 R.ty R.k (E.vl τ bA) XS.length (XS.flatMap Subtype.val)) (fD:I9 E.F w XS xs2) :
  cx O E w' n0 N m (st.app o.dst ⟨v,[],[(τ,{ R with xs:=xs2 })]⟩) (a.put o.dst u):=by
 have iR:∀ g,E.rl g≠.rw τ->w'.heap[g]? = w.heap[g]?:=fun g h=>hold g fun e=>h (ik g e)
 have mv:Mv st E w E w' (fun i=>∃ iH,lk ([]:List (Nat × List Ce)) i=some iH) (fun τ'=>∃ R',lk [(τ,({ R with xs:=xs2 }:Row))] τ'=some R'):=by
  refine⟨by omega,fun _ _ _=>rfl,fun g hg _=>⟨iR g (by rw[hg];simp),hg⟩,fun _ _ _=>rfl,fun i cs hi _ _ h=>⟨iR _ (by rw[h];simp),h⟩,fun _ _ _ _ _=>rfl,fun τ' R' hτ hY g y9 _ h=>⟨iR g ?_,h⟩,fun g hg _=>iR g (by rw[hg];simp),fun τ' R' hτ hY g j q _ h=>⟨iR g (by rw[h];simp),h⟩⟩;rw[h];intro e
  cases e
  exact hY ⟨_,cp _ _ _ _ |>.trans (if_pos rfl)⟩
 refine r.app hd mv ⟨fun τ' R1 R2 e1 e2=>?_,fun b hb=>(by rw[show(Dl.mk v [] [(τ,{ R with xs:=xs2 })]).v=v from rfl,vF] at hb;cases hb),fun p hp=>(by rw[show(Dl.mk v [] [(τ,{ R with xs:=xs2 })]).v=v from rfl,Cp] at hp;cases hp),fun _ _ h=>(by cases h),fun τ' R' h=>?_,fun τ' R' d' h kH=>?_⟩ hu (fun _ _ h=>by cases h) fun τ' R' h=>?_
 ·rw[cp] at e2;split at e2
  ·rename_i e;subst e
   cases e2
   rw[hR] at e1
   cases e1
   exact ak _
  ·cases e2
 ·rw[cp] at h;split at h
  ·rename_i e;subst e;exact r.sc.fr τ R hR
  ·cases h
 ·rw[cp] at h;split at h
  ·cases h
   have kH:R.dp=some d':=kH;rw[nu] at kH
   cases kH
  ·cases h
 ·rw[cp] at h;split at h
  ·rename_i e;subst e
   cases h
   have fr:∀ {vs ts},jK E.F w vs ts->jK E.F w' vs ts:=fun h=>h.frame mv.size (fun b hb aU=>(mv.bH b hb aU).1) fun b hb _=>hb;exact Ow.rr nu ⟨XS,by rw[show({ R with xs:=xs2 }:Row).bA=bA from fW];exact own,⟨fD.len,fun j vs ts q1 q2=>fr (fD.at_ j vs ts q1 q2)⟩,fun g y9=>ik g (by rw[<- fW];exact y9)⟩
  ·cases h
theorem Nk (hT:dz P T)(r:cx O E w n0 N m st a){o:Oper}(hd:∀ x,o.dst=some x->x < N){s x:Operand}{t t' e:Nat}{sz b:Nat}{z:List Ce}{q:List Lk}{y:Ty}{k:Nat}{ys:List (List Tr)}{τ bA:Nat}{R:Row}(ho:o.op=.call ⟨.builtin .copy,#[s,x],#[t,t']⟩)(ht:T t=some ⟨.iU e,sz,b,z,q⟩)(he:T e=some y)(hx:ev st x=.c (.t (.sl k ys)))(hs:ev st s=.c (.row τ bA))(hR:lk st.rw τ=some R)(fW:R.bA=bA)(Cv:R.k=y.sz)(_hRt:R.ty=e)(nu:R.dp=none)(hk:k=y.sz\/ys=[])(hle:ys.length<=R.xs.length) :
  lU P O o a w n0 N m st ⟨.i ys.length,[],[(τ,{ R with xs:=ys++R.xs.drop ys.length })]⟩:=by
 have hu:=jt (hT.ty t _ ht) rfl;obtain⟨i,zv,h1,h2,_⟩:=ju (hT.ty e y he);have yZ:=dy r s;rw[hs] at yZ;have yZ:a.eval s=E.vl τ bA:=yZ.1;rw[<- Cv] at hk;obtain⟨ao,cap,es,NQ,hn,hc,fD,qA⟩:=By r (dy r x) (by rw[hx];rfl) hk;obtain⟨jG,ro,pR,ik⟩:=(r.row τ R hR).ow nu;rw[fW] at ro ik;have XH:(P.info? e).map (·.size)=some R.k:=by rw[h1];simp[h2,Cv]
 have fin:∀ w':World,w.heap.size=w'.heap.size->(∀ g,(E.vl τ bA).ownBlock≠some g->w'.heap[g]? = w.heap[g]?)->w'.ownsRow n0 R.ty R.k (E.vl τ bA) (es++jG.drop es.length).length ((es++jG.drop es.length).flatMap Subtype.val)->Below n0 w w'->
   cx O E w' n0 N m (st.app o.dst ⟨.i ys.length,[],[(τ,{ R with xs:=ys++R.xs.drop ys.length })]⟩) (a.put o.dst (goInt ys.length)):=fun w' lY hold own hb=>
  DQ r hd hR fW nu (_es0:=jG) ik (RT.lit rfl) rfl rfl lY hold own ⟨by rw[al,al,aO,aO,pR.len,fD.len],fun j vs ts q1 q2=>by
   by_cases hj:j < es.length
   ·rw[bz hj] at q1;rw[bz (by rw[<- fD.len];exact hj)] at q2;exact fD.at_ j vs ts q1 q2
   ·rw[bm (by omega),List.getElem?_drop] at q1;rw[bm (by rw[<- fD.len];omega),List.getElem?_drop,<- fD.len] at q2;exact pR.at_ _ vs ts q1 q2⟩
 have Ra:=fD.len
 have run:∀ w':World,(Builtin.copy_ #[t,t'] o.type #[E.vl τ bA,.slice ao ys.length cap]).run P w=.ok (goInt ys.length) w'->w.heap.size=w'.heap.size->(∀ g,(E.vl τ bA).ownBlock≠some g->w'.heap[g]? = w.heap[g]?)->w'.ownsRow n0 R.ty R.k (E.vl τ bA) (es++jG.drop es.length).length ((es++jG.drop es.length).flatMap Subtype.val)->Below n0 w w'->lU P O o a w n0 N m st ⟨.i ys.length,[],[(τ,{ R with xs:=ys++R.xs.drop ys.length })]⟩:=fun w' hr g1 g2 g3 g4 K Q hK=>by
  unfold Oper.wp execOp;simp only[ho,resolve,invoke,builtin,Sem.run_bind,Sem.run_pure,Result.andThen_ok,List.map_toArray,bW,List.map_nil,yZ,NQ,hr];exact hK _ _ _ (fin w' g1 g2 g3 g4) g4
 by_cases h0:ys=[]
 ·subst h0;have S1:es=[]:=List.eq_nil_of_length_eq_zero Ra;subst S1;obtain⟨ao0,Sh,NS,_⟩:=mf ro;refine run w (by rw[NS];exact Bn w t t' o.type e _ _ _ _ _ _ hu (by rw[XH];rfl) (Nat.zero_min _)) rfl (fun _ _=>rfl) ?_ (Below.refl _ _);rw[bE,bM,List.drop_zero];exact ro
 have oV:0 < ys.length:=List.length_pos_iff.2 h0;have arA:0 < jG.length:=by rw[pR.len];omega
 obtain⟨g,Sh,cur,NS,XK,yl,oC,uS,en,vI,_⟩:=nL ro (ag arA)
 cases ao with
 | none=>have:=hn rfl;omega
 | some ad=>
  have ajO:es.length<=jG.length:=by rw[Ra,pR.len];exact hle
  have Iy:es.length*R.k<=cur.size:=by rw[en];exact cy _ (by have:=pR.len;omega)
  have si:(es.flatMap Subtype.val).length=es.length*R.k:=fO Cl.len es;have ID:Bk w g R.ty cur.toList:=yl;have Rc:=ID.OI 0 (es.flatMap Subtype.val) (by rw[bw,si,bP (xs:=cur)];exact Iy);refine run (w.setCells g 0 (es.flatMap Subtype.val)) ?_ (jv _ _ _ _).symm (fun g' h=>jw _ _ _ _ _ fun e=>h (by rw[NS,e];rfl)) ?_ (iI _ _ _ (Below.refl _ _) _ XK)
  ·have ajD:Nat.min ys.length jG.length=ys.length:=Nat.min_eq_left (by rw[pR.len];exact hle)
   have:=yP (P:=P) w t t' o.type e R.k g 0 jG.length Sh ad ys.length cap (es.flatMap Subtype.val) hu XH (by rw[ajD,si,Ra]) (qA ad rfl) (fun j hj=>by
    rw[bw,cell_of_row _ _ _ _ _ _ yl,Array.getElem?_eq_getElem (by rw[si] at hj;omega)];rfl) (fun j _=>by simp[World.frozen?,yl]) (na es)
   rw[ajD] at this;rw[NS];exact this
  ·rw[NS];have qO:(es++jG.drop es.length).length=jG.length:=by rw[al,aO];have:=pR.len;omega
   refine⟨fO Cl.len _,.inr ⟨g,Sh,_,by rw[qO],XK,Rc,by rw[qO];exact oC,uS,?_,?_⟩⟩
   ·simp only[List.take_zero,bE,List.size_toArray,al,aO,bP,bw];omega
   ·rw[List.toList_toArray,List.take_zero,bE,bw,qO,List.flatMap_append];have Q8:jG.flatMap Subtype.val=(jG.take es.length).flatMap Subtype.val++(jG.drop es.length).flatMap Subtype.val:=by rw[<- List.flatMap_append,List.take_append_drop]
    have xA:(jG.drop es.length).flatMap Subtype.val=(jG.flatMap Subtype.val).drop (es.flatMap Subtype.val).length:=by
     rw[Q8,List.drop_left' (by rw[fO Cl.len,si,au,Nat.min_eq_left ajO])]
    rw[xA,<- vI,List.take_append,List.take_of_length_le (by rw[si];exact cy _ ajO),List.drop_take]
theorem Y5 (hT:dz P T)(r:cx O E w n0 N m st a){o:Oper}{t e:Nat}{x:Operand}{lo:Option Operand}{s b:Nat}{z:List Ce}{q:List Lk}{y:Ty}{τ bA:Nat}{R:Row}{l:Nat}(ho:o.op=.slice t x lo none none)(ht:T t=some ⟨.iU e,s,b,z,q⟩)(hx:ev st x=.c (.row τ bA))(he:T e=some y)(hR:lk st.rw τ=some R)(fW:R.bA=bA)(Cv:R.k=y.sz)(hM:R.iQ=false)(hl:bound st lo 0 l)(h1:l<=R.xs.length):qK P E w st a o (.sub τ bA R.k l):=by
 have hu:=jt (hT.ty t _ ht) rfl;have hv:=dy r x;rw[hx] at hv;have hv:a.eval x=E.vl τ bA:=hv.1;obtain⟨es,ro,hlen,_⟩:=(r.row τ R hR).hd hM;obtain⟨ao,cap,mn,hc,_⟩:=mf ro;rw[fW] at mn;rw[hlen] at mn hc;refine⟨.slice (if cap=l then ao else ao.map (·.add (l*y.sz))) (R.xs.length - l) (cap - l),?_,⟨ao,_,cap,mn,by rw[Cv]⟩,fun b hb=>(by cases hb),fun p hp=>?_⟩
 ·have hb:∀ Ij,(Instr.sliceBounds Ij R.xs.length cap (lo.map a.eval) none none).run P w=.ok (l,R.xs.length,cap) w:=fun Ij=>oa (hi:=none) r hl (rfl:bound st none R.xs.length R.xs.length) h1 (ak _) hc;unfold execOp;simp[ho,hv,mn,Instr.sliceAt,Instr.slice,run_underlying hu,hb,kJ (hT.ty e y he)]
 ·obtain rfl:p=(τ,bA):=by simpa [AV.cP,AV.ig] using hp
  exact⟨R,hR,by rw[fW];exact ak _⟩
theorem RQ (hT:dz P T)(r:cx O E w n0 N m st a){o:Oper}(hd:∀ x,o.dst=some x->x < N){t e:Nat}{x hi:Operand}{s b:Nat}{z:List Ce}{q:List Lk}{y:Ty}{τ bA:Nat}{R:Row}{h:Nat}(ho:o.op=.slice t x none (some hi) none)(ht:T t=some ⟨.iU e,s,b,z,q⟩)(hx:ev st x=.c (.row τ bA))(he:T e=some y)(hR:lk st.rw τ=some R)(fW:R.bA=bA)(_hRk:R.k=y.sz)(nu:R.dp=none)(hh:bound st (some hi) 0 h)(h1:h<=R.xs.length):lU P O o a w n0 N m st ⟨.c (.row τ (bA+1)),[],[(τ,{ R with bA:=bA+1,xs:=R.xs.take h })]⟩:=by
 have hu:=jt (hT.ty t _ ht) rfl;have hv:=dy r x;rw[hx] at hv;have hv:a.eval x=E.vl τ bA:=hv.1;obtain⟨es,ro,fD,ik⟩:=(r.row τ R hR).ow nu;rw[fW] at ro ik;obtain⟨ao,cap,mn,hc,hn⟩:=mf ro;rw[fD.len] at mn hc
 have ajK:(∀ ad,ao=some ad->∃ g,ad=⟨g,0,none⟩):=fun ad XN=>by
  rcases ro.2 with⟨e1,_⟩|⟨g,c,cur,e1,_⟩
  ·rw[mn] at e1;simp only[Value.slice.injEq] at e1;rw[e1.1] at XN
   cases XN
  ·rw[mn] at e1;simp only[Value.slice.injEq] at e1;rw[e1.1] at XN
   cases XN
   exact⟨g,rfl⟩
 obtain⟨V,hV⟩:∃ V,V=Value.slice ao h cap:=⟨_,rfl⟩
 have lI:(execOp a.eval o).run P w=.ok (.value V) w:=by
  have e1:(if cap=0 then ao else ao.map (·.add (0*y.sz)))=ao:=by
   split
   ·rfl
   ·cases ao with
    | none=>rfl
    | some ad=>
     obtain⟨g,rfl⟩:=ajK ad rfl;simp[lS]
  have hb:∀ Ij,(Instr.sliceBounds Ij R.xs.length cap none (some (a.eval hi)) none).run P w=.ok (0,h,cap) w:=fun Ij=>oa (lo:=none) (hi:=some hi) (len:=R.xs.length) r (rfl:bound st none 0 0) hh (aA _) h1 hc;unfold execOp;rw[hV];simp[ho,hv,mn,Instr.sliceAt,Instr.slice,run_underlying hu,hb,kJ (hT.ty e y he)];simpa using e1
 have own:w.ownsRow n0 R.ty R.k V (es.take h).length ((es.take h).flatMap Subtype.val):=by
  have hl:(es.take h).length=h:=by rw[au,fD.len,Nat.min_eq_left h1]
  refine⟨fO Cl.len _,?_⟩;rcases ro.2 with⟨e1,e2⟩|⟨g,c,cur,e1,e2,e3,e4,e5,e6,e7⟩
  ·rw[mn] at e1;simp only[Value.slice.injEq] at e1;obtain⟨rfl,e3,rfl⟩:=e1;exact .inl ⟨by rw[hV,show h=0 by omega],by omega⟩
  ·rw[mn] at e1;simp only[Value.slice.injEq] at e1;obtain⟨rfl,e8,rfl⟩:=e1;refine .inr ⟨g,cap,cur,by rw[hV,hl],e2,e3,by omega,e5,e6,?_⟩;have hle:h*R.k<=es.length*R.k:=cy _ (by rw[fD.len];exact h1);rw[hl,zt es h (by rw[fD.len];exact h1),<- e7,List.take_take,Nat.min_eq_left hle]
 have mv:Mv st E w ⟨E.rl,E.bk,fun τ' u=>if τ'=τ/\u=bA+1 then V else E.vl τ' u⟩ w (fun i=>∃ iH,lk ([]:List (Nat × List Ce)) i=some iH) (fun τ'=>∃ R',lk [(τ,({ R with bA:=bA+1,xs:=R.xs.take h }:Row))] τ'=some R'):=
  Mv.below (Below.refl _ _) (fun _ _=>rfl) (fun _ _ _=>rfl) (fun τ' R' u hτ hu=>if_neg (by
   rintro⟨e1,e2⟩;subst e1;rw[hR] at hτ
   cases hτ
   omega))
 have hVl:(if τ=τ/\bA+1=bA+1 then V else E.vl τ (bA+1))=V:=if_pos ⟨rfl,rfl⟩
 have rep:cx O ⟨E.rl,E.bk,fun τ' u=>if τ'=τ/\u=bA+1 then V else E.vl τ' u⟩ w n0 N m (st.app o.dst ⟨.c (.row τ (bA+1)),[],[(τ,{ R with bA:=bA+1,xs:=R.xs.take h })]⟩) (a.put o.dst V):=by
  refine r.app hd mv ⟨fun τ' R1 R2 e1 e2=>?_,fun b hb=>(by cases hb),fun p hp=>.inr ?_,fun _ _ hq=>(by cases hq),fun τ' R' hq=>?_,fun τ' R' d' hq kH=>?_⟩ ⟨hVl.symm,by rw[hV];rfl⟩ (fun _ _ hq=>by cases hq) fun τ' R' hq=>?_
  ·rw[cp] at e2;split at e2
   ·rename_i e;subst e
    cases e2
    rw[hR] at e1
    cases e1
    show R.bA<=bA+1;omega
   ·cases e2
  ·obtain rfl:p=(τ,bA+1):=by simpa [AV.cP,AV.ig,Ce.cP] using hp
   exact⟨_,cp _ _ _ _ |>.trans (if_pos rfl),ak _⟩
  ·rw[cp] at hq;split at hq
   ·rename_i e;subst e;exact r.sc.fr τ R hR
   ·cases hq
  ·rw[cp] at hq;split at hq
   ·cases hq
    have kH:R.dp=some d':=kH;rw[nu] at kH
    cases kH
   ·cases hq
  ·rw[cp] at hq;split at hq
   ·rename_i e;subst e
    cases hq
    refine Ow.rr nu ⟨es.take h,(show World.ownsRow w n0 R.ty R.k (if τ=τ/\bA+1=bA+1 then V else E.vl τ (bA+1)) _ _ by rw[hVl];exact own),⟨by rw[au,au,fD.len],fun j vs ts q1 q2=>?_⟩,fun g hg=>?_⟩
    ·rw[List.getElem?_take] at q1 q2;split at q1
     ·rw[if_pos ‹_›] at q2;exact fD.at_ j vs ts q1 q2
     ·cases q1
    ·have hg:(if τ=τ/\bA+1=bA+1 then V else E.vl τ (bA+1)).ownBlock=some g:=hg;rw[hVl,hV] at hg;refine ik g ?_;rw[mn]
     cases ao with
     | none=>cases hg
     | some ad=>exact hg
   ·cases hq
 intro K Q hK;unfold Oper.wp;simp only[lI];exact hK _ _ _ rep (Below.refl _ _)
theorem Ov {P:Program}(w:World)(t e ty:TypeId)(z:Value)(ht:P.underlying t=some (.slice e))(hv:∀ w,(zeroValue e).run P w=.ok z w)(n:Nat)(hn0:n≠0)(vs:List Value)(hz:(Builtin.zeroCells z.cells n).toList=vs)(h1:∀ u∈vs,u.oneCell'=true)(b o c:Nat)
  (hc:∀ j,j < vs.length->(w.cell? ⟨b,o+j,none⟩).isSome=true) (hf:∀ j,j < vs.length->w.frozen? ⟨b,o+j,none⟩=false) :
  (Builtin.clear_ #[t] ty #[.slice (some ⟨b,o,none⟩) n c]).run P w=.ok (.tuple #[]) (w.setCells b o vs):=by
 have fu:=run_storeCells_cells (P:=P) b o vs 0 w (by simpa using hc) (by simpa using hf) h1;simp only[dm] at fu;simp[Builtin.clear_,run_underlying ht,hn0,hv,hz,fu]
theorem RS (hT:dz P T)(r:cx O E w n0 N m st a){o:Oper}(hd:∀ x,o.dst=some x->x < N){x:Operand}{t e:Nat}{s b:Nat}{z:List Ce}{q:List Lk}{y:Ty}{τ bA k i:Nat}{R:Row}{zs:List Tr}(ho:o.op=.call ⟨.builtin .clear,#[x],#[t]⟩)(ht:T t=some ⟨.iU e,s,b,z,q⟩)(he:T e=some y)(hx:ev st x=.sub τ bA k i)(hR:lk st.rw τ=some R)(fW:R.bA=bA)(hk:R.k=k)(Cv:R.k=y.sz)(nu:R.dp=none)(hz:zg y.z zs)(h1:i<=R.xs.length):lU P O o a w n0 N m st ⟨.bot,[],[(τ,{ R with xs:=R.xs.take i++List.replicate (R.xs.length - i) zs })]⟩:=by
 have hu:=jt (hT.ty t _ ht) rfl;obtain⟨inf,zv,g1,g2,g3,g4,g6,g5⟩:=ju (hT.ty e y he);have hv:=dy r x;rw[hx] at hv;obtain⟨ao,n,c,NS,hv⟩:∃ ao n c,E.vl τ bA=.slice ao n c/\a.eval x=.slice (if c=i then ao else ao.map (·.add (i*k))) (n - i) (c - i):=hv;obtain⟨jG,ro,pR,ik⟩:=(r.row τ R hR).ow nu;rw[fW] at ro ik;have hzl:zv.cells.toList.length=R.k:=by rw[bP,g5,g2,Cv]
 have Q1:A2 (RC E w) zv.cells.toList y.z:=lg g6;have hrt:=qQ rfl Q1 hz;obtain⟨zc,QU⟩:∃ zc:Cl R.k,zc.1=zv.cells.toList:=⟨⟨_,hzl,A2.one Q1⟩,rfl⟩
 have Ra:=pR.len
 have fD:I9 E.F w (jG.take i++List.replicate (jG.length - i) zc) (R.xs.take i++List.replicate (R.xs.length - i) zs):=by
  refine⟨by simp[Ra],fun j vs ts q1 q2=>?_⟩
  by_cases hj:j < i
  ·rw[bz (by rw[au];omega),List.getElem?_take,if_pos hj] at q1 q2;exact pR.at_ j vs ts q1 q2
  ·rw[bm (by rw[au];omega),au,List.getElem?_replicate] at q1 q2;split at q1
   ·split at q2
    ·cases q1
     cases q2
     rw[QU];exact hrt
    ·cases q2
   ·cases q1
 have run:∀ w':World,(Builtin.clear_ #[t] o.type #[a.eval x]).run P w=.ok (.tuple #[]) w'->w.heap.size=w'.heap.size->(∀ g,(E.vl τ bA).ownBlock≠some g->w'.heap[g]? = w.heap[g]?)->w'.ownsRow n0 R.ty R.k (E.vl τ bA) (jG.take i++List.replicate (jG.length - i) zc).length ((jG.take i++List.replicate (jG.length - i) zc).flatMap Subtype.val)->Below n0 w w'->lU P O o a w n0 N m st ⟨.bot,[],[(τ,{ R with xs:=R.xs.take i++List.replicate (R.xs.length - i) zs })]⟩:=fun w' hr q1 q2 q3 q4 K Q hK=>by
  unfold Oper.wp execOp;simp only[ho,resolve,invoke,builtin,Sem.run_bind,Sem.run_pure,Result.andThen_ok,List.map_toArray,bW,List.map_nil,hr];exact hK _ _ _ (DQ r hd hR fW nu (_es0:=jG) ik (v:=.bot) trivial rfl rfl q1 q2 q3 fD) q4
 obtain⟨ao',Nx,mn,oC,_⟩:=mf ro;rw[NS] at mn
 cases mn
 by_cases h0:jG.length - i=0
 ·have hi:i=jG.length:=by omega
  refine run w ?_ rfl (fun _ _=>rfl) ?_ (Below.refl _ _)
  ·rw[hv,h0];generalize (if c=i then ao else ao.map (·.add (i*k)))=A
   cases A <;> simp[Builtin.clear_,run_underlying hu]
  ·rw[h0,List.replicate_zero,aW,hi,bj];exact ro
 ·obtain⟨g,Sh,cur,e1,XK,yl,oC,uS,en,vI,_⟩:=nL ro (ag (i:=i) (by omega));rw[NS] at e1
  cases e1
  obtain⟨vs,QX⟩:∃ vs,vs=(List.replicate (jG.length - i) zc).flatMap Subtype.val:=⟨_,rfl⟩
  have Ip:vs.length=(jG.length - i)*R.k:=by rw[QX,fO Cl.len,cz]
  have hmul:i*R.k+(jG.length - i)*R.k=jG.length*R.k:=by rw[<- Nat.add_mul];congr 1;omega
  have hcl:jG.length*R.k<=cur.size:=by rw[en];exact cy _ oC
  have aAF:jG.length*R.k<=cur.toList.length:=by rw[bP];exact hcl
  have ID:Bk w g R.ty cur.toList:=yl;have Rc:=ID.OI (i*R.k) vs (by rw[Ip,hmul,bP (xs:=cur)];exact hcl);refine run (w.setCells g (i*R.k) vs) ?_ (jv _ _ _ _).symm (fun g' h=>jw _ _ _ _ _ fun e=>h (by rw[NS,e];rfl)) ?_ (iI _ _ _ (Below.refl _ _) _ XK)
  ·rw[hv,if_neg (by omega)];simp only[Option.map_some,lS,bw];rw[<- hk];refine Ov w t e o.type zv hu (fun w=>by simp[zeroValue,typeInfo,g1,g4]) _ h0 vs ?_ (by rw[QX];exact na _) g (i*R.k) _ (fun j hj=>?_) fun j _=>by simp[World.frozen?,yl]
   ·rw[QX,<- z7 zc _ zv.cells QU.symm];unfold Builtin.zeroCells madeCells;rw[g5,g2,<- Cv]
   ·rw[cell_of_row _ _ _ _ _ _ yl,Array.getElem?_eq_getElem (by rw[Ip] at hj;omega)];rfl
  ·rw[NS];have qO:(jG.take i++List.replicate (jG.length - i) zc).length=jG.length:=by rw[al,au,cz];omega
   refine⟨fO Cl.len _,.inr ⟨g,c,_,by rw[qO],XK,Rc,by rw[qO];exact oC,uS,?_,?_⟩⟩
   ·simp only[List.size_toArray,al,au,aO,bP];rw[Ip];omega
   ·have hd:jG.length*R.k - i*R.k=vs.length:=by omega
    have hA:(cur.toList.take (i*R.k)).length=i*R.k:=by rw[au];omega
    rw[List.toList_toArray,qO,List.flatMap_append,<- QX,zt jG i (by omega),<- vI,List.take_take,Nat.min_eq_left (by omega),b9,List.take_append,hA,hd,List.take_of_length_le (by rw[hA];omega),List.take_left]
end
end
section
variable {P:Program}{T:Nat->Option Ty}{O:iy}
theorem j9 {st:St}{id:Nat}{op:Op}{K:Dl->Prop}(h:match dQ T st op with
  | some v=>v.open_ fun v=>K (.val v)
  | none=>False):∃ d,nw P T st id op d/\K d:=by
 split at h
 ·rename_i v hv;rw[AV.pr] at h;exact⟨_,.pure hv,h⟩
 ·exact h.elim
theorem Te {st:St}{id:Nat}{o:Oper}{K:Dl->Prop}(h:WPo P T st id o K):∃ d,nw P T st id o.op d/\K d:=by
 obtain⟨dst,op,type,pos,after,guard⟩:=o;unfold WPo at h;simp only at h
 cases op with
 | pick c a b=>
  simp only at h;split at h
  ·rename_i t e
   cases t with
   | true=>
    simp only[cond_true,AV.pr] at h;exact⟨_,.pick e,h⟩
   | false=>
    simp only[cond_false,AV.pr] at h;exact⟨_,.pick e,h⟩
  ·exact h.elim
 | alloc e=>
  simp only at h;split at h
  ·rename_i y hy;rw[lK] at h;exact⟨_,.alloc hy,h⟩
  ·exact h.elim
 | box e x=>
  simp only at h;split at h
  ·rename_i cs en;exact⟨_,.box en,h⟩
  ·exact h.elim
 | store t ax x=>
  simp only at h;split at h
  ·rename_i y us hy pz
   cases hb:Nat.beq us.length y.sz with
   | false=>rw[hb] at h;exact h.elim
   | true=>
    rw[hb] at h;rw[vM] at h;have hl:=ai hb;split at h
    ·rename_i b o Fh;split at h
     ·rename_i cs en
      cases dK:Nat.ble (o+us.length) cs.length with
      | false=>rw[dK] at h;exact h.elim
      | true=>
       rw[dK] at h;rw[vM,lK] at h;exact⟨_,.qe hy pz hl Fh en (Nb dK),h⟩
     ·exact h.elim
    ·rename_i τ bA k i o Fh;split at h
     ·rename_i yS rk jT qk ts hR Dg
      cases dK:Nat.beq jT bA&&Nat.beq rk k with
      | false=>rw[dK] at h;exact h.elim
      | true=>
       rw[dK] at h;simp only[ah] at dK;obtain⟨xs,h1,h2,h3⟩:=h;exact⟨_,.qc hy pz hl Fh hR (ai dK.1) (ai dK.2) rfl Dg h1 h2,h3⟩
     ·rename_i yS rk jT qk d hR;split at h
      ·rename_i ts nl hcd
       cases dK:Nat.beq jT bA&&Nat.beq rk k with
       | false=>rw[dK] at h;exact h.elim
       | true=>
        rw[dK] at h;simp only[ah] at dK;obtain⟨xs,h1,h2,h3,h4,h5⟩:=h;exact⟨_,.qd hy pz hl Fh hR (ai dK.1) (ai dK.2) rfl hcd h1 h2 h3 h4,h5⟩
      ·exact h.elim
     ·exact h.elim
    ·exact h.elim
  ·exact h.elim
 | load t ax=>
  simp only at h;split at h
  ·rename_i τ bA k i o Fh;split at h
   ·rename_i y R hy hR
    cases dK:Nat.beq R.bA bA&&Nat.beq R.k k with
    | false=>rw[dK] at h;exact h.elim
    | true=>
     rw[dK] at h;simp only[ah] at dK;rw[vM] at h;split at h
     ·rename_i nu;obtain⟨xs,v,h1,h2,h3⟩:=h;exact⟨_,.Ab Fh hy hR (ai dK.1) (ai dK.2) nu h1 h2,h3⟩
     ·rename_i d nu;split at h
      ·rename_i qN;obtain⟨xs,v,h1,h2,h3,h4⟩:=h;exact⟨_,.Ac Fh hy hR (ai dK.1) (ai dK.2) nu qN h1 h2 h3,h4⟩
      ·split at h
       ·rename_i i' ρ u x8
        cases VY:y.isAgg with
        | true=>rw[VY] at h;exact h.elim
        | false=>
         rw[VY] at h;obtain⟨rfl,h1,h2,h3⟩:=h;exact⟨_,.Aa Fh hy hR (ai dK.1) (ai dK.2) nu x8 VY h1 h2,h3⟩
       ·exact h.elim
   ·exact h.elim
  ·exact j9 h
 | indexAddr t x ix=>
  simp only at h;split at h
  ·rename_i e _ _ _ _ _ n ht hi;split at h
   ·rename_i y k xs he hx
    cases hb:Nat.beq k y.sz with
    | false=>rw[hb] at h;exact h.elim
    | true=>
     rw[hb] at h;obtain⟨j,ts,h1,h2,h3⟩:=h;exact⟨_,.ixT ht hi he hx (ai hb) h1 h2,h3⟩
   ·rename_i y τ bA he hx;split at h
    ·rename_i R hR
     cases hb:Nat.beq R.bA bA&&(Nat.beq R.k y.sz&&!R.iQ) with
     | false=>rw[hb] at h;exact h.elim
     | true=>
      rw[hb] at h;simp only[ah,cu] at hb;obtain⟨j,h1,h2,h3⟩:=h;exact⟨_,.VE ht hi he hx hR (ai hb.1) (ai hb.2.1) hb.2.2 h1 h2,h3⟩
    ·exact h.elim
   ·exact h.elim
  ·rename_i m e _ _ _ _ _ n ht hi;split at h
   ·rename_i y b o he hx;obtain⟨j,h1,h2,h3⟩:=h;exact⟨_,.QL ht hi he hx h1 h2,h3⟩
   ·rename_i y xs o he hx;obtain⟨j,h1,h2,h3⟩:=h;exact⟨_,.QM ht hi he hx h1 h2,h3⟩
   ·rename_i y τ bA k i o he hx;obtain⟨j,h1,h2,h3⟩:=h;exact⟨_,.QN ht hi he hx h1 h2,h3⟩
   ·exact h.elim
  ·exact h.elim
 | index t x ix=>
  simp only at h;split at h
  ·rename_i s _ n ht hx hi;obtain⟨j,hj,h1,h2⟩:=h;exact⟨_,.MF hj ht hx hi h1,h2⟩
  ·rename_i m e _ _ _ _ cs _ n ht hx hi;split at h
   ·rename_i y he;obtain⟨j,v,h1,h2,h3,h4⟩:=h;exact⟨_,.ixA ht hx hi he h1 h2 h3,h4⟩
   ·exact h.elim
  ·exact h.elim
 | slice t x lo hi mx=>
  simp only at h;split at h
  ·rename_i s ht hx;obtain⟨l,u,h1,h2,h3,h4,h5⟩:=h;exact⟨_,.slS ht hx h1 h2 h3 h4,h5⟩
  ·rename_i e _ _ _ _ k xs ht hx;split at h
   ·rename_i y he
    cases hb:Nat.beq k y.sz with
    | false=>rw[hb] at h;exact h.elim
    | true=>
     rw[hb] at h;obtain⟨l,u,h1,h2,h3,h4,h5⟩:=h;exact⟨_,.slT ht hx he (ai hb) h1 h2 h3 h4,h5⟩
   ·exact h.elim
  ·rename_i e _ _ _ _ τ bA ht hx;split at h
   ·rename_i y R he hR
    cases hb:Nat.beq R.bA bA&&(Nat.beq R.k y.sz&&!R.iQ) with
    | false=>rw[hb] at h;exact h.elim
    | true=>
     rw[hb] at h;simp only[ah,cu] at hb;obtain⟨l,h1,h2,h3⟩:=h;exact⟨_,.slR ht hx he hR (ai hb.1) (ai hb.2.1) hb.2.2 h1 h2,h3⟩
   ·rename_i y yS rk jT qk x' he hR
    cases hb:Nat.beq jT bA&&Nat.beq rk y.sz with
    | false=>rw[hb] at h;exact h.elim
    | true=>
     rw[hb] at h;simp only[ah] at hb;obtain⟨l,h1,h2,h3⟩:=h;exact⟨_,.slV ht hx he hR (ai hb.1) (ai hb.2) rfl h1 h2,h3⟩
   ·exact h.elim
  ·exact h.elim
 | buildSlice t len parts=>
  simp only at h;split at h
  ·rename_i e _ _ _ _ ht;split at h
   ·rename_i y he;split at h
    ·rename_i xs hxs
     cases hb:Nat.beq xs.length len&&(Nat.ble (len*y.sz) 10000&&Nat.blt 0 y.sz) with
     | false=>rw[hb] at h;exact h.elim
     | true=>
      rw[hb] at h;simp only[ah] at hb;exact⟨_,.bsl ht he hxs (ai hb.1) (Nb hb.2.1) (Nb hb.2.2),h⟩
    ·exact h.elim
   ·exact h.elim
  ·exact h.elim
 | binOp bop t x y t'=>
  cases bop with
  | add=>
   simp only at h;split at h
   ·rename_i a b e1 e2;exact⟨_,.cat e1 e2 h.1,h.2⟩
   ·exact j9 h
  | rem=>
   simp only at h;split at h
   ·rename_i k a k' b e1 e2;obtain⟨rfl,h1,h2⟩:=h;refine⟨_,.pure (st:=st) (op:=.binOp .rem t x y t') ?_,h2⟩;unfold dQ;simp only[e1,e2];simp[WB,shI,I3,h1]
   ·exact h.elim
  | quo=>
   simp only at h;split at h
   ·rename_i k a k' b e1 e2;obtain⟨rfl,h1,h2⟩:=h;refine⟨_,.pure (st:=st) (op:=.binOp .quo t x y t') ?_,h2⟩;unfold dQ;simp only[e1,e2];simp[WB,shI,I3,h1]
   ·exact h.elim
  | _=>exact j9 h
 | convert src dst x=>
  simp only at h;split at h
  ·split at h
   ·split at h
    ·exact⟨_,.cvs ‹_› ‹_› ‹_› ‹_› ‹_›,h⟩
    ·exact h.elim
   ·exact h.elim
  ·exact j9 h
 | makeSlice t l c=>
  simp only at h;split at h
  ·rename_i e _ _ _ _ _ n _ n' ht hl hc;split at h
   ·rename_i y he;obtain⟨k,zs,⟨rfl,rfl⟩,h2,⟨h3,h4⟩,h5⟩:=h;exact⟨_,.mks ht he hl hc h2 h3 h4,h5⟩
   ·exact h.elim
  ·exact h.elim
 | call c=>
  obtain⟨cl,args,s7⟩:=c;simp only at h;split at h
  ·rename_i f;split at h
   ·rename_i g vs hg;rcases h with⟨dh,r,rs,fresh,h1,h2,h3,h4⟩|⟨mb,mr,dh,ib,ir,rv,ob,fF,nr,⟨h1,h2,h3⟩,h4,h5,h6⟩
    ·exact⟨_,.call hg h1 h2 h3,h4⟩
    ·exact⟨_,.xY hg h1 h2 h3 h4 h5,h6⟩
   ·exact h.elim
  ·split at h
   ·rename_i s x t t' e1 e2;obtain rfl:args=#[s,x]:=Array.toList_inj.1 e1;obtain rfl:s7=#[t,t']:=Array.toList_inj.1 e2
    cases hb:Nat.beq t t' with
    | false=>rw[hb] at h;exact h.elim
    | true=>
     rw[hb] at h;obtain rfl:=ai hb;rw[vM] at h;split at h
     ·rename_i e _ _ _ _ ht;split at h
      ·rename_i y k ys he hx;split at h
       ·rename_i hs
        cases IE:Nat.blt 0 y.sz with
        | false=>rw[IE] at h;exact h.elim
        | true=>
         rw[IE] at h;obtain⟨h1,h2,h3,h5⟩:=h;exact⟨_,.NC ht he hx hs h1 h2 h3 (Nb IE),h5⟩
       ·rename_i τ bA hs;split at h
        ·rename_i yS rk jT qk hR
         cases dK:Nat.beq jT bA&&(Nat.beq rk y.sz&&(Nat.beq yS e&&Nat.blt 0 y.sz)) with
         | false=>rw[dK] at h;exact h.elim
         | true=>
          rw[dK] at h;simp only[ah] at dK;obtain⟨h1,h2,h3,h5⟩:=h;exact⟨_,.NB ht he hx hs hR (ai dK.1) (ai dK.2.1) (ai dK.2.2.1) rfl h1 h2 h3 (Nb dK.2.2.2),h5⟩
        ·exact h.elim
       ·exact h.elim
      ·exact h.elim
     ·exact h.elim
   ·exact h.elim
  ·split at h
   ·rename_i x t e1 e2;obtain rfl:args=#[x]:=Array.toList_inj.1 e1;obtain rfl:s7=#[t]:=Array.toList_inj.1 e2;split at h
    ·rename_i e _ _ _ _ τ bA k i ht hx;split at h
     ·rename_i y yS rk jT qk he hR
      cases dK:Nat.beq jT bA&&(Nat.beq rk k&&Nat.beq rk y.sz) with
      | false=>rw[dK] at h;exact h.elim
      | true=>
       rw[dK] at h;simp only[ah] at dK;obtain⟨zs,h1,h2,h3⟩:=h;exact⟨_,.clr ht he hx hR (ai dK.1) (ai dK.2.1) (ai dK.2.2) rfl h1 h2,h3⟩
     ·exact h.elim
    ·exact h.elim
   ·exact h.elim
  ·split at h
   ·rename_i s x t t' e1 e2;obtain rfl:args=#[s,x]:=Array.toList_inj.1 e1;obtain rfl:s7=#[t,t']:=Array.toList_inj.1 e2;split at h
    ·rename_i e _ _ _ _ τ bA k ys ht hs hx;split at h
     ·rename_i y yS rk jT qk he hR
      cases dK:Nat.beq jT bA&&(Nat.beq rk y.sz&&Nat.beq yS e) with
      | false=>rw[dK] at h;exact h.elim
      | true=>
       rw[dK] at h;simp only[ah] at dK;obtain⟨h1,h2,h3⟩:=h;exact⟨_,.cpy ht he hx hs hR (ai dK.1) (ai dK.2.1) (ai dK.2.2) rfl h1 h2,h3⟩
     ·exact h.elim
    ·exact h.elim
   ·exact h.elim
  ·split at h
   ·rename_i x t e1 e2;obtain rfl:args=#[x]:=Array.toList_inj.1 e1;obtain rfl:s7=#[t]:=Array.toList_inj.1 e2;split at h
    ·exact h.elim
    ·exact j9 h
   ·exact j9 h
  ·exact j9 h
 | _=>exact j9 h
theorem AD {F:Nat->Prop}{w:World}:∀ {xs:List (List Tr)} {bs:List UInt8} {es:List (Cl 1)},uu xs=some bs->I9 F w es xs->∃ ns:List Int,es.flatMap Subtype.val=ns.map (Value.int .u8)/\ns.map (fun n=>UInt8.ofNat n.toNat)=bs/\ns.length=xs.length
 | [],bs,es,h,he=>by
  cases h
  have:es=[]:=List.eq_nil_of_length_eq_zero he.len;subst this;exact⟨[],rfl,rfl,rfl⟩
 | x :: xs,bs,es,h,he=>by
  unfold uu at h;split at h
  ·cases ‹_ :: _=[]›
  ·rename_i n r heq;obtain⟨rfl,rfl⟩:=List.cons.inj heq;split at h
   ·rename_i bs' hb
    cases h
    cases es with
    | nil=>have:=he.len;simp at this
    | cons e es=>
     have h0:=he.at_ 0 e _ rfl rfl;obtain⟨ns,h1,h2,h3⟩:=AD (es:=es) hb ⟨by have:=he.len;simpa using this,fun j vs ts e1 e2=>he.at_ (j+1) vs ts e1 e2⟩
     have hv:e.1=[Value.int .u8 n]:=by
      generalize e.1=q at h0
      cases h0 with
      | cons a b=>
       cases b
       cases a
       rfl
     exact⟨n :: ns,by rw[bZ,hv,h1];rfl,by rw[bW,h2],by simp[h3]⟩
   ·cases h
  ·cases h
theorem foldl_push:∀ (ns:List Int) (s:ByteArray),ns.foldl (fun s n=>s.push (UInt8.ofNat n.toNat)) s=⟨s.data++(ns.map fun n=>UInt8.ofNat n.toNat).toArray⟩
 | [],s=>by simp
 | n :: ns,s=>by
  rw[List.foldl_cons,foldl_push ns];simp[ByteArray.push]
theorem Zc (hT:dz P T){E:Env}{w:World}{n0 N m:Nat}{st:St}{a:Act}(r:cx O E w n0 N m st a){o:Oper}{src dst e:Nat}{x:Operand}{s1 b1 s2 b2 s3 b3:Nat}{z1 z2 z3:List Ce}{q1 q2 q3:List Lk}{xs:List (List Tr)}{bs:List UInt8}(ho:o.op=.convert src dst x)(h1:T src=some ⟨.iU e,s1,b1,z1,q1⟩)(h2:T dst=some ⟨.string,s2,b2,z2,q2⟩)(h3:T e=some ⟨.int .u8,s3,b3,z3,q3⟩)(h4:gS st (ev st x)=some (1,xs))(h5:uu xs=some bs):qK P E w st a o (.s ⟨bs.toArray⟩):=by
 have u1:=jt (hT.ty src _ h1) rfl;have u2:=kV (hT.ty dst _ h2) rfl;have u3:=Om (hT.ty e _ h3) rfl;obtain⟨ao,cap,es,hv,hn,VT,he,jh⟩:=By (kk:=1) r (dy r x) h4 (.inl rfl);obtain⟨ns,g1,g2,g3⟩:=AD h5 he;refine eZ (u:=.string ⟨bs.toArray⟩) ?_ rfl rfl;unfold execOp
 have hc:(convert src dst (.slice ao xs.length cap)).run P w=.ok (.string ⟨bs.toArray⟩) w:=by
  rw[run_convert_bytes_string w src dst e ao xs.length cap u1 u3 u2]
  cases ao with
  | none=>
   have:xs.length=0:=by have:=hn rfl;omega
   have hx:xs=[]:=List.eq_nil_of_length_eq_zero this;subst hx
   cases h5
   simp[Conv.bytesToString];rfl
  | some ad=>
   have hl:=run_loadCells_list (P:=P) w ad (ns.map (Value.int .u8)) fun j v hj=>jh ad rfl j v (by rw[g1];exact hj);rw[Lm,g3] at hl;rw[run_bytesToString w ad xs.length cap _ hl,foldl_push,g2];have S1:ByteArray.empty.data=#[]:=rfl;rw[S1];simp
 simp only[ho,hv,Sem.run_bind,Sem.run_pure,Result.andThen_ok,hc]
theorem tA [GlC O](hT:dz P T){E:Env}{w:World}{n0 N m id:Nat}{st:St}{a:Act}(r:cx O E w n0 N m st a){o:Oper}(hd:∀ x,o.dst=some x->x < N)(hf:nj st id)(hm:id+128<=m){d:Dl}(h:nw P T st id o.op d):lU P O o a w n0 N m st d:=by
 obtain⟨dst,op,type,pos,after,guard⟩:=o;simp only at h hd
 cases h with
 | pure hv=>exact(UM hT r (o:=⟨dst,op,type,pos,after,guard⟩) hv).done r hd
 | pick h1=>exact(UN r (o:=⟨dst,_,type,pos,after,guard⟩) rfl h1).done r hd
 | cat h1 h2 h3=>exact(Zd r (o:=⟨dst,_,type,pos,after,guard⟩) rfl h1 h2 h3).done r hd
 | cvs h1 h2 h3 h4 h5=>exact(Zc hT r (o:=⟨dst,_,type,pos,after,guard⟩) rfl h1 h2 h3 h4 h5).done r hd
 | alloc h1=>exact IX hT r (o:=⟨dst,_,type,pos,after,guard⟩) hd hf (by omega) rfl h1
 | box h1=>exact RW r (o:=⟨dst,_,type,pos,after,guard⟩) hd hf (by omega) rfl h1
 | qe h1 h2 h3 h4 h5 h6=>exact FK hT r (o:=⟨dst,_,type,pos,after,guard⟩) hd rfl h1 h2 h3 h4 h5 h6
 | qc h1 h2 h3 h4 h5 h6 h7 h8 h9 mZ II=>exact FI hT r (o:=⟨dst,_,type,pos,after,guard⟩) hd rfl h1 h2 h3 h4 h5 h6 h7 h8 h9 mZ II
 | qd h1 h2 h3 h4 h5 h6 h7 h8 h9 mZ II Cx h13=>exact FJ hT r (o:=⟨dst,_,type,pos,after,guard⟩) hd rfl h1 h2 h3 h4 h5 h6 h7 h8 h9 mZ II Cx h13
 | Ab h1 h2 h3 h4 h5 h6 h7 h8=>exact IU hT r (o:=⟨dst,_,type,pos,after,guard⟩) hd rfl h1 h2 h3 h4 h5 h6 h7 h8
 | Ac h1 h2 h3 h4 h5 h6 h7 h8 h9 mZ=>exact IV hT r (o:=⟨dst,_,type,pos,after,guard⟩) hd rfl h1 h2 h3 h4 h5 h6 h7 h8 h9 mZ
 | Aa h1 h2 h3 h4 h5 h6 h7 h8 h9 mZ=>exact IT hT r (o:=⟨dst,_,type,pos,after,guard⟩) hd rfl h1 h2 h3 h4 h5 h6 h7 h8 h9 mZ
 | ixT h1 h2 h3 h4 h5 h6 h7=>exact(Y9 hT r (o:=⟨dst,_,type,pos,after,guard⟩) rfl h1 h2 h3 h4 h5 h6 h7).done r hd
 | VE h1 h2 h3 h4 h5 h6 h7 h8 h9 mZ=>exact(Zb hT r (o:=⟨dst,_,type,pos,after,guard⟩) rfl h1 h2 h3 h4 h5 h6 h7 h8 h9 mZ).done r hd
 | QL h1 h2 h3 h4 h5 h6=>exact(UP hT r (o:=⟨dst,_,type,pos,after,guard⟩) rfl h1 h2 h3 h4 h5 h6).done r hd
 | QM h1 h2 h3 h4 h5 h6=>exact(UQ hT r (o:=⟨dst,_,type,pos,after,guard⟩) rfl h1 h2 h3 h4 h5 h6).done r hd
 | QN h1 h2 h3 h4 h5 h6=>exact(UR hT r (o:=⟨dst,_,type,pos,after,guard⟩) rfl h1 h2 h3 h4 h5 h6).done r hd
 | MF h0 h1 h2 h3 h4=>exact(Za hT r h0 (o:=⟨dst,_,type,pos,after,guard⟩) rfl h1 h2 h3 h4).done r hd
 | ixA h1 h2 h3 h4 h5 h6 h7=>exact(Y8 hT r (o:=⟨dst,_,type,pos,after,guard⟩) rfl h1 h2 h3 h4 h5 h6 h7).done r hd
 | slS h1 h2 h3 h4 h5 h6=>exact(Y4 hT r (o:=⟨dst,_,type,pos,after,guard⟩) rfl h1 h2 h3 h4 h5 h6).done r hd
 | slT h1 h2 h3 h4 h5 h6 h7 h8=>exact(Y3 hT r (o:=⟨dst,_,type,pos,after,guard⟩) rfl h1 h2 h3 h4 h5 h6 h7 h8).done r hd
 | bsl h1 h2 h3 h4 h5 h6=>exact RU hT r (o:=⟨dst,_,type,pos,after,guard⟩) hd hf (by omega) rfl h1 h2 h3 h4 h5 h6
 | slR h1 h2 h3 h4 h5 h6 h7 h8 h9=>exact(Y5 hT r (o:=⟨dst,_,type,pos,after,guard⟩) rfl h1 h2 h3 h4 h5 h6 h7 h8 h9).done r hd
 | slV h1 h2 h3 h4 h5 h6 h7 h8 h9=>exact RQ hT r (o:=⟨dst,_,type,pos,after,guard⟩) hd rfl h1 h2 h3 h4 h5 h6 h7 h8 h9
 | clr h1 h2 h3 h4 h5 h6 h7 h8 h9 mZ=>exact RS hT r (o:=⟨dst,_,type,pos,after,guard⟩) hd rfl h1 h2 h3 h4 h5 h6 h7 h8 h9 mZ
 | mks h1 h2 h3 h4 h5 h6 h7=>exact Nj hT r (o:=⟨dst,_,type,pos,after,guard⟩) hd hf (by omega) rfl h1 h2 h3 h4 h5 h6 h7
 | cpy h1 h2 h3 h4 h5 h6 h7 h8 h9 mZ II=>exact Nk hT r (o:=⟨dst,_,type,pos,after,guard⟩) hd rfl h1 h2 h3 h4 h5 h6 h7 h8 h9 mZ II
 | xY h1 h2 h3 h4 h5 h6=>exact IW r (o:=⟨dst,_,type,pos,after,guard⟩) hd hf hm rfl h1 h2 h3 h4 (PV h5).1 (PV h5).2 h6
 | call h1 h2 h3 h4=>exact Nl r (o:=⟨dst,_,type,pos,after,guard⟩) hd hf hm rfl h1 h2 h3 h4
 | NC h1 h2 h3 h4 h5 h6 h7 h8=>exact No hT r (o:=⟨dst,_,type,pos,after,guard⟩) hd hf (by omega) rfl h1 h2 h3 h4 h5 h6 h7 h8
 | NB h1 h2 h3 h4 h5 h6 h7 h8 h9 mZ II Cx h13=>exact Nn hT r (o:=⟨dst,_,type,pos,after,guard⟩) hd rfl h1 h2 h3 h4 h5 h6 h7 h8 h9 mZ II Cx h13
theorem wT {mr:List (Nat × Nat)}{id:Nat}:∀ {mb:List Nat} {ob:List (List Ce)} {b:Nat} {cs:List Ce},lk (rJ mr id mb ob) b=some cs->b∈mb
 | [],_,b,cs,h=>by
  unfold rJ at h
  cases h
 | _ :: _,[],b,cs,h=>by cases h
 | b0 :: mb,c :: ob,b,cs,h=>by
  unfold rJ at h;rw[cp] at h;split at h
  ·rename_i e;rw[e];exact aB
  ·exact aM _ (wT h)
theorem wS:∀ {mr:List (Nat × Nat)} {fF:List Row} {τ:Nat} {R:Row},lk (mz mr fF) τ=some R->τ∈mr.map (·.1)
 | [],_,τ,R,h=>by
  unfold mz at h
  cases h
 | (_,_) :: _,[],τ,R,h=>by cases h
 | (t0,v) :: mr,c :: fF,τ,R,h=>by
  unfold mz at h;rw[cp] at h;split at h
  ·rename_i e;rw[<- e];exact aB
  ·exact aM _ (wS h)
theorem xK {st:St}{mr:List (Nat × Nat)}:∀ {mb:List Nat} {ib:List (List Ce)} {b:Nat},zh st mr mb ib->b∈mb->∃ cs,lk st.bx b=some cs
 | b0 :: mb,cs :: ib,b,h,hb=>by
  obtain⟨h1,h2⟩:=h;rcases List.mem_cons.1 hb with rfl|hb
  ·split at h1
   ·rename_i us pz;exact⟨us,pz⟩
   ·exact h1.elim
  ·exact xK h2 hb
 | _ :: _,[],_,h,_=>h.elim
theorem Fy {st:St}:∀ {mr:List (Nat × Nat)} {ir:List Row} {τ:Nat},Gp st mr ir->τ∈mr.map (·.1)->∃ R,lk st.rw τ=some R
 | (t0,v) :: mr,R :: ir,τ,h,hb=>by
  obtain⟨h1,h2⟩:=h;rcases List.mem_cons.1 hb with rfl|hb
  ·split at h1
   ·rename_i us pz;exact⟨us,pz⟩
   ·exact h1.elim
  ·exact Fy h2 hb
 | (_,_) :: _,[],_,h,_=>h.elim
theorem rP {n:Nat}:∀ {l:List Nat},pM n l=true->n∈l
 | m :: r,h=>by
  unfold pM at h
  cases hb:Nat.beq m n with
  | true=>rw[ai hb];exact aB
  | false=>rw[hb] at h;exact aM _ (rP h)
theorem JV {st:St}{f:Operand}{vs:List AV}{mb:List Nat}{mr:List (Nat × Nat)}(h:NM T st f vs mb mr=true):(∀ b∈mb,b∈vs.flatMap AV.ed)/\∀ p∈mr,p.1∈(vs.flatMap AV.cP).map (·.1)++rowsOf st mb:=by
 unfold NM at h;simp only[ah] at h;obtain⟨_,_,_,h1,h2,_⟩:=h;exact⟨fun b hb=>rP (aN.1 h1 b hb),fun p hp=>rP (aN.1 h2 p hp)⟩
theorem KT {st dc:St}{mr:List (Nat × Nat)}:∀ {mb:List Nat} {ib:List (List Ce)},zh st mr mb ib->(∀ b∈mb,∀ cs,lk st.bx b=some cs->lk dc.bx b=some cs)->zh dc mr mb ib
 | [],[],_,_=>trivial
 | b :: mb,cs :: ib,h,ha=>by
  obtain⟨h1,h2⟩:=h;refine⟨?_,KT h2 fun b hb=>ha b (aM _ hb)⟩;split at h1
  ·rename_i us pz;rw[ha b aB us pz];exact h1
  ·exact h1.elim
 | [],_ :: _,h,_=>h.elim
 | _ :: _,[],h,_=>h.elim
theorem KN {st dc:St}:∀ {mr:List (Nat × Nat)} {ir:List Row},Gp st mr ir->(∀ p∈mr,∀ R,lk st.rw p.1=some R->lk dc.rw p.1=some R)->Gp dc mr ir
 | [],[],_,_=>trivial
 | (τ,v) :: mr,R :: ir,h,ha=>by
  obtain⟨h1,h2⟩:=h;refine⟨?_,KN h2 fun p hp=>ha p (aM _ hp)⟩;split at h1
  ·rename_i us pz;rw[ha (τ,v) aB us pz];exact h1
  ·exact h1.elim
 | [],_ :: _,h,_=>h.elim
 | (_,_) :: _,[],h,_=>h.elim
theorem zH {st dc:St}{ms:List (Nat × Nat)}:∀ {mb:List Nat} {ib:List (List Ce)},zh st ms mb ib->(∀ b∈mb,∀ cs,lk st.bx b=some cs->lk dc.bx b=some cs)->rowsOf dc mb=rowsOf st mb
 | [],_,_,_=>rfl
 | b :: mb,cs :: ib,h,ha=>by
  obtain⟨us,pz⟩:=xK h aB;unfold rowsOf;rw[pz,ha b aB us pz,zH h.2 fun b hb=>ha b (aM _ hb)]
 | _ :: _,[],h,_=>h.elim
theorem wv {st:St}{x:Nat}:∀ {mb:List Nat},x∈rowsOf st mb->∃ b∈mb,∃ cs,lk st.bx b=some cs/\∃ p∈cs.flatMap Ce.cP,p.1=x
 | b :: mb,h=>by
  unfold rowsOf at h;rcases bh.1 h with h|h
  ·split at h
   ·rename_i cs en;obtain⟨p,hp,e⟩:=bL.1 h;exact⟨b,aB,cs,en,p,hp,e⟩
   ·cases h
  ·obtain⟨b',h1,h2⟩:=wv h;exact⟨b',aM _ h1,h2⟩
theorem Zf {st:St}{g:Nat}{vs:List AV}{mb:List Nat}{mr:List (Nat × Nat)}(h:NM T st (.func g) vs mb mr=true)(hg:pM g wrI=true):∀ p∈mr,∃ R,lk st.rw p.1=some R/\R.ty=tyI:=fun p hp=>by
 unfold NM at h;simp only[ah] at h;have h:=h.2.2.2.2.2;unfold tyM at h;simp only[hg] at h;have:=aN.1 h p hp;split at this
 ·rename_i R hR;exact⟨R,hR,ai this⟩
 ·cases this
theorem Yh {st dc:St}{mr:List (Nat × Nat)}(hR:∀ p∈mr,∀ R,lk st.rw p.1=some R->lk dc.rw p.1=some R):∀ {f:Operand},tyM st mr f=true->tyM dc mr f=true:=fun {f} h=>by
 unfold tyM at h ⊢;split
 ·rename_i g;simp only at h;split
  ·rename_i hg;simp only[hg] at h;refine aN.2 fun p hp=>?_;have:=aN.1 h p hp;split at this
   ·rename_i R hr;rw[hR p hp R hr];exact this
   ·cases this
  ·rfl
 ·rfl
theorem Zg {st dc:St}{f:Operand}{vs:List AV}{mb:List Nat}{mr ms:List (Nat × Nat)}{ib:List (List Ce)}(h:NM T st f vs mb mr=true)(hB:zh st ms mb ib)(ha:∀ b∈mb,∀ cs,lk st.bx b=some cs->lk dc.bx b=some cs)(hR:∀ p∈mr,∀ R,lk st.rw p.1=some R->lk dc.rw p.1=some R):NM T dc f vs mb mr=true:=by
 have:rowsOf dc mb=rowsOf st mb:=zH hB ha;unfold NM at h ⊢;rw[this];simp only[ah] at h ⊢;exact⟨h.1,h.2.1,h.2.2.1,h.2.2.2.1,h.2.2.2.2.1,Yh hR h.2.2.2.2.2⟩
theorem OA {st:St}{id:Nat}{op:Op}{d:Dl}(h:nw P T st id op d) :
  (∀ b cs,lk d.bs b=some cs->(cH T op=true/\∃ c0,lk st.bx b=some c0)\/(id<=b/\b < id+128))/\(∀ τ R,lk d.rs τ=some R->(cH T op=true/\∃ R0,lk st.rw τ=some R0)\/(id<=τ/\τ < id+128))/\(mo op=false->d.bs=[]/\d.rs=[]):=by
 have one:∀ {α:Type} {i:Nat} {x y:α} {j:Nat},lk [(i,x)] j=some y->j=i:=fun {α i x y j} h=>by
  rw[cp] at h;split at h
  ·rename_i e;exact e.symm
  ·cases h
 cases h with
 | qe h1 h2 h3 h4 h5 h6=>exact⟨fun b cs h=>.inl ⟨rfl,(by rw[one h];exact⟨_,h5⟩)⟩,fun _ _ h=>(by cases h),fun h=>(by cases h)⟩
 | qc h1 h2 h3 h4 h5 h6 h7 h8 h9 mZ=>exact⟨fun _ _ h=>(by cases h),fun τ R h=>.inl ⟨rfl,(by rw[one h];exact⟨_,h5⟩)⟩,fun h=>(by cases h)⟩
 | qd h1 h2 h3 h4 h5=>exact⟨fun _ _ h=>(by cases h),fun τ R h=>.inl ⟨rfl,(by rw[one h];exact⟨_,h5⟩)⟩,fun h=>(by cases h)⟩
 | NB h1 h2 h3 h4 h5=>exact⟨fun _ _ h=>(by cases h),fun τ R h=>.inl ⟨rfl,(by rw[one h];exact⟨_,h5⟩)⟩,fun h=>(by cases h)⟩
 | alloc h1=>exact⟨fun b cs h=>.inr (by rw[one h];omega),fun _ _ h=>(by cases h),fun h=>(by cases h)⟩
 | box h1=>exact⟨fun b cs h=>.inr (by rw[one h];omega),fun _ _ h=>(by cases h),fun h=>(by cases h)⟩
 | bsl h1=>exact⟨fun _ _ h=>(by cases h),fun b cs h=>.inr (by rw[one h];omega),fun h=>by cases h⟩
 | NC h1=>exact⟨fun _ _ h=>(by cases h),fun b cs h=>.inr (by rw[one h];omega),fun h=>by cases h⟩
 | @xY f args s7 g vs dh mb mr ib ir rv ob fF nr h1 h2 h3 h4 h5 h6=>
  have hw:cH T (.call ⟨.value f,args,s7⟩)=true:=by
   unfold NM at h5;rw[ah] at h5;exact h5.1
  refine⟨fun b cs h=>.inl ⟨hw,?_⟩,fun τ R h=>?_,fun h=>by cases h⟩
  ·exact xK h3 (wT h)
  ·rw[cB] at h;split at h
   ·rename_i x hx;exact .inl ⟨hw,Fy h4 (wS hx)⟩
   ·rw[fc] at h;split at h
    ·have h7:=(an.1 h).1;have:=h6.uX;exact .inr (by omega)
    ·cases h
 | call h1 h2 h3 h4=>
  refine⟨fun _ _ h=>(by cases h),fun τ R h=>.inr ?_,fun h=>by cases h⟩;rw[fc] at h;split at h
  ·have h5:=(an.1 h).1;have:=h3.uX;omega
  ·cases h
 | pure h1=>exact⟨fun _ _ h=>(by cases h),fun _ _ h=>(by cases h),fun _=>⟨rfl,rfl⟩⟩
 | cat h1=>exact⟨fun _ _ h=>(by cases h),fun _ _ h=>(by cases h),fun _=>⟨rfl,rfl⟩⟩
 | cvs h1=>exact⟨fun _ _ h=>(by cases h),fun _ _ h=>(by cases h),fun _=>⟨rfl,rfl⟩⟩
 | pick h1=>exact⟨fun _ _ h=>(by cases h),fun _ _ h=>(by cases h),fun _=>⟨rfl,rfl⟩⟩
 | Ab h1=>exact⟨fun _ _ h=>(by cases h),fun _ _ h=>(by cases h),fun _=>⟨rfl,rfl⟩⟩
 | Ac h1=>exact⟨fun _ _ h=>(by cases h),fun _ _ h=>(by cases h),fun _=>⟨rfl,rfl⟩⟩
 | Aa h1=>exact⟨fun _ _ h=>(by cases h),fun _ _ h=>(by cases h),fun _=>⟨rfl,rfl⟩⟩
 | ixT h1=>exact⟨fun _ _ h=>(by cases h),fun _ _ h=>(by cases h),fun _=>⟨rfl,rfl⟩⟩
 | VE h1=>exact⟨fun _ _ h=>(by cases h),fun _ _ h=>(by cases h),fun _=>⟨rfl,rfl⟩⟩
 | QL h1=>exact⟨fun _ _ h=>(by cases h),fun _ _ h=>(by cases h),fun _=>⟨rfl,rfl⟩⟩
 | QM h1=>exact⟨fun _ _ h=>(by cases h),fun _ _ h=>(by cases h),fun _=>⟨rfl,rfl⟩⟩
 | QN h1=>exact⟨fun _ _ h=>(by cases h),fun _ _ h=>(by cases h),fun _=>⟨rfl,rfl⟩⟩
 | MF h0 h1=>exact⟨fun _ _ h=>(by cases h),fun _ _ h=>(by cases h),fun _=>⟨rfl,rfl⟩⟩
 | ixA h1=>exact⟨fun _ _ h=>(by cases h),fun _ _ h=>(by cases h),fun _=>⟨rfl,rfl⟩⟩
 | slS h1=>exact⟨fun _ _ h=>(by cases h),fun _ _ h=>(by cases h),fun _=>⟨rfl,rfl⟩⟩
 | slT h1=>exact⟨fun _ _ h=>(by cases h),fun _ _ h=>(by cases h),fun _=>⟨rfl,rfl⟩⟩
 | slR h1=>exact⟨fun _ _ h=>(by cases h),fun _ _ h=>(by cases h),fun _=>⟨rfl,rfl⟩⟩
 | slV h1 h2 h3 h4=>exact⟨fun _ _ h=>(by cases h),fun τ R h=>.inl ⟨(by simp[cH,h1]),(by rw[one h];exact⟨_,h4⟩)⟩,fun h=>(by cases h)⟩
 | clr h1 h2 h3 h4=>exact⟨fun _ _ h=>(by cases h),fun τ R h=>.inl ⟨rfl,(by rw[one h];exact⟨_,h4⟩)⟩,fun h=>(by cases h)⟩
 | mks h1=>exact⟨fun _ _ h=>(by cases h),fun b cs h=>.inr (by rw[one h];omega),fun h=>by cases h⟩
 | cpy h1 h2 h3 h4 h5=>exact⟨fun _ _ h=>(by cases h),fun τ R h=>.inl ⟨rfl,(by rw[one h];exact⟨_,h5⟩)⟩,fun h=>(by cases h)⟩
def SP (st dc:St)(v:AV):Prop:=(∀ b∈v.ed,∀ cs,lk st.bx b=some cs->lk dc.bx b=some cs/\∀ p∈cs.flatMap Ce.cP,∀ R,lk st.rw p.1=some R->lk dc.rw p.1=some R)/\(∀ p∈v.cP,∀ R,lk st.rw p.1=some R->lk dc.rw p.1=some R)
theorem DG {st dc:St}{c:Ce}{x:Tr}(h:vW st c=some x)(ha:∀ p∈c.cP,∀ R,lk st.rw p.1=some R->lk dc.rw p.1=some R):vW dc c=some x:=by
 cases c with
 | row τ bA=>
  show(match lk dc.rw τ with
   | some R=>bif Nat.beq R.bA bA&&R.dp.isNone then some (Tr.sl R.k R.xs) else none
   | none=>none)=some x
  have h:(match lk st.rw τ with
   | some R=>bif Nat.beq R.bA bA&&R.dp.isNone then some (Tr.sl R.k R.xs) else none
   | none=>none)=some x:=h
  split at h
  ·rename_i R hR;rw[ha (τ,bA) aB R hR];exact h
  ·cases h
 | _=>exact h
theorem pB {st dc:St}{v:AV}{k:Nat}{xs:List (List Tr)}(h:gS st v=some (k,xs))(ha:SP st dc v):gS dc v=some (k,xs):=by
 unfold gS at h ⊢;split at h
 ·rename_i c;split at h
  ·rename_i k' tf hc;simp only[DG hc ha.2];exact h
  ·cases h
 ·cases h
theorem Vl {st dc:St}{v:AV}{n:Nat}(h:MD st v=some n)(ha:SP st dc v):MD dc v=some n:=by
 have els:∀ {v},SP st dc v->(match gS st v with
   | some (_,xs)=>some xs.length
   | none=>none)=some n->(match gS dc v with
   | some (_,xs)=>some xs.length
   | none=>none)=some n:=fun {v} ha h=>by
  split at h
  ·rename_i k xs e;rw[pB e ha];exact h
  ·cases h
 cases v with
 | c c=>
  cases c with
  | row τ bA=>
   unfold MD at h ⊢;simp only at h ⊢;split at h
   ·rename_i R hR;rw[ha.2 (τ,bA) aB R hR];exact h
   ·cases h
  | _=>exact els ha h
 | _=>exact els ha h
theorem AA {st dc:St}{i:Nat}:∀ {us:List Ce} {o:Nat} {z:List Tr × List (Nat × Nat × Nat × Nat)},n7 st i o us=some z->(∀ p∈us.flatMap Ce.cP,∀ R,lk st.rw p.1=some R->lk dc.rw p.1=some R)->n7 dc i o us=some z
 | [],_,_,h,_=>h
 | c :: us,o,z,h,ha=>by
  rw[bZ] at ha;unfold n7 at h ⊢;split at h
  ·rename_i t ts nl h1 h2;rw[DG h1 fun p hp=>ha p (bR _ hp),AA h2 fun p hp=>ha p (bT _ hp)];exact h
  ·cases h
theorem FY {v:AV}{us:List Ce}(h:gT v=some us):∀ p∈us.flatMap Ce.cP,p∈v.cP:=by
 unfold gT at h;split at h
 ·cases h
  intro p hp;simpa [AV.cP,AV.ig] using hp
 ·cases h
  intro p hp;exact hp
 ·cases h
theorem KS {st dc:St}{x y:Ce}(h:Gr st x y)(ha:∀ p∈x.cP,∀ R,lk st.rw p.1=some R->lk dc.rw p.1=some R):Gr dc x y:=by
 unfold Gr at h;split at h
 ·exact h
 ·exact h
 ·exact h
 ·rename_i τ bA y;split at h
  ·rename_i R hR;unfold Gr;simp only[ha (τ,bA) aB R hR];exact h
  ·exact h.elim
 ·exact h.elim
theorem KP {st dc:St}:∀ {xs ys:List Ce},NK st xs ys->(∀ p∈xs.flatMap Ce.cP,∀ R,lk st.rw p.1=some R->lk dc.rw p.1=some R)->NK dc xs ys
 | [],[],_,_=>trivial
 | x :: xs,y :: ys,h,ha=>by
  rw[bZ] at ha;exact⟨KS h.1 fun p hp=>ha p (bR _ hp),KP h.2 fun p hp=>ha p (bT _ hp)⟩
 | [],_ :: _,h,_=>h.elim
 | _ :: _,[],h,_=>h.elim
theorem CH {st dc:St}:∀ {cs:List (Nat × Nat)} {ds:List (List Tr × Nat)},NJ st cs ds->(∀ b∈cs.map (·.1),∀ us,lk st.bx b=some us->lk dc.bx b=some us)->NJ dc cs ds
 | [],[],_,_=>trivial
 | (b,o) :: cs,(ys,o') :: ds,h,ha=>by
  obtain⟨⟨rfl,h1⟩,h2⟩:=h;refine⟨⟨rfl,?_⟩,CH h2 fun b hb=>ha b (aM _ hb)⟩;split at h1
  ·rename_i us pz;rw[ha b aB us pz];exact h1
  ·exact h1.elim
 | [],_ :: _,h,_=>h.elim
 | _ :: _,[],h,_=>h.elim
theorem F1 {st dc:St}:∀ {xs:List Operand},(∀ x∈xs,ev dc x=ev st x)->xX dc xs=xX st xs
 | [],_=>rfl
 | x :: xs,h=>by
  unfold xX;rw[h x aB,F1 fun y hy=>h y (aM _ hy)]
theorem abY {st dc:St}{x y:AV}(h:Fit st x y)(ha:SP st dc x):Fit dc x y:=by
 unfold Fit at h;split at h
 ·exact KS h ha.2
 ·exact KP h ha.2
 ·exact h
 ·exact h
 ·exact CH h fun b hb us pz=>(ha.1 b hb us pz).1
 ·exact h
 ·exact⟨h.1,CH h.2 fun b hb us pz=>(ha.1 b hb us pz).1⟩
 ·exact h.elim
theorem KL {st dc:St}:∀ {xs ys:List AV},Fits st xs ys->(∀ x∈xs,SP st dc x)->Fits dc xs ys
 | [],[],_,_=>trivial
 | x :: _xs,_y :: _ys,h,ha=>⟨abY h.1 (ha x aB),KL h.2 fun z hz=>ha z (aM _ hz)⟩
 | [],_ :: _,h,_=>h.elim
 | _ :: _,[],h,_=>h.elim
theorem F5 {st dc:St}{as0 vs:List AV}{fv:AV}{g:Nat}(h1:pY as0 fv=some (g,vs))(hf:SP st dc fv)(hA:∀ v∈as0,SP st dc v):∀ v∈vs,SP st dc v:=fun v hv=>by
 unfold pY at h1;split at h1
 ·rename_i g' caps
  cases h1
  rcases bh.1 hv with hv|hv
  ·exact hA v hv
  ·obtain⟨c,hc,rfl⟩:=bL.1 hv
   exact⟨fun b hb=>hf.1 b (by
    obtain rfl:b=c.1:=by simpa [AV.ed,AV.iu] using hb
    exact bL.2 ⟨c,hc,rfl⟩),fun p hp=>by cases hp⟩
 ·rename_i g' caps
  cases h1
  rcases bh.1 hv with hv|hv
  ·exact hA v hv
  ·obtain⟨c,hc,rfl⟩:=bL.1 hv;exact⟨fun b hb=>(by cases hb),fun p hp=>by cases hp⟩
 ·cases h1
theorem zX {st dc:St}{pl:Nat->Option (Nat × Nat)}:∀ {parts:List (Nat × Operand)} {cs:List Ce},(∀ p∈parts,ev dc p.2=ev st p.2)->kq dc pl parts cs=kq st pl parts cs
 | [],_,_=>rfl
 | (j,x) :: parts,cs,h=>by
  have ih:∀ cs,kq dc pl parts cs=kq st pl parts cs:=fun cs=>zX fun p hp=>h p (aM _ hp);have hx:ev dc x=ev st x:=h (j,x) aB;unfold kq;simp only[hx,ih]
theorem zW {st dc:St}{sz:Nat}:∀ {parts:List (Nat × Operand)} {i:Nat},(∀ p∈parts,ev dc p.2=ev st p.2)->jU dc sz i parts=jU st sz i parts
 | [],_,_=>rfl
 | (j,x) :: parts,i,h=>by
  have ih:∀ i,jU dc sz i parts=jU st sz i parts:=fun i=>zW fun p hp=>h p (aM _ hp);have hx:ev dc x=ev st x:=h (j,x) aB;unfold jU;simp only[hx,ih]
theorem ng {st dc:St}{x:Option Operand}{z n:Nat}(h:bound st x z n)(ha:∀ o,x=some o->ev dc o=ev st o):bound dc x z n:=by
 cases x with
 | none=>exact h
 | some x=>
  unfold bound at h ⊢;simp only at h ⊢;rw[ha x rfl];exact h
theorem PL {st dc:St}{op:Op}{v:AV}(h:dQ T st op=some v)(he:∀ x∈op.operands,ev dc x=ev st x)(ha:mo op=true->∀ x∈op.operands,SP st dc (ev st x)):dQ T dc op=some v:=by
 cases op with
 | load t x=>
  have h1:=he x (by simp[Op.operands]);have h2:=ha rfl x (by simp[Op.operands]);unfold dQ at h ⊢;simp only at h ⊢;rw[h1];split at h
  ·split at h
   ·rename_i y hy b o e;rw[e] at h2;split at h
    ·rename_i cs en;rw[(h2.1 b aB cs en).1];exact h
    ·cases h
   ·exact h
   ·cases h
  ·cases h
 | call c=>
  obtain⟨cl,args,s7⟩:=c;unfold dQ at h ⊢;simp only at h ⊢;split at h
  ·rename_i x t e1 e2;obtain rfl:args=#[x]:=Array.toList_inj.1 e1;have h1:=he x (by simp[Op.operands,Call.operands]);have h2:=ha rfl x (by simp[Op.operands,Call.operands]);rw[h1];split at h
   ·exact h
   ·split at h
    ·rename_i n e;rw[Vl e h2];exact h
    ·cases h
   ·cases h
  ·rename_i x y t1 t2 e1 e2;obtain rfl:args=#[x,y]:=Array.toList_inj.1 e1;have h1:=he x (by simp[Op.operands,Call.operands]);have h2:=he y (by simp[Op.operands,Call.operands]);rw[h1,h2];exact h
  ·rename_i x y t1 t2 e1 e2;obtain rfl:args=#[x,y]:=Array.toList_inj.1 e1;have h1:=he x (by simp[Op.operands,Call.operands]);have h2:=he y (by simp[Op.operands,Call.operands]);rw[h1,h2];exact h
  ·cases h
 | build t ps=>
  have h1:∀ p∈ps.toList,ev dc p.2=ev st p.2:=fun p hp=>he p.2 (by simp only[Op.operands,List.mem_toArray];exact bL.2 ⟨p,hp,rfl⟩);unfold dQ at h ⊢;simp only[zX h1] at h ⊢;exact h
 | move x=>
  have h1:=he x (by simp[Op.operands]);unfold dQ at h ⊢;simp only[h1] at h ⊢;exact h
 | assign x=>
  have h1:=he x (by simp[Op.operands]);unfold dQ at h ⊢;simp only[h1] at h ⊢;exact h
 | nilCheck x=>
  have h1:=he x (by simp[Op.operands]);unfold dQ at h ⊢;simp only[h1] at h ⊢;exact h
 | binOp op t x y t'=>
  have h1:=he x (by simp[Op.operands]);have h2:=he y (by simp[Op.operands]);unfold dQ at h ⊢;simp only[h1,h2] at h ⊢;exact h
 | unOp op t x=>
  have h1:=he x (by simp[Op.operands]);unfold dQ at h ⊢;simp only[h1] at h ⊢;exact h
 | convert s t x=>
  have h1:=he x (by simp[Op.operands]);unfold dQ at h ⊢;simp only[h1] at h ⊢;exact h
 | field t x f=>
  have h1:=he x (by simp[Op.operands]);unfold dQ at h ⊢;simp only[h1] at h ⊢;exact h
 | fieldAddr t x f=>
  have h1:=he x (by simp[Op.operands]);unfold dQ at h ⊢;simp only[h1] at h ⊢;exact h
 | extract x i=>
  have h1:=he x (by simp[Op.operands]);unfold dQ at h ⊢;simp only[h1] at h ⊢;exact h
 | makeFunc fn first caps=>
  have h1:∀ x∈caps.toList,ev dc x=ev st x:=fun x hx=>he x (by simp only[Op.operands];exact Array.mem_append.2 (.inr (Array.mem_toList_iff.1 hx)));unfold dQ at h ⊢;simp only[F1 h1] at h ⊢;exact h
 | _=>cases h
theorem OB {st dc:St}{id:Nat}{op:Op}{d:Dl}(h:nw P T st id op d)(he:∀ x∈op.operands,ev dc x=ev st x)(ha:mo op=true->∀ x∈op.operands,SP st dc (ev st x)):nw P T dc id op d:=by
 cases h with
 | pure h1=>exact .pure (PL h1 he ha)
 | @pick c a b t h1=>
  rw[<- he a (by simp[Op.operands]),<- he b (by simp[Op.operands])];exact .pick (by rw[he c (by simp[Op.operands])];exact h1)
 | @cvs src dst e x s1 b1 s2 b2 s3 b3 z1 z2 z3 q1 q2 q3 xs bs h1 h2 h3 h4 h5=>
  have g:=he x (by simp[Op.operands]);exact .cvs h1 h2 h3 (by rw[g];exact pB h4 (ha rfl x (by simp[Op.operands]))) h5
 | @cat t t' x y a b h1 h2 h3=>exact .cat (by rw[he x (by simp[Op.operands])];exact h1) (by rw[he y (by simp[Op.operands])];exact h2) h3
 | alloc h1=>exact .alloc h1
 | @box e x cs h1=>exact .box (by rw[he x (by simp[Op.operands])];exact h1)
 | @qe t a x y us b o cs h1 h2 h3 h4 h5 h6=>
  have q:=ha rfl a (by simp[Op.operands]);rw[h4] at q;exact .qe h1 (by rw[he x (by simp[Op.operands])];exact h2) h3 (by rw[he a (by simp[Op.operands])];exact h4) (q.1 b aB cs h5).1 h6
 | @qc t a x y us ts τ bA k i o R xs h1 h2 h3 h4 h5 h6 h7 h8 h9 mZ II=>
  have q:=ha rfl a (by simp[Op.operands]);rw[h4] at q;exact .qc h1 (by rw[he x (by simp[Op.operands])];exact h2) h3 (by rw[he a (by simp[Op.operands])];exact h4) (q.2 (τ,bA) aB R h5) h6 h7 h8 h9 mZ II
 | @qd t a x y us ts nl τ bA k i o R d xs h1 h2 h3 h4 h5 h6 h7 h8 h9 mZ II Cx h13=>
  have q:=ha rfl a (by simp[Op.operands]);rw[h4] at q;have q2:=ha rfl x (by simp[Op.operands]);exact .qd h1 (by rw[he x (by simp[Op.operands])];exact h2) h3 (by rw[he a (by simp[Op.operands])];exact h4) (q.2 (τ,bA) aB R h5) h6 h7 h8 (AA h9 fun p hp=>q2.2 p (FY h2 p hp)) mZ II Cx h13
 | @Ab t a y τ bA k i o R xs v h1 h2 h3 h4 h5 h6 h7 h8=>
  have q:=ha rfl a (by simp[Op.operands]);rw[h1] at q;exact .Ab (by rw[he a (by simp[Op.operands])];exact h1) h2 (q.2 (τ,bA) aB R h3) h4 h5 h6 h7 h8
 | @Ac t a y τ bA k i o R d xs v h1 h2 h3 h4 h5 h6 h7 h8 h9 mZ=>
  have q:=ha rfl a (by simp[Op.operands]);rw[h1] at q;exact .Ac (by rw[he a (by simp[Op.operands])];exact h1) h2 (q.2 (τ,bA) aB R h3) h4 h5 h6 h7 h8 h9 mZ
 | @Aa t a y τ bA k i o ρ u R d h1 h2 h3 h4 h5 h6 h7 h8 h9 mZ=>
  have q:=ha rfl a (by simp[Op.operands]);rw[h1] at q;exact .Aa (by rw[he a (by simp[Op.operands])];exact h1) h2 (q.2 (τ,bA) aB R h3) h4 h5 h6 h7 h8 h9 mZ
 | @ixT t e x ix s b z q kk n y k xs j ts h1 h2 h3 h4 h5 h6 h7=>exact .ixT h1 (by rw[he ix (by simp[Op.operands])];exact h2) h3 (by rw[he x (by simp[Op.operands])];exact h4) h5 h6 h7
 | @VE t e x ix s b z q kk n y τ bA R j h1 h2 h3 h4 h5 h6 h7 h8 h9 mZ=>
  have g:=ha rfl x (by simp[Op.operands]);rw[h4] at g;exact .VE h1 (by rw[he ix (by simp[Op.operands])];exact h2) h3 (by rw[he x (by simp[Op.operands])];exact h4) (g.2 (τ,bA) aB R h5) h6 h7 h8 h9 mZ
 | @QL t m e x ix s b z q kk n y g o j h1 h2 h3 h4 h5 h6=>exact .QL h1 (by rw[he ix (by simp[Op.operands])];exact h2) h3 (by rw[he x (by simp[Op.operands])];exact h4) h5 h6
 | @QM t m e x ix s b z q kk n y xs o j h1 h2 h3 h4 h5 h6=>exact .QM h1 (by rw[he ix (by simp[Op.operands])];exact h2) h3 (by rw[he x (by simp[Op.operands])];exact h4) h5 h6
 | @QN t m e x ix s b z q kk n y τ bA k i o j h1 h2 h3 h4 h5 h6=>exact .QN h1 (by rw[he ix (by simp[Op.operands])];exact h2) h3 (by rw[he x (by simp[Op.operands])];exact h4) h5 h6
 | @MF t x ix s b z q kk n str j h0 h1 h2 h3 h4=>exact .MF h0 h1 (by rw[he x (by simp[Op.operands])];exact h2) (by rw[he ix (by simp[Op.operands])];exact h3) h4
 | @ixA t m e x ix s b z q kk n y cs j v h1 h2 h3 h4 h5 h6 h7=>exact .ixA h1 (by rw[he x (by simp[Op.operands])];exact h2) (by rw[he ix (by simp[Op.operands])];exact h3) h4 h5 h6 h7
 | @slS t x lo hi s b z q str l h h1 h2 h3 h4 h5 h6=>exact .slS h1 (by rw[he x (by simp[Op.operands])];exact h2) (ng h3 fun o e=>he o (by simp[Op.operands,e])) (ng h4 fun o e=>he o (by simp[Op.operands,e])) h5 h6
 | @slT t e x lo hi s b z q y k xs l h h1 h2 h3 h4 h5 h6 h7 h8=>exact .slT h1 (by rw[he x (by simp[Op.operands])];exact h2) h3 h4 (ng h5 fun o e=>he o (by simp[Op.operands,e])) (ng h6 fun o e=>he o (by simp[Op.operands,e])) h7 h8
 | @slR t e x lo s b z q y τ bA R l h1 h2 h3 h4 h5 h6 h7 h8 h9=>
  have g:=ha rfl x (by simp[Op.operands]);rw[h2] at g;exact .slR h1 (by rw[he x (by simp[Op.operands])];exact h2) h3 (g.2 (τ,bA) aB R h4) h5 h6 h7 (ng h8 fun o e=>he o (by simp[Op.operands,e])) h9
 | @slV t e x hi s b z q y τ bA R h h1 h2 h3 h4 h5 h6 h7 h8 h9=>
  have g:=ha rfl x (by simp[Op.operands]);rw[h2] at g;exact .slV h1 (by rw[he x (by simp[Op.operands])];exact h2) h3 (g.2 (τ,bA) aB R h4) h5 h6 h7 (ng h8 fun o e=>he o (by simp[Op.operands,aY e])) h9
 | @clr x t e s b z q y τ bA k i R zs h1 h2 h3 h4 h5 h6 h7 h8 h9 mZ=>
  have g:=ha rfl x (by simp[Op.operands,Call.operands]);rw[h3] at g;exact .clr h1 h2 (by rw[he x (by simp[Op.operands,Call.operands])];exact h3) (g.2 (τ,bA) aB R h4) h5 h6 h7 h8 h9 mZ
 | @mks t e l c s b z q y kl kc n zs h1 h2 h3 h4 h5 h6 h7=>exact .mks h1 h2 (by rw[he l (by simp[Op.operands])];exact h3) (by rw[he c (by simp[Op.operands])];exact h4) h5 h6 h7
 | @cpy s x t t' e sz b z q y k ys τ bA R h1 h2 h3 h4 h5 h6 h7 h8 h9 mZ II=>
  have g:=ha rfl s (by simp[Op.operands,Call.operands]);rw[h4] at g;exact .cpy h1 h2 (by rw[he x (by simp[Op.operands,Call.operands])];exact h3) (by rw[he s (by simp[Op.operands,Call.operands])];exact h4) (g.2 (τ,bA) aB R h5) h6 h7 h8 h9 mZ II
 | @bsl t e len parts s b z q y xs h1 h2 h3 h4 h5 h6=>
  have g:∀ p∈parts.toList,ev dc p.2=ev st p.2:=fun p hp=>he p.2 (by simp only[Op.operands,List.mem_toArray];exact bL.2 ⟨p,hp,rfl⟩);exact .bsl h1 h2 (by rw[zW g];exact h3) h4 h5 h6
 | @call f args s7 g vs dh r rs fresh h1 h2 h3 h4=>
  have e1:args.toList.map (ev dc)=args.toList.map (ev st):=List.map_congr_left fun x hx=>he x (by simp only[Op.operands,Call.operands];exact Array.mem_append.2 (.inr (Array.mem_toList_iff.1 hx)));have ef:ev dc f=ev st f:=he f (by simp[Op.operands,Call.operands]);refine .call (by rw[e1,ef];exact h1) (KL h2 fun v hv=>?_) h3 h4
  exact F5 h1 (ha rfl f (by simp[Op.operands,Call.operands])) (fun v hv=>by
   obtain⟨x,hx,rfl⟩:=bL.1 hv;exact ha rfl x (by simp only[Op.operands,Call.operands];exact Array.mem_append.2 (.inr (Array.mem_toList_iff.1 hx)))) v hv
 | @xY f args s7 g vs dh mb mr ib ir rv ob fF nr h1 h2 h3 h4 h5 h6=>
  have e1:args.toList.map (ev dc)=args.toList.map (ev st):=List.map_congr_left fun x hx=>he x (by simp only[Op.operands,Call.operands];exact Array.mem_append.2 (.inr (Array.mem_toList_iff.1 hx)));have ef:ev dc f=ev st f:=he f (by simp[Op.operands,Call.operands])
  have hA:∀ v∈vs,SP st dc v:=F5 h1 (ha rfl f (by simp[Op.operands,Call.operands])) fun v hv=>by
   obtain⟨x,hx,rfl⟩:=bL.1 hv;exact ha rfl x (by simp only[Op.operands,Call.operands];exact Array.mem_append.2 (.inr (Array.mem_toList_iff.1 hx)))
  obtain⟨k1,k2⟩:=JV h5
  have hB:∀ b∈mb,∀ cs,lk st.bx b=some cs->lk dc.bx b=some cs/\∀ p∈cs.flatMap Ce.cP,∀ R,lk st.rw p.1=some R->lk dc.rw p.1=some R:=fun b hb cs en=>by
   obtain⟨v,hv,hbv⟩:=List.mem_flatMap.1 (k1 b hb);exact(hA v hv).1 b hbv cs en
  have hR:∀ q∈mr,∀ R,lk st.rw q.1=some R->lk dc.rw q.1=some R:=fun q hq R hR=>by
   rcases bh.1 (k2 q hq) with h|h
   ·obtain⟨p,hp,e⟩:=bL.1 h;obtain⟨v,hv,hpv⟩:=List.mem_flatMap.1 hp;rw[<- e] at hR ⊢;exact(hA v hv).2 p hpv R hR
   ·obtain⟨b,hb,cs,en,p,hp,e⟩:=wv h;rw[<- e] at hR ⊢;exact(hB b hb cs en).2 p hp R hR
  have fB:=KT h3 fun b hb cs en=>(hB b hb cs en).1;exact .xY (by rw[e1,ef];exact h1) h2 fB (KN h4 hR) (Zg h5 h3 (fun b hb cs en=>(hB b hb cs en).1) hR) h6
 | @NC s x t e sz b z q y k ys h1 h2 h3 h4 h5 h6 h7 h8=>exact .NC h1 h2 (by rw[he x (by simp[Op.operands,Call.operands])];exact pB h3 (ha rfl x (by simp[Op.operands,Call.operands]))) (by rw[he s (by simp[Op.operands,Call.operands])];exact h4) h5 h6 h7 h8
 | @NB s x t e sz b z q y k ys τ bA R h1 h2 h3 h4 h5 h6 h7 h8 h9 mZ II Cx h13=>
  have g:=ha rfl s (by simp[Op.operands,Call.operands]);rw[h4] at g;exact .NB h1 h2 (by rw[he x (by simp[Op.operands,Call.operands])];exact pB h3 (ha rfl x (by simp[Op.operands,Call.operands]))) (by rw[he s (by simp[Op.operands,Call.operands])];exact h4) (g.2 (τ,bA) aB R h5) h6 h7 h8 h9 mZ II Cx h13
end
section
variable {P:Program}{T:Nat->Option Ty}{O:iy}[GlC O]
structure kT (s s':St):Prop where
 sl:∀ t,s'.get t=s.get t
 bx:∀ b,lk s'.bx b=lk s.bx b
 rw:∀ τ,lk s'.rw τ=lk s.rw τ
theorem kT.refl (s:St):kT s s:=⟨fun _=>rfl,fun _=>rfl,fun _=>rfl⟩
theorem kT.symm {s s':St}(h:kT s s'):kT s' s:=⟨fun t=>(h.sl t).symm,fun t=>(h.bx t).symm,fun t=>(h.rw t).symm⟩
theorem kT.trans {s s' s2:St}(h:kT s s')(k:kT s' s2):kT s s2:=⟨fun t=>(k.sl t).trans (h.sl t),fun t=>(k.bx t).trans (h.bx t),fun t=>(k.rw t).trans (h.rw t)⟩
theorem kT.app {s s':St}(h:kT s s')(t:Option Nat)(d:Dl):kT (s.app t d) (s'.app t d):=by
 refine⟨fun t'=>?_,fun b=>?_,fun τ=>?_⟩
 ·rw[St.gX,St.gX,h.sl]
 ·rw[St.je,St.je,cB,cB,h.bx]
 ·rw[St.iw,St.iw,cB,cB,h.rw]
theorem kT.ev {s s':St}(h:kT s s')(x:Operand):ev s' x=ev s x:=by
 cases x with
 | tmp t=>exact h.sl t
 | _=>rfl
theorem kT.stp {s s':St}(h:kT s s'){id:Nat}{op:Op}{d:Dl}(k:nw P T s id op d):nw P T s' id op d:=
 OB k (fun x _=>h.ev x) fun _ _x _=>⟨fun b _ _cs en=>⟨(h.bx b).trans en,fun p _ _R hR=>(h.rw p.1).trans hR⟩,fun p _ _R hR=>(h.rw p.1).trans hR⟩
omit [GlC O] in
theorem kT.rep {s s':St}(h:kT s s'){E:Env}{w:World}{n0 N m:Nat}{a:Act}(r:cx O E w n0 N m s a):cx O E w n0 N m s' a:=by
 refine⟨r.yn,r.sz,fun t=>by rw[h.sl];exact r.slt t,fun i cs hi=>r.box i cs (by rw[<- h.bx];exact hi),fun τ R hR=>r.row τ R (by rw[<- h.rw];exact hR),⟨fun t b hb=>?_,fun t p hp=>?_,fun b cs en p hp=>?_,fun b cs en=>r.sc.fb b cs (by rw[<- h.bx];exact en),fun τ R hR=>r.sc.fr τ R (by rw[<- h.rw];exact hR),fun τ R d hR hd l hl=>?_⟩,r.hi,r.nM,r.gh,fun j V hj=>by rw[h.rw];exact r.Zu j V hj,fun j b hj=>(by rw[h.bx];exact r.MA j b hj),r.sn⟩
 ·rw[h.sl] at hb;obtain⟨cs,en⟩:=r.sc.sb t b hb;exact⟨cs,by rw[h.bx];exact en⟩
 ·rw[h.sl] at hp;obtain⟨R,hR,hv⟩:=r.sc.sr t p hp;exact⟨R,by rw[h.rw];exact hR,hv⟩
 ·obtain⟨R,hR,hv⟩:=r.sc.br b cs (by rw[<- h.bx];exact en) p hp;exact⟨R,by rw[h.rw];exact hR,hv⟩
 ·obtain⟨R,hR,hv⟩:=r.sc.rl τ R d (by rw[<- h.rw];exact hR) hd l hl;exact⟨R,by rw[h.rw];exact hR,hv⟩
theorem kT.put {s:St}{t:Nat}{v:AV}(h:s.get t=v):kT s (s.put t v):=by
 refine⟨fun t'=>?_,fun b=>by cases s;rfl,fun τ=>by cases s;rfl⟩;rw[St.KJ];split
 ·rename_i e;rw[<- e,h]
 ·rfl
theorem Ux (s:St)(t:Option Nat)(v:AV):kT (s.app t (.val v)) (s.Uz t v):=by
 cases s
 cases t <;> exact kT.refl _
def bU (s:St)(L:List (Oper × Dl)):St:=L.foldl (fun s p=>s.app p.1.dst p.2) s
theorem eT (s:St)(L:List (Oper × Dl))(o:Oper)(d:Dl):bU s (L++[(o,d)])=(bU s L).app o.dst d:=by simp[bU]
def I7 (ops:Array Oper)(s:St)(o:Oper)(b:Bool):Prop:=match o.guard with
 | none=>b=true
 | some (g,want)=>∃ t,(ops[g]?).bind (·.dst)=some t/\((∃ v,s.get t=.c (.t (.lit (.bool v)))/\b=(v==want))\/(s.get t=.gi []/\b=false))
def mH (P:Program)(T:Nat->Option Ty)(ops:Array Oper)(id j:Nat)(s:St)(o:Oper)(d:Dl):Prop:=∃ b,I7 ops s o b/\(b=true->nw P T s (id+128*j) o.op d)/\(b=false->d=.val (.gi []))
def fh (P:Program)(T:Nat->Option Ty)(ops:Array Oper)(id:Nat)(s0:St)(L:List (Oper × Dl)):Prop:=∀ j o d,L[j]? = some (o,d)->mH P T ops id j (bU s0 (L.take j)) o d
theorem fh.snoc {ops:Array Oper}{id:Nat}{s0:St}{L:List (Oper × Dl)}(h:fh P T ops id s0 L){o:Oper}{d:Dl}(k:mH P T ops id L.length (bU s0 L) o d):fh P T ops id s0 (L++[(o,d)]):=by
 intro j o' d' hj
 by_cases hl:j < L.length
 ·rw[bz hl] at hj;rw[List.take_append_of_le_length (by omega)];exact h j o' d' hj
 ·rw[bm (by omega)] at hj
  have:j - L.length=0:=by
   have:=(an.1 hj).1;simp at this;omega
  rw[this] at hj
  cases hj
  have oY:j=L.length:=by omega
  subst oY;rw[List.take_left']
  ·exact k
  ·rfl
theorem jA {ops:Array Oper}{id:Nat}{s0:St}:∀ (rest:List Oper) (L0:List (Oper × Dl)) (st:St) (K:St->Prop),kT (bU s0 L0) st->fh P T ops id s0 L0->kg P T ops id L0.length rest st K->
  ∃ L1,L1.map (·.1)=rest/\fh P T ops id s0 (L0++L1)/\∃ dc,K dc/\kT (bU s0 (L0++L1)) dc
 | [],L0,st,K,he,hp,h=>⟨[],rfl,by rw[aW];exact hp,st,h,by rw[aW];exact he⟩
 | o :: r,L0,st,K,he,hp,h=>by
  have next:∀ d od,mH P T ops id L0.length (bU s0 L0) o d->kT ((bU s0 L0).app o.dst d) od->kg P T ops id (L0.length+1) r od K->∃ L1,L1.map (·.1)=o :: r/\fh P T ops id s0 (L0++L1)/\∃ dc,K dc/\kT (bU s0 (L0++L1)) dc:=fun d od h1 h2 h3=>by
   obtain⟨L1,h4,h5,h6⟩:=jA r (L0++[(o,d)]) od K (by rw[eT];exact h2) (hp.snoc h1) (by rw[al];exact h3);refine⟨(o,d) :: L1,by rw[bW,h4],?_,?_⟩
   ·rw[show L0++(o,d) :: L1=L0++[(o,d)]++L1 by simp];exact h5
   ·rw[show L0++(o,d) :: L1=L0++[(o,d)]++L1 by simp];exact h6
  have goW:∀ W8,kT (bU s0 L0) W8->I7 ops (bU s0 L0) o true->WPo P T W8 (id+128*L0.length) o (fun d=>kg P T ops id (L0.length+1) r (W8.app o.dst d) K)->∃ L1,L1.map (·.1)=o :: r/\fh P T ops id s0 (L0++L1)/\∃ dc,K dc/\kT (bU s0 (L0++L1)) dc:=fun W8 S1 hw h=>by
   obtain⟨d,h1,h2⟩:=Te h;exact next d _ ⟨true,hw,fun _=>S1.symm.stp h1,fun h=>by cases h⟩ (S1.app _ _) h2
  have goS:∀ W8,kT (bU s0 L0) W8->I7 ops (bU s0 L0) o false->kg P T ops id (L0.length+1) r (W8.Uz o.dst (.gi [])) K->∃ L1,L1.map (·.1)=o :: r/\fh P T ops id s0 (L0++L1)/\∃ dc,K dc/\kT (bU s0 (L0++L1)) dc:=fun W8 S1 hw h=>by
   exact next (.val (.gi [])) _ ⟨false,hw,fun h=>(by cases h),fun _=>rfl⟩ ((S1.app o.dst (.val (.gi []))).trans (Ux _ _ _)) h
  have h:WPg P T ops id L0.length o st (fun dc=>kg P T ops id (L0.length+1) r dc K):=h;unfold WPg at h;simp only[WPh,St.pr] at h;split at h
  ·rename_i hg;exact goW st he (by unfold I7;rw[hg]) h
  ·rename_i g want hg;split at h
   ·exact h.elim
   ·rename_i t ht;split at h
    ·rename_i b hb;have fa:(bU s0 L0).get t=.c (.t (.lit (.bool b))):=by rw[<- he.sl];exact hb
     have wn:∀ b',b'=(b==want)->I7 ops (bU s0 L0) o b':=fun b' e=>by
      unfold I7;rw[hg];exact⟨t,ht,.inl ⟨b,fa,e⟩⟩
     cases b with
     | true=>
      simp only[cond_true] at h;have Iz:kT (bU s0 L0) (st.put t (aEo true)):=he.trans (kT.put hb)
      cases want with
      | true=>exact goW _ Iz (wn true rfl) h
      | false=>exact goS _ Iz (wn false rfl) h
     | false=>
      simp only[cond_false] at h;have Iz:kT (bU s0 L0) (st.put t (aEo false)):=he.trans (kT.put hb)
      cases want with
      | true=>exact goS _ Iz (wn false rfl) h
      | false=>exact goW _ Iz (wn true rfl) h
    ·rename_i hb;refine goS _ he ?_ h;unfold I7;rw[hg];exact⟨t,ht,.inr ⟨by rw[<- he.sl];exact hb,rfl⟩⟩
    ·exact h.elim
section
variable {E:Env}{w:World}{n0 N m:Nat}{a:Act}
omit [GlC O] in
theorem pZ {ops:Array Oper}{s:St}{o:Oper}{b:Bool}(h:I7 ops s o b)(r:cx O E w n0 N m s a):Region.wanted o (yielded ops a.tmps)=b:=by
 unfold I7 at h;unfold Region.wanted;split at h
 ·rename_i hg;simp only[hg];exact h.symm
 ·rename_i g want hg;obtain⟨t,ht,h⟩:=h;simp only[hg];unfold yielded;rw[ht];have hr:=r.slt t;rw[Array.getD_eq_getD_getElem?] at hr;rcases h with⟨v,hv,rfl⟩|⟨hv,rfl⟩
  ·rw[hv] at hr;have hr:=eC hr
   cases hq:a.tmps[t]? with
   | none=>rw[hq] at hr;cases hr
   | some x=>
    rw[hq] at hr;obtain rfl:x=.bool v:=hr;simp only[Option.bind_some,hq]
    cases v <;> cases want <;> rfl
  ·rw[hv] at hr;obtain⟨vs,hr,_⟩:=hr
   cases hq:a.tmps[t]? with
   | none=>simp[hq]
   | some x=>
    rw[hq] at hr;obtain rfl:x=.tuple vs.toArray:=hr;simp[hq]
theorem DN (hT:dz P T){ops:Array Oper}{s:St}{id j:Nat}{o:Oper}{d:Dl}{K:Act->World->Prop}{Q:Exit->Act->World->Prop}(r:cx O E w n0 N m s a)(hj:ops[j]? = some o)(hd:∀ x,o.dst=some x->x < N)(hf:nj s (id+128*j))(hm:id+128*j+128<=m)(h:mH P T ops id j s o d)
  (hK:∀ E' v w',cx O E' w' n0 N m (s.app o.dst d) (a.put o.dst v)->Below n0 w w'->K (a.put o.dst v) w'):wpOp P ops Q j K a w:=by
 obtain⟨b,h1,h2,h3⟩:=h;unfold wpOp;simp only[hj];rw[pZ h1 r]
 cases b with
 | true=>
  rw[if_pos rfl];exact .inl (tA hT r hd hf hm (h2 rfl) K Q hK)
 | false=>
  rw[if_neg (by simp)];rw[h3 rfl] at hK;exact hK E undef w (r.app hd (Mv.refl _ _ _ _ _) (lM ⟨fun b hb=>(by cases hb),fun p hp=>(by cases hp)⟩) ⟨[],rfl,.nil⟩ (fun _ _ h=>by cases h) fun _ _ h=>by cases h) (Below.refl _ _)
end
def Kb (s:St)(n:Nat):Prop:=(∀ b cs,lk s.bx b=some cs->b < n)/\∀ τ R,lk s.rw τ=some R->τ < n
theorem Kb.fresh {s:St}{n:Nat}(h:Kb s n):nj s n:=fun i h1 _=>by
 refine⟨?_,?_⟩
 ·cases hq:lk s.bx i with
  | none=>rfl
  | some cs=>have:=h.1 i cs hq;omega
 ·cases hq:lk s.rw i with
  | none=>rfl
  | some cs=>have:=h.2 i cs hq;omega
theorem j8 {ops:Array Oper}{id j:Nat}{s:St}{o:Oper}{d:Dl}(h:mH P T ops id j s o d) :
  (∀ b cs,lk d.bs b=some cs->(cH T o.op=true/\∃ c0,lk s.bx b=some c0)\/(id+128*j<=b/\b < id+128*j+128))/\(∀ τ R,lk d.rs τ=some R->(cH T o.op=true/\∃ R0,lk s.rw τ=some R0)\/(id+128*j<=τ/\τ < id+128*j+128))/\(mo o.op=false->d.bs=[]/\d.rs=[]):=by
 obtain⟨b,_,h2,h3⟩:=h
 cases b with
 | true=>exact OA (h2 rfl)
 | false=>
  rw[h3 rfl];exact⟨fun _ _ h=>(by cases h),fun _ _ h=>(by cases h),fun _=>⟨rfl,rfl⟩⟩
theorem Kb.app {ops:Array Oper}{id j:Nat}{s:St}{o:Oper}{d:Dl}(h:mH P T ops id j s o d)(k:Kb s (id+128*j)):Kb (s.app o.dst d) (id+128*(j+1)):=by
 obtain⟨h1,h2,_⟩:=j8 h;refine⟨fun b cs hb=>?_,fun τ R hτ=>?_⟩
 ·rw[St.je,cB] at hb
  cases hq:lk d.bs b with
  | some x=>
   rcases h1 b x hq with⟨_,c0,hc⟩|h
   ·have:=k.1 b c0 hc;omega
   ·omega
  | none=>
   rw[hq] at hb;have:=k.1 b cs hb;omega
 ·rw[St.iw,cB] at hτ
  cases hq:lk d.rs τ with
  | some x=>
   rcases h2 τ x hq with⟨_,c0,hc⟩|h
   ·have:=k.2 τ c0 hc;omega
   ·omega
  | none=>
   rw[hq] at hτ;have:=k.2 τ R hτ;omega
theorem nK {ops:Array Oper}{id:Nat}{s0:St}{L:List (Oper × Dl)}(h:fh P T ops id s0 L)(k:Kb s0 id):∀ j,j<=L.length->Kb (bU s0 (L.take j)) (id+128*j)
 | 0,_=>by simpa [bU] using k
 | j+1,hj=>by
  have ih:=nK h k j (by omega);obtain⟨o,d,KI⟩:∃ o d,L[j]? = some (o,d):=⟨(L[j]'(by omega)).1,(L[j]'(by omega)).2,by rw[ag]⟩
  rw[List.take_add_one,KI,Option.toList_some,eT];exact Kb.app (h j o d KI) ih
omit [GlC O] in
theorem cx.kb {E:Env}{w:World}{n0 N:Nat}{st:St}{a:Act}(r:cx O E w n0 N st.nx st a):Kb st st.nx:=⟨r.sc.fb,r.sc.fr⟩
theorem Sc.mono {m m':Nat}{st:St}(h:Sc m st)(hm:m<=m'):Sc m' st:=⟨h.sb,h.sr,h.br,fun b cs hb=>cA (h.fb b cs hb) hm,fun τ R hR=>cA (h.fr τ R hR) hm,h.rl⟩
omit [GlC O] in
theorem cx.mono {E:Env}{w:World}{n0 N m m':Nat}{st:St}{a:Act}(r:cx O E w n0 N m st a)(hm:m<=m'):cx O E w n0 N m' st a:=⟨r.yn,r.sz,r.slt,r.box,r.row,r.sc.mono hm,r.hi,r.nM,r.gh,r.Zu,r.MA,r.sn⟩
theorem kY {N:Nat}{ops:Array Oper}{draw:Bool}(h:kC N ops draw=true){j:Nat}{o:Oper}(hj:ops[j]? = some o):∀ x,o.dst=some x->x < N:=fun x hx=>by
 unfold kC at h;rw[ah] at h;have h1:=aN.1 h.1 o (by rw[<- dF] at hj;exact bc hj);rw[hx] at h1;exact Nb h1
theorem rS (hT:dz P T){ops:Array Oper}{N n0 id m:Nat}{s0:St}{L:List (Oper × Dl)}(ja:kC N ops false=true)(hL:L.map (·.1)=ops.toList)(hp:fh P T ops id s0 L)(k:Kb s0 id)(hm:id+128*ops.size<=m){Q:Exit->Act->World->Prop} :
  ∀ (n j:Nat) (E:Env) (w:World) (a:Act),j+n=ops.size->cx O E w n0 N m (bU s0 (L.take j)) a->(∀ E' w' a',cx O E' w' n0 N m (bU s0 L) a'->Below n0 w w'->Q .normal a' w')->wpOps P ops Q (List.range' j n) a w:=by
 have hlen:L.length=ops.size:=by rw[<- Lm (f:=(·.1)),hL,bP]
 intro n
 induction n with
 | zero=>
  intro j E w a hj r hQ;have oY:j=L.length:=by omega
  subst oY;rw[bj] at r;exact hQ E w a r (Below.refl _ _)
 | succ n ih=>
  intro j E w a hj r hQ;have aU:j < L.length:=by omega
  obtain⟨o,d,KI⟩:∃ o d,L[j]? = some (o,d):=⟨(L[j]'aU).1,(L[j]'aU).2,by rw[ag]⟩
  have ug:ops[j]? = some o:=by
   rw[<- dF,<- hL,bI,KI];rfl
  rw[List.range'_succ,wpOps_cons];refine DN hT r ug (kY ja ug) (nK hp k j (by omega)).fresh (by omega) (hp j o d KI) fun E' v w' r' hb=>?_;refine ih (j+1) E' w' _ (by omega) ?_ fun E2 w2 a2 r2 dK=>hQ E2 w2 a2 r2 (hb.trans dK);rw[List.take_add_one,KI,Option.toList_some,eT];exact r'
end
section
variable {P:Program}{T:Nat->Option Ty}{O:iy}[GlC O]
def rA {α:Type}(D:Nat->Bool):Nat->List α->List α
  | _,[]=>[]
  | i,p :: r=>bif D i then p :: rA D (i+1) r else rA D (i+1) r
theorem nF {α:Type}{D D':Nat->Bool}{f:α->Bool}:∀ {L:List α} {i:Nat},(∀ k p,L[k]? = some p->f p=true->D (i+k)=D' (i+k))->(rA D i L).filter f=(rA D' i L).filter f
  | [],_,_=>rfl
  | p :: r,i,h=>by
    have ih:(rA D (i+1) r).filter f=(rA D' (i+1) r).filter f:=nF fun k q hk hf=>by
      have:=h (k+1) q (by simpa using hk) hf
      rwa [show i+(k+1)=i+1+k by omega] at this
    unfold rA
    by_cases hf:f p=true
    · have:=h 0 p rfl hf
      rw[dm] at this;rw[this]
      cases D' i
      · exact ih
      · simp only[cond_true]
        rw[List.filter_cons_of_pos hf,List.filter_cons_of_pos hf,ih]
    · cases D i <;> cases D' i <;> simp only[cond_true,cond_false] <;> simp[hf,ih]
theorem BD {α:Type}{D:Nat->Bool}:∀ {L:List α} {i:Nat},(∀ k,k < L.length->D (i+k)=true)->rA D i L=L
  | [],_,_=>rfl
  | p :: r,i,h=>by
    unfold rA;have:=h 0 (by simp);rw[dm] at this
    rw[this,BD fun k hk=>by
      have:=h (k+1) (by simp;omega)
      rwa [show i+(k+1)=i+1+k by omega] at this]
    rfl
theorem oK {α:Type}{D:Nat->Bool}:∀ {L:List α} {i:Nat},(∀ k,k < L.length->D (i+k)=false)->rA D i L=[]
  | [],_,_=>rfl
  | p :: r,i,h=>by
    unfold rA;have:=h 0 (by simp);rw[dm] at this
    rw[this,oK fun k hk=>by
      have:=h (k+1) (by simp;omega)
      rwa [show i+(k+1)=i+1+k by omega] at this]
    rfl
theorem qi {α:Type}{D:Nat->Bool}:∀ {L M:List α} {i:Nat},rA D i (L++M)=rA D i L++rA D (i+L.length) M
  | [],M,i=>by simp[rA]
  | p :: r,M,i=>by
    show(bif D i then p :: rA D (i+1) (r++M) else rA D (i+1) (r++M))=(bif D i then p :: rA D (i+1) r else rA D (i+1) r)++rA D (i+(p :: r).length) M;rw[qi (L:=r),aZ,show i+1+r.length=i+(r.length+1) by omega]
    cases D i <;> rfl
theorem OO {α:Type}(L:List α)(j:Nat):rA (fun k=>decide (k < j)) 0 L=L.take j:=by
  rw[<- List.take_append_drop j L,qi,BD,oK]
  · rw[aW]
    by_cases h:j<=L.length
    · rw[List.take_left']
      rw[au];omega
    · rw[List.drop_of_length_le (by omega),aW,List.take_take,Nat.min_self]
  · intro k hk
    rw[aO] at hk;rw[au];simp;omega
  · intro k hk
    rw[au] at hk;simp;omega
theorem OP {α:Type}{D:Nat->Bool}{L:List α}{j:Nat}{p:α}(hj:L[j]? = some p)(h1:D j=true)(h2:∀ k,j < k->D k=false):rA D 0 L=rA D 0 (L.take j)++[p]:=by
  have hl:=(an.1 hj).1
  have e:L=L.take j++(p :: L.drop (j+1)):=by
    rw[<- (an.1 hj).2,<- cd hl,List.take_append_drop]
  conv=>lhs;rw[e]
  rw[qi];congr 1;have aU:0+(L.take j).length=j:=by rw[au];omega
  rw[aU];unfold rA;rw[h1,oK fun k _=>h2 _ (by omega)];rfl
theorem get_filter (t:Nat):∀ (M:List (Oper × Dl)) (s s':St),s.get t=s'.get t->(bU s M).get t=(bU s' (M.filter fun p=>p.1.dst==some t)).get t
  | [],_,_,h=>h
  | (o,d) :: M,s,s',h=>by
    show(bU (s.app o.dst d) M).get t=_
    by_cases hd:o.dst=some t
    · rw[List.filter_cons_of_pos (by simp[hd])]
      exact get_filter t M _ _ (by rw[St.gX,St.gX,if_pos hd,if_pos hd])
    · rw[List.filter_cons_of_neg (by simp[hd])]
      exact get_filter t M _ _ (by rw[St.gX,if_neg hd,h])
theorem pI (b:Nat):∀ (M:List (Oper × Dl)) (s s':St),lk s.bx b=lk s'.bx b->lk (bU s M).bx b=lk (bU s' (M.filter fun p=>(lk p.2.bs b).isSome)).bx b
  | [],_,_,h=>h
  | (o,d) :: M,s,s',h=>by
    show lk (bU (s.app o.dst d) M).bx b=_
    cases hd:lk d.bs b with
    | some x=>
      rw[List.filter_cons_of_pos (by simp[hd])];exact pI b M _ _ (by rw[St.je,St.je,cB,cB,hd])
    | none=>
      rw[List.filter_cons_of_neg (by simp[hd])];exact pI b M _ _ (by rw[St.je,cB,hd];exact h)
theorem pn (b:Nat):∀ (M:List (Oper × Dl)) (s s':St),lk s.rw b=lk s'.rw b->lk (bU s M).rw b=lk (bU s' (M.filter fun p=>(lk p.2.rs b).isSome)).rw b
  | [],_,_,h=>h
  | (o,d) :: M,s,s',h=>by
    show lk (bU (s.app o.dst d) M).rw b=_
    cases hd:lk d.rs b with
    | some x=>
      rw[List.filter_cons_of_pos (by simp[hd])];exact pn b M _ _ (by rw[St.iw,St.iw,cB,cB,hd])
    | none=>
      rw[List.filter_cons_of_neg (by simp[hd])];exact pn b M _ _ (by rw[St.iw,cB,hd];exact h)
abbrev nq (s0:St)(L:List (Oper × Dl))(D:Nat->Bool):St:=bU s0 (rA D 0 L)
theorem uk {s0:St}{L:List (Oper × Dl)}{D D':Nat->Bool}{t:Nat}(h:∀ k o d,L[k]? = some (o,d)->o.dst=some t->D k=D' k):(nq s0 L D).get t=(nq s0 L D').get t:=by
  unfold nq;rw[get_filter t _ s0 s0 rfl,get_filter t (rA D' 0 L) s0 s0 rfl,nF];intro k p hk hf;rw[bw];exact h k p.1 p.2 hk (by simpa using hf)
theorem xZ {s0:St}{L:List (Oper × Dl)}{D D':Nat->Bool}{b:Nat}(h:∀ k o d cs,L[k]? = some (o,d)->lk d.bs b=some cs->D k=D' k):lk (nq s0 L D).bx b=lk (nq s0 L D').bx b:=by
  unfold nq;rw[pI b _ s0 s0 rfl,pI b (rA D' 0 L) s0 s0 rfl,nF];intro k p hk hf;rw[bw];obtain⟨cs,en⟩:=Option.isSome_iff_exists.1 hf;exact h k p.1 p.2 cs hk en
theorem wo {s0:St}{L:List (Oper × Dl)}{D D':Nat->Bool}{b:Nat}(h:∀ k o d cs,L[k]? = some (o,d)->lk d.rs b=some cs->D k=D' k):lk (nq s0 L D).rw b=lk (nq s0 L D').rw b:=by
  unfold nq;rw[pn b _ s0 s0 rfl,pn b (rA D' 0 L) s0 s0 rfl,nF];intro k p hk hf;rw[bw];obtain⟨cs,en⟩:=Option.isSome_iff_exists.1 hf;exact h k p.1 p.2 cs hk en
theorem WM {acc:List Nat}{o:Oper}{i:Nat}(h:(anc acc o).testBit i=true):∃ e∈o.after,Region.binds .any e=true/\(e.on=i\/(acc.getD e.on 0).testBit i=true):=by
  have key:∀ (es:List Edge) (s:Nat),(es.foldl (fun s e=>bif Region.binds .any e then s ||| 2 ^ e.on ||| acc.getD e.on 0 else s) s).testBit i=true->s.testBit i=true\/∃ e∈es,Region.binds .any e=true/\(e.on=i\/(acc.getD e.on 0).testBit i=true):=by
    intro es
    induction es with
    | nil=>intro s h;exact .inl h
    | cons e es ih=>
      intro s h;rw[List.foldl_cons] at h;rcases ih _ h with h|⟨e',h1,h2⟩
      · cases hb:Region.binds .any e with
        | false=>rw[hb] at h;exact .inl h
        | true=>
          rw[hb] at h;simp only[cond_true,Nat.testBit_or,cC,Nat.testBit_two_pow,decide_eq_true_eq] at h;rcases h with(h|h)|h
          · exact .inl h
          · exact .inr ⟨e,aB,hb,.inl h⟩
          · exact .inr ⟨e,aB,hb,.inr h⟩
      · exact .inr ⟨e',aM _ h1,h2⟩
  rcases key o.after.toList 0 h with h|⟨e,h1,h2⟩
  · simp at h
  · exact⟨e,Array.mem_toList_iff.1 h1,h2⟩
def Clo (ops:List Oper)(D:Nat->Bool):Prop:=∀ j o,ops[j]? = some o->D j=true->∀ e∈o.after,Region.binds .any e=true->D e.on=true
theorem Ge {ops:List Oper}{D:Nat->Bool}(hc:Clo ops D):∀ (r:List Oper) (acc:List Nat),(∀ k,(r[k]?:Option Oper)=ops[acc.length+k]?)->(∀ j i,D j=true->(acc.getD j 0).testBit i=true->D i=true)->∀ j i,D j=true->((qI r acc).getD j 0).testBit i=true->D i=true
  | [],acc,_,ha=>ha
  | o :: r,acc,hr,ha=>by
    refine Ge hc r (acc++[anc acc o]) (fun k=>?_) fun j i hj hb=>?_
    · have:=hr (k+1)
      rw[List.getElem?_cons_succ] at this;rw[this,al];congr 1;simp only[aZ,bM];omega
    · rw[List.getD_eq_getElem?_getD] at hb
      by_cases hl:j < acc.length
      · rw[bz hl,<- List.getD_eq_getElem?_getD] at hb
        exact ha j i hj hb
      · rw[bm (by omega)] at hb
        by_cases hz:j=acc.length
        · rw[hz,Nat.sub_self] at hb
          obtain⟨e,he,h1,h2⟩:=WM (o:=o) (acc:=acc) (by simpa using hb)
          have ho:ops[j]? = some o:=by
            have:=hr 0;rw[dm,<- hz] at this;exact this.symm
          have hd:=hc j o ho hj e he h1;rcases h2 with h2|h2
          · rw[<- h2];exact hd
          · exact ha e.on i hd h2
        · rw[List.getElem?_eq_none (by simp only[aZ,bM];omega)] at hb
          simp at hb
theorem K8 {ops:List Oper}{D:Nat->Bool}(hc:Clo ops D){j i:Nat}(hj:D j=true)(hb:((qI ops []).getD j 0).testBit i=true):D i=true:=
  Ge hc ops [] (fun k=>by simp) (fun j i _ h=>by simp at h) j i hj hb
def jf (D:Nat->Bool)(j:Nat):Nat->Bool:=fun k=>D k||Nat.beq k j
theorem rK {ops:List Oper}{D:Nat->Bool}{j i:Nat}(hc:Clo ops D)(nv:Clo ops (jf D j))(hj:D j=false)(iR:i≠j)(ho:ordered (qI ops []) i j=true\/ordered (qI ops []) j i=true):D i=decide (i < j):=by
  have ho:(((qI ops []).getD (max i j) 0).testBit (min i j))=true:=by
    rcases ho with h|h
    · exact h
    · unfold ordered at h
      rwa [Nat.max_comm,Nat.min_comm] at h
  by_cases aU:i < j
  · rw[Nat.max_eq_right (by omega),Nat.min_eq_left (by omega)] at ho
    have h1:=K8 nv (j:=j) (by simp[jf]) ho;simp only[jf,cC] at h1;rcases h1 with h1|h1
    · rw[h1];simp[aU]
    · exact absurd (ai h1) iR
  · rw[Nat.max_eq_left (by omega),Nat.min_eq_right (by omega)] at ho
    cases hq:D i with
    | false=>simp[aU]
    | true=>
      rw[K8 hc hq ho] at hj
      cases hj
theorem pg {α:Type}{f:α × Nat->Bool}{l:List α}(h:l.zipIdx.all f=true){j:Nat}{x:α}(hj:l[j]? = some x):f (x,j)=true:=by
  refine aN.1 h (x,j) ?_;rw[List.mem_zipIdx_iff_getElem?];exact hj
theorem qE:∀ {ops:List Oper},(Nh ops).Nodup->∀ (i j:Nat) (x y:Oper) t,ops[i]? = some x->ops[j]? = some y->x.dst=some t->y.dst=some t->i=j
  | [],_,i,j,x,y,t,h,_,_,_=>by simp at h
  | o :: r,hn,i,j,x,y,t,hi,hj,hx,hy=>by
    have mem:∀ (k:Nat) (z:Oper),r[k]? = some z->z.dst=some t->t∈Nh r:=fun k z hk hz=>List.mem_filterMap.2 ⟨z,bc hk,hz⟩
    have Cp:(Nh r).Nodup/\(∀ d,o.dst=some d->d∉Nh r):=by
      unfold Nh at hn ⊢
      cases hd:o.dst with
      | none=>
        rw[List.filterMap_cons_none hd] at hn;exact⟨hn,fun _ h=>by cases h⟩
      | some d=>
        rw[List.filterMap_cons_some hd,List.nodup_cons] at hn;exact⟨hn.2,fun _ h=>by cases h;exact hn.1⟩
    rcases i with _|i <;> rcases j with _|j
    · rfl
    · cases hi
      exact absurd (mem j y (by simpa using hj) hy) (Cp.2 t hx)
    · cases hj
      exact absurd (mem i x (by simpa using hi) hx) (Cp.2 t hy)
    · have:=qE Cp.1 i j x y t (by simpa using hi) (by simpa using hj) hx hy
      omega
def N1 (D:Nat->Bool):Nat->Nat
  | 0=>0
  | n+1=>N1 D n+(bif D n then 0 else 1)
theorem K4 {D:Nat->Bool}{j:Nat}(hj:D j=false):∀ n,N1 (jf D j) n+(if j < n then 1 else 0)=N1 D n
  | 0=>by simp[N1]
  | n+1=>by
    have ih:=K4 hj n;unfold N1
    by_cases h:j=n
    · subst h
      have e:jf D j j=true:=by simp[jf]
      rw[e,hj];simp at ih ⊢;exact ih
    · have e:jf D j n=D n:=by
        have:Nat.beq n j=false:=by
          cases hb:Nat.beq n j
          · rfl
          · exact absurd (ai hb).symm h
        simp[jf,this]
      rw[e]
      by_cases hl:j < n
      · rw[if_pos hl] at ih
        rw[if_pos (by omega)];omega
      · rw[if_neg hl] at ih
        rw[if_neg (by omega)];omega
theorem FQ {D:Nat->Bool}:∀ n,N1 D n=0->∀ i,i < n->D i=true
  | 0,_,i,hi=>by omega
  | n+1,h,i,hi=>by
    unfold N1 at h
    cases hd:D n with
    | false=>rw[hd] at h;simp at h
    | true=>
      rw[hd] at h
      by_cases e:i=n
      · rw[e];exact hd
      · exact FQ n (by simpa using h) i (by omega)
section
variable {ops:Array Oper}{N n0 id m:Nat}{s0:St}{L:List (Oper × Dl)}
theorem uB (hL:L.map (·.1)=ops.toList){j:Nat}{o:Oper}{d:Dl}(h:L[j]? = some (o,d)):ops.toList[j]? = some o:=by
  rw[<- hL,bI,h];rfl
theorem xo (hL:L.map (·.1)=ops.toList)(oW:xe T s0 (qI ops.toList []) ops.toList=true){i j:Nat}{oi oj:Oper}{di dj:Dl}(hi:L[i]? = some (oi,di))(hj:L[j]? = some (oj,dj))(nt:i≠j)(hhi:mo oi.op=true)(hhj:mo oj.op=true)(hm:cH T oi.op=true\/cH T oj.op=true) :
    ordered (qI ops.toList []) i j=true\/Lz T s0 ops.toList oi.op i oj.op j=true\/Lz T s0 ops.toList oj.op j oi.op i=true:=by
  have h:=pg oW (uB hL hi);simp only[hhi,Bool.not_true,Bool.false_or] at h;have h2:=pg h (uB hL hj);simp only[hhj,Bool.not_true,Bool.false_or,cC,cu] at h2;rcases h2 with((h2|h2)|h2)|h2
  · rcases hm with hm|hm <;> rw[hm] at h2 <;> simp at h2
  · exact absurd (ai h2) nt
  · exact .inl h2
  · exact .inr h2
theorem mO (hL:L.map (·.1)=ops.toList)(hp:fh P T ops id s0 L):∀ (j:Nat),j<=L.length->∀ (t r b o0:Nat),root (ops.toList.take j).reverse t=some r->s0.get r=.ptr b o0->(∃ o',(bU s0 (L.take j)).get t=.ptr b o')\/(bU s0 (L.take j)).get t=.gi []
  | 0,_,t,r,b,o0,h,hr=>by
    obtain rfl:t=r:=by simpa [root] using h
    exact .inl ⟨o0,hr⟩
  | j+1,hj,t,r,b,o0,h,hr=>by
    obtain⟨o,d,mD⟩:∃ o d,L[j]? = some (o,d):=⟨(L[j]'(by omega)).1,(L[j]'(by omega)).2,by rw[ag]⟩
    have ug:=uB hL mD;rw[List.take_add_one,ug] at h;simp only[Option.toList_some,List.reverse_append,List.reverse_cons,List.reverse_nil,bE,List.cons_append] at h;rw[List.take_add_one,mD];simp only[Option.toList_some];rw[eT,St.gX];have step:=hp j o d mD;unfold root at h
    by_cases hd:o.dst=some t
    · rw[if_pos hd]
      rw[hd] at h;simp only[isDst,Nat.beq_refl] at h;split at h
      · rename_i ty u f xw
        have ih:=mO hL hp j (by omega) u r b o0 h hr;obtain⟨bb,h1,h2,h3⟩:=step
        cases bb with
        | false=>
          rw[h3 rfl];exact .inr rfl
        | true=>
          have hs:=h2 rfl;rw[xw] at hs
          cases hs with
          | pure hv=>
            unfold dQ at hv;rcases ih with⟨o',ih⟩|ih
            · simp only[ev,ih] at hv
              split at hv
              · split at hv
                · split at hv
                  · rename_i y _
                    cases hb:Nat.blt 0 y.sz with
                    | false=>rw[hb] at hv;cases hv
                    | true=>
                      rw[hb] at hv
                      cases hv
                      exact .inl ⟨_,rfl⟩
                  · cases hv
                · cases hv
              · cases hv
            · simp only[ev,ih] at hv
              split at hv
              · split at hv
                · split at hv
                  · rename_i y _
                    cases hb:Nat.blt 0 y.sz with
                    | false=>rw[hb] at hv;cases hv
                    | true=>rw[hb] at hv;cases hv
                  · cases hv
                · cases hv
              · cases hv
      · cases h
    · rw[if_neg hd]
      have hb:isDst t o.dst=false:=by
        cases hq:o.dst with
        | none=>rfl
        | some t'=>
          cases hb:Nat.beq t' t
          · exact hb
          · exact absurd (by rw[hq,ai hb]) hd
      rw[hb] at h;exact mO hL hp j (by omega) t r b o0 h hr
theorem zx {j:Nat}{s:St}{o:Oper}{d:Dl}{t:Nat}{a x:Operand}(h:mH P T ops id j s o d)(ho:o.op=.store t a x)(ha:ev s a=.gi []):d.bs=[]/\d.rs=[]:=by
  obtain⟨b,_,h2,h3⟩:=h
  cases b with
  | false=>rw[h3 rfl];exact⟨rfl,rfl⟩
  | true=>
    have:=h2 rfl;rw[ho] at this
    cases this with
    | pure hv=>cases hv
    | qe _ _ _ h4=>rw[ha] at h4;cases h4
    | qc _ _ _ h4=>rw[ha] at h4;cases h4
    | qd _ _ _ h4=>rw[ha] at h4;cases h4
theorem pv {j:Nat}{s:St}{o:Oper}{d:Dl}{t:Nat}{x:Operand}(h:mH P T ops id j s o d)(ho:o.op=.load t x):d.bs=[]/\d.rs=[]:=by
  obtain⟨b,_,h2,h3⟩:=h
  cases b with
  | false=>rw[h3 rfl];exact⟨rfl,rfl⟩
  | true=>
    have:=h2 rfl;rw[ho] at this
    cases this with
    | pure _=>exact⟨rfl,rfl⟩
    | Ab=>exact⟨rfl,rfl⟩
    | Ac=>exact⟨rfl,rfl⟩
    | Aa=>exact⟨rfl,rfl⟩
theorem zy {j:Nat}{s:St}{o:Oper}{d:Dl}{t b0 o0:Nat}{a x:Operand}(h:mH P T ops id j s o d)(ho:o.op=.store t a x)(ha:ev s a=.ptr b0 o0):(∀ b cs,lk d.bs b=some cs->b=b0)/\d.rs=[]:=by
  obtain⟨b,_,h2,h3⟩:=h
  cases b with
  | false=>rw[h3 rfl];exact⟨fun _ _ h=>(by cases h),rfl⟩
  | true=>
    have:=h2 rfl;rw[ho] at this
    cases this with
    | pure hv=>cases hv
    | qe _ _ _ h4 _ _=>
      rw[ha] at h4
      cases h4
      refine⟨fun b cs hb=>?_,rfl⟩
      by_cases e:b0=b
      · exact e.symm
      · rw[cp,if_neg e] at hb
        cases hb
    | qc _ _ _ h4=>rw[ha] at h4;cases h4
    | qd _ _ _ h4=>rw[ha] at h4;cases h4
theorem OL (hL:L.map (·.1)=ops.toList)(hp:fh P T ops id s0 L){i j:Nat}{oi oj:Oper}{di dj:Dl}(hi:L[i]? = some (oi,di))(hj:L[j]? = some (oj,dj))(h:Yu s0 ops.toList oi.op i oj.op j=true) :
    di.rs=[]/\dj.bs=[]/\dj.rs=[]/\∀ b cs,lk di.bs b=some cs->∀ x∈oj.op.operands,b∉(ev (bU s0 (L.take j)) x).ed:=by
  unfold Yu at h;split at h
  · rename_i t a x t' c e1 e2
    split at h
    · rename_i r r' hr x5
      split at h
      · rename_i b1 p1 b2 p2 g1 g2
        have oB:=(an.1 hi).1;have oY:=(an.1 hj).1;have k1:=mO hL hp i (by omega) a r b1 p1 hr g1;have k2:=mO hL hp j (by omega) c r' b2 p2 x5 g2;obtain⟨l1,l2⟩:=pv (hp j oj dj hj) e2;rcases k1 with⟨q1,k1⟩|k1
        · obtain⟨s1,s2⟩:=zy (hp i oi di hi) e1 (show ev _ (.tmp a)=_ from k1)
          refine⟨s2,l1,l2,fun b cs hb x hx hm=>?_⟩;rw[e2] at hx;have NR:x=.tmp c:=by simpa [Op.operands] using hx
          subst NR;rcases k2 with⟨q2,k2⟩|k2
          · rw[show ev (bU s0 (L.take j)) (.tmp c)=.ptr b2 q2 from k2] at hm
            have:b=b2:=by simpa [AV.ed,AV.iu] using hm
            have h3:=s1 b cs hb;rw[show b1=b2 by omega] at h;simp at h
          · rw[show ev (bU s0 (L.take j)) (.tmp c)=.gi [] from k2] at hm
            simp[AV.ed] at hm
        · obtain⟨s1,s2⟩:=zx (hp i oi di hi) e1 (show ev _ (.tmp a)=_ from k1)
          refine⟨s2,l1,l2,fun b cs hb=>?_⟩;rw[s1] at hb
          cases hb
      · cases h
    · cases h
  · cases h
theorem po (hL:L.map (·.1)=ops.toList)(hp:fh P T ops id s0 L):∀ (j:Nat),j<=L.length->∀ (t r:Nat),wx (ops.toList.take j).reverse t=some r->(bU s0 (L.take j)).get t=s0.get r
  | 0,_,t,r,h=>by
    obtain rfl:t=r:=by simpa [wx] using h
    rfl
  | j+1,hj,t,r,h=>by
    obtain⟨o,d,mD⟩:∃ o d,L[j]? = some (o,d):=⟨(L[j]'(by omega)).1,(L[j]'(by omega)).2,by rw[ag]⟩
    have ug:=uB hL mD;rw[List.take_add_one,ug] at h;simp only[Option.toList_some,List.reverse_append,List.reverse_cons,List.reverse_nil,bE,List.cons_append] at h;rw[List.take_add_one,mD];simp only[Option.toList_some];rw[eT,St.gX];have step:=hp j o d mD;unfold wx at h
    by_cases hd:o.dst=some t
    · rw[if_pos hd]
      rw[hd] at h;simp only[isDst,Nat.beq_refl] at h;split at h
      · rename_i u xw vH
        have ih:=po hL hp j (by omega) u r h;obtain⟨bb,h1,h2,h3⟩:=step;unfold I7 at h1;rw[vH] at h1;have hs:=h2 h1;rw[xw] at hs
        cases hs with
        | pure hv=>
          unfold dQ at hv;injection hv with hv;rw[<- ih];exact hv.symm
      · cases h
    · rw[if_neg hd]
      have hb:isDst t o.dst=false:=by
        cases hq:o.dst with
        | none=>rfl
        | some t'=>
          cases hb:Nat.beq t' t
          · exact hb
          · exact absurd (by rw[hq,ai hb]) hd
      rw[hb] at h;exact po hL hp j (by omega) t r h
theorem Kd {n:Nat}:∀ {l:List Nat},n∈l->pM n l=true
  | m :: r,h=>by
    unfold pM
    cases hb:Nat.beq m n with
    | true=>rfl
    | false=>
      rcases List.mem_cons.1 h with h|h
      · subst h
        rw[Nat.beq_refl] at hb
        cases hb
      · exact Kd h
theorem yb (hL:L.map (·.1)=ops.toList)(hp:fh P T ops id s0 L){i b:Nat}(hi:i<=L.length){x:Operand}(h:apart s0 ops.toList b i x=true):b∉(ev (bU s0 (L.take i)) x).ed:=fun hm=>by
  cases x with
  | tmp t=>
    simp only[apart] at h;split at h
    · rename_i r hr
      rw[show ev (bU s0 (L.take i)) (.tmp t)=(bU s0 (L.take i)).get t from rfl,po hL hp i hi t r hr] at hm;rw[Kd hm] at h
      cases h
    · cases h
  | const v=>
    simp only[ev] at hm;split at hm <;> simp[AV.ed,AV.iu] at hm
  | func f=>simp[ev,AV.ed,AV.iu] at hm
  | global g=>simp[ev,AV.ed,AV.iu] at hm
theorem F3 (hL:L.map (·.1)=ops.toList)(hp:fh P T ops id s0 L){i b:Nat}{o:Oper}{d:Dl}(hi:L[i]? = some (o,d))(h:sK s0 ops.toList b i o.op=true):∀ cs,lk d.bs b≠some cs:=fun cs hc=>by
  have oB:i<=L.length:=db (an.1 hi).1;unfold sK at h;split at h
  · rename_i f args s7 xw
    rw[ah] at h;obtain⟨bb,_,h2,h3⟩:=hp i o d hi
    cases bb with
    | false=>rw[h3 rfl] at hc;cases hc
    | true=>
      have hs:=h2 rfl;rw[xw] at hs
      cases hs with
      | pure hv=>cases hv
      | call=>cases hc
      | @xY f args s7 g vs dh mb mr ib ir rv ob fF nr h1 _ _ _ h5 _=>
        obtain⟨k1,_⟩:=JV h5;obtain⟨v,hv,hbv⟩:=List.mem_flatMap.1 (k1 b (wT hc));have ha:∀ x∈args.toList,b∉(ev (bU s0 (L.take i)) x).ed:=fun x hx=>yb hL hp oB (aN.1 h.2 x hx);have hf:=yb hL hp oB h.1;unfold pY at h1;split at h1
        · rename_i g' caps e
          rw[e] at hf
          cases h1
          rcases bh.1 hv with hv|hv
          · obtain⟨x,hx,rfl⟩:=bL.1 hv
            exact ha x hx hbv
          · obtain⟨c,nv,rfl⟩:=bL.1 hv
            refine hf ?_;simp only[AV.ed,AV.iu,aJ] at hbv ⊢;exact bL.2 ⟨c,nv,hbv.symm⟩
        · cases h1
          rcases bh.1 hv with hv|hv
          · obtain⟨x,hx,rfl⟩:=bL.1 hv
            exact ha x hx hbv
          · obtain⟨c,nv,rfl⟩:=bL.1 hv
            simp[AV.ed,AV.iu] at hbv
        · cases h1
  · rename_i xw
    obtain⟨bb,_,h2,h3⟩:=hp i o d hi
    cases bb with
    | false=>rw[h3 rfl] at hc;cases hc
    | true=>
      have hs:=h2 rfl;rw[xw] at hs
      cases hs with
      | pure hv=>cases hv
      | NC=>cases hc
      | NB=>cases hc
  · cases h
theorem Si (hL:L.map (·.1)=ops.toList)(hp:fh P T ops id s0 L)(k0:Kb s0 id){b:Nat}{Gz:List Ce}(h0:lk s0.bx b=some Gz):∀ (j:Nat),j<=L.length->(((ops.toList.take j).zipIdx.all fun p=>!cH T p.1.op||sK s0 ops.toList b p.2 p.1.op)=true)->lk (bU s0 (L.take j)).bx b=some Gz
  | 0,_,_=>h0
  | j+1,hj,h=>by
    obtain⟨o,d,mD⟩:∃ o d,L[j]? = some (o,d):=⟨(L[j]'(by omega)).1,(L[j]'(by omega)).2,by rw[ag]⟩
    have ug:=uB hL mD;have oY:j < ops.toList.length:=(an.1 ug).1;rw[List.take_add_one,ug,Option.toList_some,List.zipIdx_append,List.all_append,ah] at h;have ih:=Si hL hp k0 h0 j (by omega) h.1;rw[List.take_add_one,mD,Option.toList_some,eT]
    have e:((bU s0 (L.take j)).app o.dst d).bx=d.bs++(bU s0 (L.take j)).bx:=by
      unfold St.app
      cases o.dst <;> rfl
    rw[e,cB]
    cases hq:lk d.bs b with
    | none=>exact ih
    | some c=>
      have h2:=h.2;simp only[List.zipIdx_cons,List.zipIdx_nil,List.all_cons,List.all_nil,Bool.and_true,au,Nat.min_eq_left (db oY),bw,cC,cu] at h2;rcases(j8 (hp j o d mD)).1 b c hq with⟨hm,_⟩|za
      · rcases h2 with h2|h2
        · rw[hm] at h2;cases h2
        · exact absurd hq (F3 hL hp mD h2 c)
      · have:=k0.1 b Gz h0
        omega
theorem AJ (hL:L.map (·.1)=ops.toList)(hp:fh P T ops id s0 L):∀ (j:Nat),j<=L.length->∀ (t:Nat),sU (ops.toList.take j).reverse t=true->(∃ k o',(bU s0 (L.take j)).get t=.ptr (id+128*k) o')\/(bU s0 (L.take j)).get t=.gi []
  | 0,_,t,h=>by simp[sU] at h
  | j+1,hj,t,h=>by
    obtain⟨o,d,mD⟩:∃ o d,L[j]? = some (o,d):=⟨(L[j]'(by omega)).1,(L[j]'(by omega)).2,by rw[ag]⟩
    have ug:=uB hL mD;rw[List.take_add_one,ug] at h;simp only[Option.toList_some,List.reverse_append,List.reverse_cons,List.reverse_nil,bE,List.cons_append] at h;rw[List.take_add_one,mD];simp only[Option.toList_some];rw[eT,St.gX];have step:=hp j o d mD;unfold sU at h
    by_cases hd:o.dst=some t
    · rw[if_pos hd]
      rw[hd] at h;simp only[isDst,Nat.beq_refl] at h;split at h
      · rename_i ty xw _
        obtain⟨bb,h1,h2,h3⟩:=step
        cases bb with
        | false=>
          rw[h3 rfl];exact .inr rfl
        | true=>
          have hs:=h2 rfl;rw[xw] at hs
          cases hs with
          | pure hv=>cases hv
          | alloc _=>exact .inl ⟨j,0,rfl⟩
      · cases h
    · rw[if_neg hd]
      have hb:isDst t o.dst=false:=by
        cases hq:o.dst with
        | none=>rfl
        | some t'=>
          cases hb:Nat.beq t' t
          · exact hb
          · exact absurd (by rw[hq,ai hb]) hd
      rw[hb] at h;exact AJ hL hp j (by omega) t h
theorem mP (hL:L.map (·.1)=ops.toList)(hp:fh P T ops id s0 L):∀ (j:Nat),j<=L.length->∀ (t r τ bA k i o0:Nat),uF (ops.toList.take j).reverse t=some r->s0.get r=.dX τ bA k i o0->∃ o',(bU s0 (L.take j)).get t=.dX τ bA k i o'
  | 0,_,t,r,τ,bA,k,i,o0,h,hr=>by
    obtain rfl:t=r:=by simpa [uF] using h
    exact⟨o0,hr⟩
  | j+1,hj,t,r,τ,bA,k,i,o0,h,hr=>by
    obtain⟨o,d,mD⟩:∃ o d,L[j]? = some (o,d):=⟨(L[j]'(by omega)).1,(L[j]'(by omega)).2,by rw[ag]⟩
    have ug:=uB hL mD;rw[List.take_add_one,ug] at h;simp only[Option.toList_some,List.reverse_append,List.reverse_cons,List.reverse_nil,bE,List.cons_append] at h;rw[List.take_add_one,mD];simp only[Option.toList_some];rw[eT,St.gX];have step:=hp j o d mD;unfold uF at h
    by_cases hd:o.dst=some t
    · rw[if_pos hd]
      rw[hd] at h;simp only[isDst,Nat.beq_refl] at h;obtain⟨bb,h1,h2,h3⟩:=step;unfold I7 at h1;split at h
      · rename_i ty u f xw vH
        obtain⟨o',ih⟩:=mP hL hp j (by omega) u r τ bA k i o0 h hr;rw[vH] at h1;have hs:=h2 h1;rw[xw] at hs
        cases hs with
        | pure hv=>
          unfold dQ at hv;simp only[ev,ih] at hv;split at hv
          · split at hv
            · split at hv
              · rename_i y _
                cases hb:Nat.blt 0 y.sz with
                | false=>rw[hb] at hv;cases hv
                | true=>
                  rw[hb] at hv
                  cases hv
                  exact⟨_,rfl⟩
              · cases hv
            · cases hv
          · cases hv
      · rename_i u xw vH
        obtain⟨o',ih⟩:=mP hL hp j (by omega) u r τ bA k i o0 h hr;rw[vH] at h1;have hs:=h2 h1;rw[xw] at hs
        cases hs with
        | pure hv=>
          unfold dQ at hv;simp only[ev,ih] at hv
          cases hv
          exact⟨_,rfl⟩
      · rename_i u xw vH
        obtain⟨o',ih⟩:=mP hL hp j (by omega) u r τ bA k i o0 h hr;rw[vH] at h1;have hs:=h2 h1;rw[xw] at hs
        cases hs with
        | pure hv=>
          unfold dQ at hv;simp only[ev,ih] at hv
          cases hv
          exact⟨_,rfl⟩
      · cases h
    · rw[if_neg hd]
      have hb:isDst t o.dst=false:=by
        cases hq:o.dst with
        | none=>rfl
        | some t'=>
          cases hb:Nat.beq t' t
          · exact hb
          · exact absurd (by rw[hq,ai hb]) hd
      rw[hb] at h;exact mP hL hp j (by omega) t r τ bA k i o0 h hr
theorem Ly (hL:L.map (·.1)=ops.toList)(hp:fh P T ops id s0 L){j:Nat}{di:Dl}{oj:Oper}{dj:Dl}(hj:L[j]? = some (oj,dj))(h:Yt s0 ops.toList oj.op j=true) :
    dj.bs=[]/\dj.rs=[]/\(∀ b cs,lk di.bs b=some cs->∀ x∈oj.op.operands,b∉(ev (bU s0 (L.take j)) x).ed)/\∀ τ R,lk di.rs τ=some R->∀ x∈oj.op.operands,(∀ p∈(ev (bU s0 (L.take j)) x).cP,p.1≠τ)/\∀ b∈(ev (bU s0 (L.take j)) x).ed,∀ cs,lk (bU s0 (L.take j)).bx b=some cs->∀ p∈cs.flatMap Ce.cP,p.1≠τ:=by
  unfold Yt at h;split at h
  · rename_i t m y ok p e1 e2
    rw[uB hL hj] at e2
    cases e2
    simp only[ah,Option.isNone_iff_eq_none] at h;obtain⟨hg,h⟩:=h;split at h
    · rename_i r hr
      split at h
      · rename_i z MU
        have oY:=(an.1 hj).1;have k2:=po hL hp j (by omega) m r hr;rw[MU] at k2;obtain⟨bb,h1,h2,h3⟩:=hp j oj dj hj;unfold I7 at h1;rw[hg] at h1;have hs:=h2 h1;rw[e1] at hs;have hm:ev (bU s0 (L.take j)) (.tmp m)=.c (.t z):=k2
        have fin:∀ v:Value,ev (bU s0 (L.take j)) y=.c (.t (.lit v))->∀ x∈oj.op.operands,(ev (bU s0 (L.take j)) x).ed=[]/\(ev (bU s0 (L.take j)) x).cP=[]:=fun v hv x hx=>by
          rw[e1] at hx;have:x=.tmp m\/x=y:=by simpa [Op.operands] using hx
          rcases this with rfl|rfl
          · rw[hm];exact⟨rfl,rfl⟩
          · rw[hv];exact⟨rfl,rfl⟩
        cases hs with
        | pure hv=>cases hv
      · cases h
    · cases h
  · cases h
theorem OR (hL:L.map (·.1)=ops.toList)(hp:fh P T ops id s0 L)(k0:Kb s0 id){τ:Nat}{R:Row}(h0:lk s0.rw τ=some R):∀ (j:Nat),j<=L.length->(((ops.toList.take j).all fun p=>!cH T p.op)=true)->lk (bU s0 (L.take j)).rw τ=some R
  | 0,_,_=>h0
  | j+1,hj,h=>by
    obtain⟨o,d,mD⟩:∃ o d,L[j]? = some (o,d):=⟨(L[j]'(by omega)).1,(L[j]'(by omega)).2,by rw[ag]⟩
    have ug:=uB hL mD;rw[List.take_add_one,ug,Option.toList_some,List.all_append,ah] at h;have ih:=OR hL hp k0 h0 j (by omega) h.1;rw[List.take_add_one,mD,Option.toList_some,eT,St.iw,cB]
    cases hq:lk d.rs τ with
    | none=>exact ih
    | some c=>
      have h2:=h.2;simp only[List.all_cons,List.all_nil,Bool.and_true,cu] at h2;rcases(j8 (hp j o d mD)).2.1 τ c hq with⟨hm,_⟩|za
      · rw[hm] at h2;cases h2
      · have:=k0.2 τ R h0
        omega
theorem kW (hL:L.map (·.1)=ops.toList)(hp:fh P T ops id s0 L)(k0:Kb s0 id){i j:Nat}{oi oj:Oper}{di dj:Dl}(hi:L[i]? = some (oi,di))(hj:L[j]? = some (oj,dj))(h:Lz T s0 ops.toList oi.op i oj.op j=true) :
    dj.bs=[]/\dj.rs=[]/\(∀ b cs,lk di.bs b=some cs->∀ x∈oj.op.operands,b∉(ev (bU s0 (L.take j)) x).ed)/\∀ τ R,lk di.rs τ=some R->∀ x∈oj.op.operands,(∀ p∈(ev (bU s0 (L.take j)) x).cP,p.1≠τ)/\∀ b∈(ev (bU s0 (L.take j)) x).ed,∀ cs,lk (bU s0 (L.take j)).bx b=some cs->∀ p∈cs.flatMap Ce.cP,p.1≠τ:=by
  unfold Lz at h;rcases cC _ _▸h with h|h
  · obtain⟨h1,h2,h3,h4⟩:=OL hL hp hi hj h
    exact⟨h2,h3,h4,fun τ R hR=>by rw[h1] at hR;cases hR⟩
  rcases cC _ _▸h with h|h
  case inr=>
   rcases cC _ _▸h with h|h
   case inr=>
    rcases cC _ _▸h with h|h
    case inr=>exact Ly hL hp hj h
    unfold afT at h;split at h
    · rename_i g args s7 ty c e1 e2
      simp only[ah] at h;obtain⟨hg,fk,h⟩:=h;split at h
      · rename_i r hr
        split at h
        · rename_i τ bA k p0 o0 MU
          split at h
          · rename_i R hR
            have oB:=(an.1 hi).1;have oY:=(an.1 hj).1;have hτ:=k0.2 τ R hR;have hRi:=OR hL hp k0 hR i (by omega) fk;obtain⟨o',k2⟩:=mP hL hp j (by omega) c r τ bA k p0 o0 hr MU;obtain⟨l1,l2⟩:=pv (hp j oj dj hj) e2
            have xw:∀ x∈oj.op.operands,x=.tmp c:=fun x hx=>by
              rw[e2] at hx;simpa [Op.operands] using hx
            have aqX:lk di.rs τ=none:=by
              cases hq:lk di.rs τ with
              | none=>rfl
              | some R'=>
                exfalso;obtain⟨bb,_,h2,h3⟩:=hp i oi di hi
                cases bb with
                | false=>rw[h3 rfl] at hq;cases hq
                | true=>
                  have hs:=h2 rfl;rw[e1] at hs
                  cases hs with
                  | pure hv=>cases hv
                  | call q1 q2 q3 q4=>
                    rw[fc] at hq;split at hq
                    · omega
                    · cases hq
                  | xY q1 q2 q3 q4 q5 q6=>
                    rw[cB] at hq;split at hq
                    · rename_i x hx
                      obtain⟨p,hpm,hpe⟩:=bL.1 (wS hx);obtain⟨R0,g1,g2⟩:=Zf q5 hg p hpm;rw[hpe,hRi] at g1
                      cases g1
                      rw[g2] at h;simp at h
                    · rw[fc] at hq
                      split at hq
                      · omega
                      · cases hq
            refine⟨l1,l2,fun b2 cs hb x hx hm=>?_,fun τ2 R2 XP x hx=>?_⟩
            · rw[xw x hx,show ev (bU s0 (L.take j)) (.tmp c)=_ from k2] at hm
              simp[AV.ed,AV.iu] at hm
            · rw[xw x hx,show ev (bU s0 (L.take j)) (.tmp c)=_ from k2]
              refine⟨fun p hp e=>?_,fun b2 dK=>by simp[AV.ed,AV.iu] at dK⟩;have:p=(τ,bA):=by simpa [AV.cP,AV.ig] using hp
              subst this;have e:τ=τ2:=e;rw[<- e,aqX] at XP
              cases XP
          · cases h
        · cases h
      · cases h
    · cases h
   case inl=>
    unfold afV at h;split at h
    · rename_i t a x t' c e1 e2
      simp only[ah] at h;obtain⟨ha,h⟩:=h;split at h
      · rename_i r hr
        split at h
        · rename_i b q hg
          split at h
          · rename_i Gz aaX
            have oB:=(an.1 hi).1;have oY:=(an.1 hj).1;have NV:=k0.1 b Gz aaX;have k1:=AJ hL hp i (by omega) a ha;have k2:=mO hL hp j (by omega) c r b q hr hg;obtain⟨l1,l2⟩:=pv (hp j oj dj hj) e2
            have xw:∀ x∈oj.op.operands,x=.tmp c:=fun x hx=>by
              rw[e2] at hx;simpa [Op.operands] using hx
            rcases k1 with⟨k,q1,k1⟩|k1
            · obtain⟨s1,s2⟩:=zy (hp i oi di hi) e1 (show ev _ (.tmp a)=_ from k1)
              refine⟨l1,l2,fun b2 cs hb x hx hm=>?_,fun τ R hR=>by rw[s2] at hR;cases hR⟩;rw[xw x hx] at hm;rcases k2 with⟨q2,k2⟩|k2
              · rw[show ev (bU s0 (L.take j)) (.tmp c)=.ptr b q2 from k2] at hm
                have:b2=b:=by simpa [AV.ed,AV.iu] using hm
                have:=s1 b2 cs hb;omega
              · rw[show ev (bU s0 (L.take j)) (.tmp c)=.gi [] from k2] at hm
                simp[AV.ed] at hm
            · obtain⟨s1,s2⟩:=zx (hp i oi di hi) e1 (show ev _ (.tmp a)=_ from k1)
              exact⟨l1,l2,(fun b2 cs hb=>by rw[s1] at hb;cases hb),(fun τ R hR=>by rw[s2] at hR;cases hR)⟩
          · cases h
        · cases h
      · cases h
    · cases h
  unfold afU at h;split at h
  · rename_i t c e2
    split at h
    · rename_i r hr
      split at h
      · rename_i b q hg
        have oY:j<=L.length:=db (an.1 hj).1;have k2:=mO hL hp j oY c r b q hr hg;obtain⟨l1,l2⟩:=pv (hp j oj dj hj) e2;simp only[ah] at h;obtain⟨h1,h2,h3⟩:=h;split at h2
        · rename_i Gz aaX
          have hbx:=Si hL hp k0 aaX j oY h3
          have xw:∀ x∈oj.op.operands,x=.tmp c:=fun x hx=>by
            rw[e2] at hx;simpa [Op.operands] using hx
          refine⟨l1,l2,fun b2 cs hb x hx hm=>?_,fun τ R hR x hx=>?_⟩
          · rw[xw x hx] at hm
            rcases k2 with⟨q2,k2⟩|k2
            · rw[show ev (bU s0 (L.take j)) (.tmp c)=.ptr b q2 from k2] at hm
              have:b2=b:=by simpa [AV.ed,AV.iu] using hm
              subst this;exact F3 hL hp hi h1 cs hb
            · rw[show ev (bU s0 (L.take j)) (.tmp c)=.gi [] from k2] at hm
              simp[AV.ed] at hm
          · rw[xw x hx]
            rcases k2 with⟨q2,k2⟩|k2
            · rw[show ev (bU s0 (L.take j)) (.tmp c)=.ptr b q2 from k2]
              refine⟨fun p hp=>by simp[AV.cP,AV.ig] at hp,fun b2 dK cs en p hp=>?_⟩;have:b2=b:=by simpa [AV.ed,AV.iu] using dK
              subst this;rw[hbx] at en
              cases en
              rw[List.isEmpty_iff.1 h2] at hp
              cases hp
            · rw[show ev (bU s0 (L.take j)) (.tmp c)=.gi [] from k2]
              exact⟨fun p hp=>by simp[AV.cP] at hp,fun b2 dK=>by simp[AV.ed] at dK⟩
        · cases h2
      · cases h
    · cases h
  · cases h
structure WZ (P:Program)(T:Nat->Option Ty)(O:iy)(ops:Array Oper)(N n0 id m:Nat)(s0:St)(L:List (Oper × Dl))(D:Nat->Bool)(E:Env)(w:World)(a:Act):Prop where
  rep:cx O E w n0 N m (nq s0 L D) a
  clo:Clo ops.toList D
  bx:∀ b cs,lk (nq s0 L D).bx b=some cs->b < id\/∃ i,D i=true/\id+128*i<=b/\b < id+128*i+128
  rw:∀ b cs,lk (nq s0 L D).rw b=some cs->b < id\/∃ i,D i=true/\id+128*i<=b/\b < id+128*i+128
theorem acC (hT:dz P T)(ja:kC N ops true=true)(oW:xe T s0 (qI ops.toList []) ops.toList=true)(hL:L.map (·.1)=ops.toList)(hp:fh P T ops id s0 L)(k0:Kb s0 id)(hm:id+128*ops.size<=m){Q:Exit->Act->World->Prop}{D:Nat->Bool}{E:Env}{w:World}{a:Act}(inv:WZ P T O ops N n0 id m s0 L D E w a){j:Nat}{o:Oper}(ug:ops[j]? = some o)(NZ:D j=false)(Co:∀ e∈o.after,Region.binds .any e=true->D e.on=true){K:Act->World->Prop}
    (hK:∀ E' w' a',WZ P T O ops N n0 id m s0 L (jf D j) E' w' a'->Below n0 w w'->K a' w'):wpOp P ops Q j K a w:=by
  have hlen:L.length=ops.size:=by rw[<- Lm (f:=(·.1)),hL,bP]
  have oY:j < ops.size:=(Array.getElem?_eq_some_iff.1 ug).1;unfold kC at ja;simp only[Bool.not_true,Bool.false_or,ah,decide_eq_true_eq] at ja;obtain⟨hN,⟨⟨apZ,Rb⟩,arP⟩,pA⟩:=ja;obtain⟨o',d,mD⟩:∃ o d,L[j]? = some (o,d):=⟨(L[j]'(by omega)).1,(L[j]'(by omega)).2,by rw[ag]⟩
  have It:ops.toList[j]? = some o:=by rw[dF];exact ug
  obtain rfl:o'=o:=by
    have:=uB hL mD;rw[It] at this;exact(aY this).symm
  have aiS:=hp j o' d mD
  have Fe:Clo ops.toList (jf D j):=fun i x hx VZ e he hb=>by
    simp only[jf,cC] at VZ ⊢;rcases VZ with VZ|VZ
    · exact .inl (inv.clo i x hx VZ e he hb)
    · obtain rfl:=ai VZ
      rw[It] at hx
      cases hx
      exact .inl (Co e he hb)
  have sj:bU s0 (L.take j)=nq s0 L (fun k=>decide (k < j)):=by unfold nq;rw[OO]
  -- slots that are used
  have MU:∀ t,(∀ i oi di,L[i]? = some (oi,di)->oi.dst=some t->D i=decide (i < j))->(nq s0 L D).get t=(bU s0 (L.take j)).get t:=fun t h=>by
    rw[sj];exact uk h
  have eL:∀ x∈o'.op.operands,ev (nq s0 L D) x=ev (bU s0 (L.take j)) x:=fun x hx=>by
    cases x with
    | tmp t=>
      refine MU t fun i oi di hi hd=>?_
      by_cases nt:i=j
      · subst nt
        rw[NZ];simp
      · have h:=pg apZ (uB hL hi)
        simp only[hd] at h;have h2:=pg h It;have asE:o'.op.operands.toList.any (QP t)=true:=List.any_eq_true.2 ⟨.tmp t,Array.mem_toList_iff.2 hx,by simp[QP]⟩;simp only[asE,Bool.not_true,Bool.false_or,cC] at h2;rcases h2 with h2|h2
        · exact absurd (ai h2) nt
        · exact rK inv.clo Fe NZ nt (.inl h2)
    | _=>rfl
  have apU:∀ b,I7 ops (bU s0 (L.take j)) o' b->I7 ops (nq s0 L D) o' b:=fun b h=>by
    unfold I7 at h ⊢;split
    · rename_i hg
      rw[hg] at h;exact h
    · rename_i g want hg
      rw[hg] at h;obtain⟨t,ht,h⟩:=h;refine⟨t,ht,?_⟩;rw[MU t fun i oi di hi hd=>?_]
      · exact h
      · have h1:=aN.1 arP o' (bc It)
        rw[hg] at h1;obtain⟨e,he,hb⟩:=List.any_eq_true.1 h1;simp only[ah] at hb;have heg:=ai hb.1;have hDg:=Co e (Array.mem_toList_iff.1 he) hb.2;have aU:=aN.1 (pg Rb It) e he;rw[hb.2,Bool.not_true,Bool.false_or] at aU;have aU:e.on < j:=Nb aU
        cases hog:ops[g]? with
        | none=>rw[hog] at ht;cases ht
        | some og=>
          rw[hog] at ht;have aqR:ops.toList[g]? = some og:=by rw[dF];exact hog
          have:i=g:=qE pA i g oi og t (uB hL hi) aqR hd ht;rw[this,<- heg,hDg];simp[aU]
  -- what the operation touches in memory
  have xy:=fun i oi di hi=>j8 (hp i oi di hi)
  have KE:∀ (i:Nat) (oi:Oper) (di:Dl),L[i]? = some (oi,di)->((∃ b cs,lk di.bs b=some cs)\/(∃ b R,lk di.rs b=some R))->mo oi.op=true:=fun i oi di hi h=>by
    cases hh:mo oi.op with
    | true=>rfl
    | false=>
      obtain⟨h1,h2⟩:=(xy i oi di hi).2.2 hh;rcases h with⟨b,cs,h⟩|⟨b,cs,h⟩
      · rw[h1] at h;cases h
      · rw[h2] at h;cases h
  have kbj:=nK hp k0 j (by omega)
  have agB:mo o'.op=true->∀ x∈o'.op.operands,∀ b∈(ev (bU s0 (L.take j)) x).ed,(nq s0 L D).hasB b->∀ cs,lk (bU s0 (L.take j)).bx b=some cs->lk (nq s0 L D).bx b=some cs:=fun hh x hx b hbx hb cs en=>by
    rw[<- en,sj];refine xZ fun i oi di iH hi hc=>?_
    by_cases nt:i=j
    · subst nt
      rw[NZ];simp
    · rcases(xy i oi di hi).1 b iH hc with⟨hmd,_⟩|za
      · rcases xo hL oW hi mD nt (KE i oi di hi (.inl ⟨b,iH,hc⟩)) hh (.inl hmd) with ho|ho|ho
        · exact rK inv.clo Fe NZ nt (.inl ho)
        · exact absurd hbx ((kW hL hp k0 hi mD ho).2.2.1 b iH hc x hx)
        · rw[(kW hL hp k0 mD hi ho).1] at hc
          cases hc
      · have h1:=kbj.1 b cs en
        obtain⟨c2,nv⟩:=hb;rcases inv.bx b c2 nv with h2|⟨i2,h2,h3,h4⟩
        · omega
        · obtain rfl:i2=i:=by omega
          rw[h2];simp;omega
  have agR:mo o'.op=true->∀ x∈o'.op.operands,∀ b,((∃ p∈(ev (bU s0 (L.take j)) x).cP,p.1=b)\/∃ b2∈(ev (bU s0 (L.take j)) x).ed,∃ Wt,lk (bU s0 (L.take j)).bx b2=some Wt/\∃ p∈Wt.flatMap Ce.cP,p.1=b)->(∃ R0,lk (nq s0 L D).rw b=some R0)->∀ cs,lk (bU s0 (L.take j)).rw b=some cs->lk (nq s0 L D).rw b=some cs:=fun hh x hx b aaC hb cs en=>by
    rw[<- en,sj];refine wo fun i oi di iH hi hc=>?_
    by_cases nt:i=j
    · subst nt
      rw[NZ];simp
    · rcases(xy i oi di hi).2.1 b iH hc with⟨hmd,_⟩|za
      · rcases xo hL oW hi mD nt (KE i oi di hi (.inr ⟨b,iH,hc⟩)) hh (.inl hmd) with ho|ho|ho
        · exact rK inv.clo Fe NZ nt (.inl ho)
        · have s:=(kW hL hp k0 hi mD ho).2.2.2 b iH hc x hx
          rcases aaC with⟨p,qM,uf⟩|⟨b2,dK,Wt,arW,p,qM,uf⟩
          · exact absurd uf (s.1 p qM)
          · exact absurd uf (s.2 b2 dK Wt arW p qM)
        · rw[(kW hL hp k0 mD hi ho).2.1] at hc
          cases hc
      · have h1:=kbj.2 b cs en
        obtain⟨c2,nv⟩:=hb;rcases inv.rw b c2 nv with h2|⟨i2,h2,h3,h4⟩
        · omega
        · obtain rfl:i2=i:=by omega
          rw[h2];simp;omega
  have QZ:mH P T ops id j (nq s0 L D) o' d:=by
    obtain⟨b,h1,h2,h3⟩:=aiS;refine⟨b,apU b h1,fun hb=>OB (h2 hb) eL fun hh x hx=>?_,h3⟩;have hn:=jF inv.rep.sc x;rw[eL x hx] at hn
    refine⟨fun b hb cs en=>?_,fun p hp R hR=>agR hh x hx p.1 (.inl ⟨p,hp,rfl⟩) (by
      obtain⟨R0,h,_⟩:=hn.2 p hp;exact⟨R0,h⟩) R hR⟩
    have dK:=agB hh x hx b hb (hn.1 b hb) cs en;refine⟨dK,fun p hp R hR=>agR hh x hx p.1 (.inr ⟨b,hb,cs,en,p,hp,rfl⟩) ?_ R hR⟩;obtain⟨R0,h,_⟩:=inv.rep.sc.br b cs dK p hp;exact⟨R0,h⟩
  have aaQ:nj (nq s0 L D) (id+128*j):=fun i h1 h2=>by
    refine⟨?_,?_⟩
    · cases hq:lk (nq s0 L D).bx i with
      | none=>rfl
      | some cs=>
        rcases inv.bx i cs hq with h|⟨i2,h3,h4,h5⟩
        · omega
        · obtain rfl:i2=j:=by omega
          rw[NZ] at h3;cases h3
    · cases hq:lk (nq s0 L D).rw i with
      | none=>rfl
      | some cs=>
        rcases inv.rw i cs hq with h|⟨i2,h3,h4,h5⟩
        · omega
        · obtain rfl:i2=j:=by omega
          rw[NZ] at h3;cases h3
  have hd:∀ x,o'.dst=some x->x < N:=fun x hx=>by
    have h1:=aN.1 hN o' (bc It);rw[hx] at h1;exact Nb h1
  -- the state behind the operation
  have Sw:jf D j j=true:=by simp[jf]
  have WQ:∀ k,k≠j->jf D j k=D k:=fun k hk=>by
    have:Nat.beq k j=false:=by
      cases hb:Nat.beq k j
      · rfl
      · exact absurd (ai hb) hk
    simp[jf,this]
  -- who writes the same key comes in front
  have before:∀ (b:Nat),(∃ x,lk d.bs b=some x)\/(∃ x,lk d.rs b=some x)->∀ (i:Nat) (oi:Oper) (di:Dl),L[i]? = some (oi,di)->((∃ x,lk d.bs b=some x)/\(∃ x,lk di.bs b=some x))\/((∃ x,lk d.rs b=some x)/\(∃ x,lk di.rs b=some x))->jf D j i=true->i<=j:=fun b hb i oi di hi Q8 VZ=>by
    by_cases nt:i=j
    · omega
    · rw[WQ i nt] at VZ
      have hhj:mo o'.op=true:=KE j o' d mD (by
        rcases hb with⟨x,hx⟩|⟨x,hx⟩
        · exact .inl ⟨b,x,hx⟩
        · exact .inr ⟨b,x,hx⟩)
      have hhi:mo oi.op=true:=KE i oi di hi (by
        rcases Q8 with⟨_,x,hx⟩|⟨_,x,hx⟩
        · exact .inl ⟨b,x,hx⟩
        · exact .inr ⟨b,x,hx⟩)
      have go:cH T oi.op=true\/cH T o'.op=true->i<=j:=fun hmd=>by
        rcases xo hL oW hi mD nt hhi hhj hmd with ho|ho|ho
        · have:=rK inv.clo Fe NZ nt (.inl ho)
          rw[VZ] at this;have:=of_decide_eq_true this.symm;omega
        · have s:=kW hL hp k0 hi mD ho
          rcases hb with⟨x,hx⟩|⟨x,hx⟩
          · rw[s.1] at hx;cases hx
          · rw[s.2.1] at hx;cases hx
        · have s:=kW hL hp k0 mD hi ho
          rcases Q8 with⟨_,x,hx⟩|⟨_,x,hx⟩
          · rw[s.1] at hx;cases hx
          · rw[s.2.1] at hx;cases hx
      rcases Q8 with⟨⟨x,hx⟩,y,hy⟩|⟨⟨x,hx⟩,y,hy⟩
      · rcases(xy i oi di hi).1 b y hy with⟨h,_⟩|h1
        · exact go (.inl h)
        · rcases(xy j o' d mD).1 b x hx with⟨h,_⟩|h2
          · exact go (.inr h)
          · exact absurd (by omega:i=j) nt
      · rcases(xy i oi di hi).2.1 b y hy with⟨h,_⟩|h1
        · exact go (.inl h)
        · rcases(xy j o' d mD).2.1 b x hx with⟨h,_⟩|h2
          · exact go (.inr h)
          · exact absurd (by omega:i=j) nt
  have last:∀ (D2:Nat->Bool),D2 j=true->(∀ k,j < k->D2 k=false)->nq s0 L D2=(bU s0 (rA D2 0 (L.take j))).app o'.dst d:=fun D2 h1 h2=>by
    unfold nq;rw[OP mD h1 h2,eT]
  have aaU:kT ((nq s0 L D).app o'.dst d) (nq s0 L (jf D j)):=by
    refine⟨fun t=>?_,fun b=>?_,fun τ=>?_⟩
    · rw[St.gX]
      by_cases ht:o'.dst=some t
      · rw[if_pos ht]
        have:(nq s0 L (jf D j)).get t=(nq s0 L fun k=>Nat.beq k j).get t:=uk fun k ok dk hk hdk=>by
          have:k=j:=qE pA k j ok o' t (uB hL hk) It hdk ht;rw[this,Sw];simp
        rw[this,last _ (by simp) (fun k hk=>by
          cases hb:Nat.beq k j
          · rfl
          · have:=ai hb;omega),St.gX,if_pos ht]
      · rw[if_neg ht]
        exact uk fun k ok dk hk hdk=>by
          by_cases XE:k=j
          · subst XE
            rw[mD] at hk
            cases hk
            exact absurd hdk ht
          · rw[WQ k XE]
    · rw[St.je,cB]
      cases hq:lk d.bs b with
      | some x=>
        have:lk (nq s0 L (jf D j)).bx b=lk (nq s0 L fun k=>jf D j k&&decide (k<=j)).bx b:=xZ fun k ok dk cs hk hc=>by
          cases hDk:jf D j k with
          | false=>rfl
          | true=>
            have:=before b (.inl ⟨x,hq⟩) k ok dk hk (.inl ⟨⟨x,hq⟩,cs,hc⟩) hDk;simp[this]
        rw[this,last _ (by simp[Sw]) (fun k hk=>by simp;intro;omega),St.je,cB,hq]
      | none=>
        exact xZ fun k ok dk cs hk hc=>by
          by_cases XE:k=j
          · subst XE
            rw[mD] at hk
            cases hk
            rw[hq] at hc
            cases hc
          · rw[WQ k XE]
    · rw[St.iw,cB]
      cases hq:lk d.rs τ with
      | some x=>
        have:lk (nq s0 L (jf D j)).rw τ=lk (nq s0 L fun k=>jf D j k&&decide (k<=j)).rw τ:=wo fun k ok dk cs hk hc=>by
          cases hDk:jf D j k with
          | false=>rfl
          | true=>
            have:=before τ (.inr ⟨x,hq⟩) k ok dk hk (.inr ⟨⟨x,hq⟩,cs,hc⟩) hDk;simp[this]
        rw[this,last _ (by simp[Sw]) (fun k hk=>by simp;intro;omega),St.iw,cB,hq]
      | none=>
        exact wo fun k ok dk cs hk hc=>by
          by_cases XE:k=j
          · subst XE
            rw[mD] at hk
            cases hk
            rw[hq] at hc
            cases hc
          · rw[WQ k XE]
  obtain⟨ky1,ky2,_⟩:=j8 QZ;refine DN hT inv.rep ug hd aaQ (by omega) QZ fun E' v w' r' hb=>hK E' w' _ ⟨aaU.rep r',Fe,fun b cs en=>?_,fun b cs en=>?_⟩ hb
  · rw[aaU.bx,St.je,cB] at en
    cases hq:lk d.bs b with
    | some x=>
      rcases ky1 b x hq with⟨_,c0,Cq⟩|h
      · rcases inv.bx b c0 Cq with h|⟨i,h1,h2⟩
        · exact .inl h
        · exact .inr ⟨i,by simp[jf,h1],h2⟩
      · exact .inr ⟨j,Sw,h⟩
    | none=>
      rw[hq] at en;rcases inv.bx b cs en with h|⟨i,h1,h2⟩
      · exact .inl h
      · exact .inr ⟨i,by simp[jf,h1],h2⟩
  · rw[aaU.rw,St.iw,cB] at en
    cases hq:lk d.rs b with
    | some x=>
      rcases ky2 b x hq with⟨_,c0,Cq⟩|h
      · rcases inv.rw b c0 Cq with h|⟨i,h1,h2⟩
        · exact .inl h
        · exact .inr ⟨i,by simp[jf,h1],h2⟩
      · exact .inr ⟨j,Sw,h⟩
    | none=>
      rw[hq] at en;rcases inv.rw b cs en with h|⟨i,h1,h2⟩
      · exact .inl h
      · exact .inr ⟨i,by simp[jf,h1],h2⟩
theorem u4 (hT:dz P T)(ja:kC N ops true=true)(oW:xe T s0 (qI ops.toList []) ops.toList=true)(hL:L.map (·.1)=ops.toList)(hp:fh P T ops id s0 L)(k0:Kb s0 id)(hm:id+128*ops.size<=m){Q:Exit->Act->World->Prop} :
    ∀ (fuel:Nat) (fH:Array Bool) (E:Env) (w:World) (a:Act),fH.size=ops.size->N1 (fun i=>fH.getD i false) ops.size<=fuel->WZ P T O ops N n0 id m s0 L (fun i=>fH.getD i false) E w a->(∀ E' w' a',cx O E' w' n0 N m (bU s0 L) a'->Below n0 w w'->Q .normal a' w')->wpAny P .any ops Q fuel fH a w:=by
  have hlen:L.length=ops.size:=by rw[<- Lm (f:=(·.1)),hL,bP]
  have Rb:KY ops.toList=true:=by
    unfold kC at ja;simp only[Bool.not_true,Bool.false_or,ah,decide_eq_true_eq] at ja;exact ja.2.1.1.2
  have fin:∀ (fH:Array Bool) (E:Env) (w:World) (a:Act),(∀ i,i < ops.size->fH.getD i false=true)->WZ P T O ops N n0 id m s0 L (fun i=>fH.getD i false) E w a->cx O E w n0 N m (bU s0 L) a:=fun fH E w a h inv=>by
    have:=inv.rep;unfold nq at this
    rwa [BD fun k hk=>by rw[bw];exact h k (by omega)] at this
  intro fuel
  induction fuel with
  | zero=>
    intro fH E w a hs hc inv hQ;have iN:=FQ ops.size (Nat.le_zero.1 hc);refine⟨?_,hQ E w a (fin fH E w a iN inv) (Below.refl _ _)⟩
    cases hr:Region.ready .any ops fH with
    | nil=>rfl
    | cons j r=>
      have hj:j∈Region.ready .any ops fH:=by rw[hr];exact aB
      obtain⟨h1,o,ho,_⟩:=mem_ready.1 hj;have oY:=(Array.getElem?_eq_some_iff.1 ho).1;have:=iN j oY;rw[Array.getD_eq_getD_getElem?,Array.getElem?_eq_getElem (by omega)] at h1 this;simp at h1 this;rw[h1] at this
      cases this
  | succ fuel ih=>
    intro fH E w a hs hc inv hQ;refine⟨fun hr=>?_,fun j hj=>?_⟩
    · -- nothing may come: all have come
      have iN:∀ n,n<=ops.size->∀ i,i < n->fH.getD i false=true:=by
        intro n
        induction n with
        | zero=>intro _ i hi;omega
        | succ n ihn=>
          intro hn i hi
          by_cases h:i=n
          · subst h
            cases hd:fH.getD i false with
            | true=>rfl
            | false=>
              exfalso;obtain⟨o,ho⟩:∃ o,ops[i]? = some o:=⟨_,Array.getElem?_eq_getElem (by omega)⟩
              have:i∈Region.ready .any ops fH:=by
                refine mem_ready.2 ⟨?_,o,ho,fun e he hb=>?_⟩
                · rw[Array.getD_eq_getD_getElem?,Array.getElem?_eq_getElem (by omega)] at hd ⊢
                  exact hd
                · have aU:=aN.1 (pg Rb (show ops.toList[i]? = some o by rw[dF];exact ho)) e (Array.mem_toList_iff.2 he)
                  rw[hb,Bool.not_true,Bool.false_or] at aU;exact ihn (by omega) e.on (Nb aU)
              rw[hr] at this
              cases this
          · exact ihn (by omega) i (by omega)
      exact hQ E w a (fin fH E w a (iN ops.size (ak _)) inv) (Below.refl _ _)
    · obtain⟨h1,o,ho,Co⟩:=mem_ready.1 hj
      have oY:=(Array.getElem?_eq_some_iff.1 ho).1
      have NZ:(fun i=>fH.getD i false) j=false:=by
        show fH.getD j false=false;rw[Array.getD_eq_getD_getElem?,Array.getElem?_eq_getElem (by omega)] at h1 ⊢;exact h1
      have ajJ:(fun i=>(fH.setIfInBounds j true).getD i false)=jf (fun i=>fH.getD i false) j:=by
        funext i
        by_cases hi:i=j
        · subst hi
          simp[jf,hs,oY]
        · have:Nat.beq i j=false:=by
            cases hb:Nat.beq i j
            · rfl
            · exact absurd (ai hb) hi
          rw[getD_set_ne false (fun e=>hi e.symm)];simp[jf,this]
      refine acC hT ja oW hL hp k0 hm inv ho NZ Co fun E' w' a' apN hb=>?_;refine ih _ E' w' a' (by simp[hs]) ?_ (by rw[ajJ];exact apN) fun E2 w2 a2 r2 dK=>hQ E2 w2 a2 r2 (hb.trans dK);rw[ajJ];have:=K4 (D:=fun i=>fH.getD i false) NZ ops.size;rw[if_pos oY] at this;omega
end
end
section
variable {P:Program}{T:Nat->Option Ty}{O:iy}[GlC O]
omit [GlC O] in
theorem cx.mv {E E':Env}{w w':World}{n0 N m:Nat}{st:St}{a:Act}(h:cx O E w n0 N m st a)(mv:Mv st E w E' w' (fun _=>False) (fun _=>False)):cx O E' w' n0 N m st a:=
  ⟨h.yn,h.sz,fun t=>mv.slt h.sc t (h.slt t),fun i cs hi=>mv.box h.sc hi (fun h=>h) (h.box i cs hi),fun τ R hR=>mv.row h.sc hR (fun h=>h) (h.row τ R hR),h.sc,aX h.hi mv.size,PR mv h.hi h.nM,XQ mv h.gh,fun j V hj=>by
    obtain⟨h1,R,h2⟩:=h.Zu j V hj;exact⟨(mv.vl j R 0 h2 (aA _)).trans h1,R,h2⟩,fun j b hj=>by
    obtain⟨h1,cs,h2⟩:=h.MA j b hj;exact⟨(mv.bk j cs h2).trans h1,cs,h2⟩,aX h.sn mv.size⟩
omit [GlC O] in
theorem cx.heap {E:Env}{w w':World}{n0 N m:Nat}{st:St}{a:Act}(h:cx O E w n0 N m st a)(hw:w'.heap=w.heap):cx O E w' n0 N m st a:=
  h.mv ⟨by rw[hw];exact ak _,fun _ _ _=>rfl,fun _ hb _=>⟨by rw[hw],hb⟩,fun _ _ _=>rfl,fun _ _ _ _ _ hr=>⟨by rw[hw],hr⟩,fun _ _ _ _ _=>rfl,fun _ _ _ _ _ _ _ hr=>⟨by rw[hw],hr⟩,fun _ _ _=>by rw[hw],fun _ _ _ _ _ _ _ _ hr=>⟨by rw[hw],hr⟩⟩
section
variable {N:Nat}{w0:World}
theorem Tp.region (id:Nat)(ops:Array Oper)(d:Bool)(st:St)(Q:Ex->St->Prop)(oW:(!d||xe T st (qI ops.toList []) ops.toList)=true)(h:kg P T ops st.nx 0 ops.toList st fun dc=>match dc with
    | ⟨sl,bx,rw,_⟩=>nY (st.nx+128*ops.size) fun nx=>Q .iV ⟨sl,bx,rw,nx⟩):Tp P T N w0 O (.region id ops d) st Q:=by
  intro hT hc E a w r hb;obtain⟨L,hL,hp,dc,hK,he⟩:=jA ops.toList [] st _ (kT.refl _) (fun j o d hj=>by simp at hj) h;rw[bE] at hp he;have ja:kC N ops d=true:=hc;have k0:=r.kb;have r0:cx O E w w0.heap.size N (st.nx+128*ops.size) st a:=r.mono (by omega)
  have fin:∀ E' w' a',cx O E' w' w0.heap.size N (st.nx+128*ops.size) (bU st L) a'->Below w0.heap.size w0 w'->mq w0 N O Q .normal a' w':=fun E' w' a' r' fa=>by
    obtain⟨sl,bx,dU,nx⟩:=dc;simp only[la] at hK;refine⟨_,E',hK,?_,fa⟩;have he':kT (bU st L) ⟨sl,bx,dU,st.nx+128*ops.size⟩:=⟨he.sl,he.bx,he.rw⟩
    exact he'.rep r'
  cases d with
  | false=>
    refine wp_region ?_;rw[List.range_eq_range'];exact rS hT ja hL hp k0 (ak _) ops.size 0 E w a (by omega) (by simpa [bU] using r0) fun E' w' a' r' fa=>fin E' w' a' r' (hb.trans fa)
  | true=>
    refine wp_region_any hT.mixed ?_
    have akT:∀ i,(Array.replicate ops.size false).getD i false=false:=fun i=>by
      rw[Array.getD_eq_getD_getElem?]
      cases hq:(Array.replicate ops.size false)[i]? with
      | none=>rfl
      | some x=>
        rw[Array.getElem?_replicate] at hq;split at hq
        · cases hq;rfl
        · cases hq
    have Iq:nq st L (fun i=>(Array.replicate ops.size false).getD i false)=st:=by
      unfold nq;rw[oK fun k _=>akT _];rfl
    have hw:({ w with drawn:=w.drawn+1 }:World).heap=w.heap:=rfl;refine u4 hT ja (by simpa using oW) hL hp k0 (ak _) ops.size _ E _ a (by simp) ?_ ⟨?_,?_,?_,?_⟩ fun E' w' a' r' fa=>fin E' w' a' r' (hb.trans ⟨fa.os,fa.tape,fa.output,fa.size,fa.block⟩)
    · have:∀ n,N1 (fun i=>(Array.replicate ops.size false).getD i false) n<=n:=fun n=>by
        induction n with
        | zero=>exact ak _
        | succ n ih=>
          unfold N1;rw[akT n];simp only[cond_false];omega
      exact this _
    · rw[Iq]
      exact r0.heap hw
    · intro j o hj hD
      have hD:(Array.replicate ops.size false).getD j false=true:=hD;rw[akT] at hD
      cases hD
    · intro b cs en
      rw[Iq] at en;exact .inl (k0.1 b cs en)
    · intro b cs en
      rw[Iq] at en;exact .inl (k0.2 b cs en)
omit [GlC O] in
theorem Nr {Q Q':Ex->St->Prop}{e:Exit}{a:Act}{w:World}(h:mq w0 N O Q e a w)(hq:∀ e st,Q e st->Q' e st):mq w0 N O Q' e a w:=by
  cases e <;> first
    | exact h.elim
    | (obtain⟨st,E,h1,h2⟩:=h;exact⟨st,E,hq _ _ h1,h2⟩)
omit [GlC O] in
theorem Tp.mono {c:Code}{st:St}{Q Q':Ex->St->Prop}(h:Tp P T N w0 O c st Q)(hq:∀ e st,Q e st->Q' e st):Tp P T N w0 O c st Q':=fun hT hc E a w r hb=>wp_mono (h hT hc E a w r hb) fun _e _a _w hp=>Nr hp hq
theorem Tp.run (cs:List Nat):∀ {c:Code} {st:St} {Q:Ex->St->Prop},WP P T N w0 O cs c st Q->Tp P T N w0 O c st Q
  | .skip,st,Q,h=>fun _ _ E a w r hb=>wp_skip ⟨st,E,h,r,hb⟩
  | .region id ops d,⟨Lx,Ny,LB,Eu⟩,Q,h=>by
    have h:WPr P T N w0 O cs id ops d ⟨Lx,Ny,LB,Eu⟩ Q:=h;unfold WPr at h;simp only at h
    cases hc:cs.contains id with
    | true=>rw[hc] at h;exact h
    | false=>
      rw[hc] at h;simp only at h;split at h
      · rename_i hm
        exact Tp.region id ops d ⟨Lx,Ny,LB,Eu⟩ Q hm h
      · exact h.elim
  | .seq x y,st,Q,h=>fun hT hc E a w r hb=>by
    unfold alN at hc;rw[ah] at hc;have h:WP P T N w0 O cs x st (xb (fun dc=>WP P T N w0 O cs y dc Q) Q):=h;refine wp_seq (wp_mono (Tp.run cs h hT hc.1 E a w r hb) fun e a' w' hp=>?_)
    cases e with
    | normal=>
      obtain⟨dc,E',hq,r',fa⟩:=hp;exact Tp.run cs hq hT hc.2 E' a' w' r' fa
    | exit id=>
      obtain⟨dc,E',hq,r',fa⟩:=hp;exact⟨dc,E',hq,r',fa⟩
    | ret=>
      obtain⟨dc,E',hq,r',fa⟩:=hp;exact⟨dc,E',hq,r',fa⟩
    | goto l=>exact hp.elim
    | panic ch=>exact hp.elim
    | outgrown=>exact hp.elim
  | .cond c x y,st,Q,h=>fun hT hc E a w r hb=>by
    unfold alN at hc;rw[ah] at hc;have h:SD c st (WP P T N w0 O cs x st Q) (WP P T N w0 O cs y st Q):=h;unfold SD at h;have hv:=dy r c;split at h
    · rename_i t ht
      rw[ht] at hv;refine wp_cond_split (eC hv) (fun e=>?_) fun e=>?_
      · subst e
        exact Tp.run cs h hT hc.1 E a w r hb
      · subst e
        exact Tp.run cs h hT hc.2 E a w r hb
    · exact h.elim
  | .block id c,st,Q,h=>fun hT hc E a w r hb=>by
    unfold alN at hc;have h:WP P T N w0 O cs c st (sN id Q):=h;refine wp_block (wp_mono (Tp.run cs h hT hc E a w r hb) fun e a' w' hp=>?_)
    cases e with
    | normal=>
      obtain⟨dc,E',hq,r',fa⟩:=hp;exact⟨dc,E',hq,r',fa⟩
    | exit i=>
      obtain⟨dc,E',hq,r',fa⟩:=hp;unfold sN at hq;simp only at hq;show(if i=id then mq w0 N O Q .normal a' w' else mq w0 N O Q (.exit i) a' w')
      by_cases e:i=id
      · subst e
        rw[show Nat.beq i i=true by simp] at hq;rw[if_pos rfl];exact⟨dc,E',hq,r',fa⟩
      · have:Nat.beq i id=false:=by
          cases hb:Nat.beq i id
          · rfl
          · exact absurd (ai hb) e
        rw[this] at hq;rw[if_neg e];exact⟨dc,E',hq,r',fa⟩
    | ret=>
      obtain⟨dc,E',hq,r',fa⟩:=hp;exact⟨dc,E',hq,r',fa⟩
    | goto l=>exact hp.elim
    | panic ch=>exact hp.elim
    | outgrown=>exact hp.elim
  | .loop c,st,Q,h=>h
  | .exit id,st,Q,h=>fun _ _ E a w r hb=>wp_exit ⟨st,E,h,r,hb⟩
  | .ret,st,Q,h=>fun _ _ E a w r hb=>wp_ret ⟨st,E,h,r,hb⟩
  | .label _,_,_,h=>h.elim
  | .goto _,_,_,h=>h.elim
  | .rangeFunc ..,_,_,h=>h.elim
  | .refuse _,_,_,h=>h.elim
def Wk (st dc:St):Prop:=∀ (O:iy) [eQ O] (E:Env) (w:World) (n0 N:Nat) (a:Act),iE O E w n0 N st a->∃ E',iE O E' w n0 N dc a
theorem Wk.refl (st:St):Wk st st:=fun _ _ E _ _ _ _ r=>⟨E,r⟩
omit [GlC O] in
theorem Tp.wk [eQ O]{c:Code}{st dc:St}{Q:Ex->St->Prop}(hw:Wk st dc)(h:Tp P T N w0 O c dc Q):Tp P T N w0 O c st Q:=fun hT hc E a w r hb=>by
  obtain⟨E',r'⟩:=hw O E w _ N a r;exact h hT hc E' a w r' hb
theorem ph {c:Code}{Q:Exit->Act->World->Prop}(I:Nat->Act->World->Prop){n:Nat}{a:Act}{w:World}(h0:I n a w)
    (round:∀ n a w,I n a w->c.wp P (Exit.then (fun a' w'=>∃ n',n' < n/\I n' a' w') Q) a w):(Code.loop c).wp P Q a w:=by
  intro b k cs
  have key:∀ n a w,I n a w->∃ e a' w',Q e a' w'/\Arrives P (lone (b.at a (.code c :: .inLoop c :: k)) cs w) b k cs e a' w':=by
    intro n
    induction n using Nat.strongRecOn with
    | _ n ih=>
      intro a w hI;obtain⟨e,a₁,w₁,hq,Fj⟩:=round n a w hI b (.inLoop c :: k) cs
      cases e with
      | normal=>
        obtain⟨n',aU,hI₁⟩:=hq;obtain⟨e₂,a₂,w₂,hq₂,harr₂⟩:=ih n' aU a₁ w₁ hI₁;exact⟨e₂,a₂,w₂,hq₂,.of_steps (Steps.trans Fj (.one step_inLoop)) harr₂⟩
      | exit id=>exact⟨_,a₁,w₁,hq,.pass (x:=.inLoop c) rfl (fun _ _=>.inl (by simp)) Fj⟩
      | goto l=>exact⟨_,a₁,w₁,hq,.pass (x:=.inLoop c) rfl (fun _ _=>.inl (by simp)) Fj⟩
      | ret=>exact⟨_,a₁,w₁,hq,.pass (x:=.inLoop c) rfl (fun _ _=>.inl (by simp)) Fj⟩
      | panic ch=>exact⟨_,a₁,w₁,hq,.pass (x:=.inLoop c) rfl (fun _ _=>.inl (by simp)) Fj⟩
      | outgrown=>exact⟨_,a₁,w₁,hq,.pass (x:=.inLoop c) rfl (fun _ _=>.inl (by simp)) Fj⟩
  obtain⟨e,a',w',hq,Fj⟩:=key n a w h0;exact⟨e,a',w',hq,.of_steps (.one step_loop) Fj⟩
omit [GlC O] in
theorem Tp.loop [eQ O]{c:Code}{st:St}{Q:Ex->St->Prop}{α:Type}(I:α->St)(ok:α->Prop)(μ:α->Nat)(x0:α)(h0:Wk st (I x0))(mI:ok x0)
   (round:∀ x,ok x->Tp P T N w0 O c (I x) (fun e dc=>match e with
     | .iV=>∃ y,ok y/\μ y < μ x/\Wk dc (I y)
     | e=>Q e dc)):Tp P T N w0 O (.loop c) st Q:=fun hT hc E a w r hb=>by
  unfold alN at hc;obtain⟨E0,r0⟩:=h0 O E w _ N a r;refine ph (fun n a w=>∃ x E,ok x/\μ x=n/\iE O E w w0.heap.size N (I x) a/\Below w0.heap.size w0 w) (n:=μ x0) ⟨x0,E0,mI,rfl,r0,hb⟩ ?_;rintro n a w ⟨x,E,hx,rfl,r,hb⟩;refine wp_mono (round x hx hT hc E a w r hb) fun e a' w' hp=>?_
  cases e with
  | normal=>
    obtain⟨dc,E',⟨y,h1,h2,h3⟩,r',fa⟩:=hp;obtain⟨E2,r2⟩:=h3 O E' w' _ N a' r';exact⟨μ y,h2,y,E2,h1,rfl,r2,fa⟩
  | exit id=>
    obtain⟨dc,E',hq,r',fa⟩:=hp;exact⟨dc,E',hq,r',fa⟩
  | ret=>
    obtain⟨dc,E',hq,r',fa⟩:=hp;exact⟨dc,E',hq,r',fa⟩
  | goto l=>exact hp.elim
  | panic ch=>exact hp.elim
  | outgrown=>exact hp.elim
end
end
section
variable {P:Program}{T:Nat->Option Ty}{O:iy}
def sw (m:List (Nat × Nat)):List (Nat × Nat):=m.map fun p=>(p.2,p.1)
def SU (m:List (Nat × Nat)):Bool:=m.all fun p=>(match lk m p.1 with
 | some x=>Nat.beq x p.2
 | none=>false)&&(match lk (sw m) p.2 with
 | some x=>Nat.beq x p.1
 | none=>false)
section
variable (st:St)(m:List (Nat × Nat))(dU:List (Nat × Row))(fG:List (Nat × List Ce))
def X7 (c c':Ce):Prop:=match c' with
 | .bot=>True
 | .nil=>(match c with
  | .nil=>True
  | _=>False)
 | .t y=>(match c with
  | .t x=>x=y
  | .nil=>∃ k,y=.sl k []
  | .row τ bA=>(match lk st.rw τ with
   | some R=>R.bA=bA/\lk (sw m) τ=none/\bi R.shut (y=R.tr)
   | none=>False)
  | .bot=>False)
 | .row τ' vf=>(match lk dU τ' with
  | some R'=>R'.bA=vf/\(match c with
   | .nil=>lk m τ'=none
   | .row τ bA=>lk m τ'=some τ/\(match lk st.rw τ with
    | some R=>R.bA=bA
    | none=>False)
   | _=>False)
  | none=>False)
def Gt:List Ce->List Ce->Prop
 | [],[]=>True
 | c :: cs,c' :: iH=>X7 st m dU c c'/\Gt cs iH
 | _,_=>False
def oD (b:Nat):Bool:=match lk fG b with
 | some _=>true
 | none=>false
def Jb (v v':AV):Prop:=match v' with
 | .bot=>True
 | .c c'=>(match v with
  | .c c=>X7 st m dU c c'
  | _=>False)
 | .agg iH=>(match v with
  | .agg cs=>Gt st m dU cs iH
  | _=>False)
 | .ptr b' o'=>(match v with
  | .ptr b o=>b=b'/\o=o'/\oD fG b'=true
  | _=>False)
 | .dL tf o'=>(match v with
  | .dL xs o=>xs=tf/\o=o'
  | _=>False)
 | .e9=>(match v with
  | .e9=>True
  | _=>False)
 | .fn f' sJ=>(match v with
  | .fn f caps=>f=f'/\caps=sJ/\sJ.all (fun p=>oD fG p.1)=true
  | _=>False)
 | .lL f' sJ=>(match v with
  | .lL f caps=>f=f'/\caps=sJ
  | _=>False)
 | .dX _ _ _ _ _=>False
 | .sub _ _ _ _=>False
 | .gi _=>False
def SlM:List (Nat × AV)->Prop
 | []=>True
 | (t,v') :: r=>Jb st m dU fG (st.get t) v'/\SlM r
def BxM:List (Nat × List Ce)->Prop
 | []=>True
 | (b,iH) :: r=>(match lk st.bx b with
  | some cs=>Gt st m dU cs iH
  | none=>False)/\BxM r
def X3:List (Nat × Row)->Prop
 | []=>True
 | (τ',R') :: r=>(match lk m τ' with
  | some τ=>(match lk st.rw τ with
   | some R=>R.ty=R'.ty/\R.k=R'.k/\R.Qt R'
   | none=>False)
  | none=>bi R'.shut (R'.xs=[]))/\X3 r
end
def below (n:Nat)(fG:List (Nat × List Ce))(dU:List (Nat × Row)):Bool:=fG.all (fun p=>Nat.blt p.1 n)&&dU.all fun p=>Nat.blt p.1 n
def Env.ma (E:Env)(st:St)(m:List (Nat × Nat)):Env:=⟨fun b=>match E.rl b with
 | .rw τ=>(match lk (sw m) τ with
  | some τ'=>.rw τ'
  | none=>.bH)
 | .jo τ j o=>(match lk (sw m) τ with
  | some τ'=>.jo τ' j o
  | none=>.bH)
 | x=>x,E.bk,fun τ' _=>match lk m τ' with
 | some τ=>(match lk st.rw τ with
  | some R=>E.vl τ R.bA
  | none=>.slice none 0 0)
 | none=>.slice none 0 0⟩
theorem eD {α:Type}:∀ {l:List (Nat × α)} {n:Nat} {x:α},lk l n=some x->(n,x)∈l
 | (m,y) :: r,n,x,h=>by
  rw[cp] at h;split at h
  ·rename_i e
   cases h
   rw[e];exact aB
  ·exact aM _ (eD h)
 | [],_,_,h=>by cases h
theorem Ql {m:List (Nat × Nat)}(h:SU m=true){a b:Nat}(hl:lk m a=some b):lk (sw m) b=some a:=by
 have h1:=aN.1 h (a,b) (eD hl);simp only[ah] at h1;have h2:=h1.2;split at h2
 ·rename_i x hx;rw[hx,ai h2]
 ·cases h2
theorem Ap {fG:List (Nat × List Ce)}{b:Nat}(h:oD fG b=true):∃ cs,lk fG b=some cs:=by
 unfold oD at h;split at h
 ·rename_i cs en;exact⟨cs,en⟩
 ·cases h
section
variable {E:Env}{w:World}{n0 N n:Nat}{st:St}{a:Act}{m:List (Nat × Nat)}{dU:List (Nat × Row)}{fG:List (Nat × List Ce)}
theorem iA (b:Nat)(h:E.rl b=.bH):(E.ma st m).rl b=.bH:=by
 unfold Env.ma;simp only[h]
theorem nQ (b:Nat)(h:E.rl b=.eH):(E.ma st m).rl b=.eH:=by
 unfold Env.ma;simp only[h]
theorem ahT {v:Value}{t:Tr}(h:RT E.F w v t):RT (E.ma st m).F w v t:=h.frame (ak _) (fun _ _ _=>rfl) fun b hb _=>iA b hb
theorem Qi {v:List Value}{t:List Tr}(h:jK E.F w v t):jK (E.ma st m).F w v t:=h.frame (ak _) (fun _ _ _=>rfl) fun b hb _=>iA b hb
theorem Sf (r:cx O E w n0 N n st a){v:Value}{c c':Ce}(h:X7 st m dU c c')(hv:RC E w v c):RC (E.ma st m) w v c':=by
 cases c' with
 | bot=>exact hv.one
 | nil=>
  cases c with
  | nil=>exact hv
  | _=>exact h.elim
 | t y=>
  cases c with
  | t x=>
   obtain rfl:x=y:=h;exact ahT hv
  | nil=>
   obtain⟨k,rfl⟩:=h;rw[show v=_ from hv];exact .gV fun _=>rfl
  | row τ bA=>
   have h:(match lk st.rw τ with
    | some R=>R.bA=bA/\lk (sw m) τ=none/\bi R.shut (y=R.tr)
    | none=>False):=h
   split at h
   ·rename_i R hR;obtain⟨rfl,h1,h⟩:=h;obtain⟨ue,rfl⟩:=sP h;rw[hv.1];refine OV (r.row τ R hR) ue fun b _ hb=>?_;rcases hb with hb|hb|⟨j,o,hb⟩
    ·exact iA b hb
    ·show(E.ma st m).rl b=.bH;unfold Env.ma;simp only[hb,h1]
    ·show(E.ma st m).rl b=.bH;unfold Env.ma;simp only[hb,h1]
   ·exact h.elim
  | bot=>exact h.elim
 | row τ' vf=>
  unfold X7 at h;simp only at h;split at h
  ·rename_i R' Fk;obtain⟨_,h⟩:=h
   cases c with
   | nil=>
    have h:lk m τ'=none:=h;refine⟨?_,by rw[show v=_ from hv];rfl⟩;unfold Env.ma;simp only[h];exact hv
   | row τ bA=>
    obtain⟨h1,h2⟩:=h;refine⟨?_,hv.2⟩;unfold Env.ma;simp only[h1];split at h2
    ·rename_i R hR;subst h2;exact hv.1
    ·exact h2.elim
   | _=>exact h.elim
  ·exact h.elim
theorem pF (r:cx O E w n0 N n st a):∀ {vs:List Value} {cs iH:List Ce},Gt st m dU cs iH->A2 (RC E w) vs cs->A2 (RC (E.ma st m) w) vs iH
 | _,[],[],_,.nil=>.nil
 | _,_c :: _cs,_c' :: _cs',h,.cons h1 h2=>.cons (Sf r h.1 h1) (pF r h.2 h2)
 | _,[],_ :: _,h,_=>h.elim
 | _,_ :: _,[],h,_=>h.elim
theorem jJ (r:cx O E w n0 N n st a){u:Value}{v v':AV}(h:Jb st m dU fG v v')(hv:RV E w u v):R1 (E.ma st m) w u v':=by
 cases v' with
 | bot=>exact⟨⟩
 | c c'=>
  cases v with
  | c c=>exact Sf r h hv
  | _=>exact h.elim
 | agg iH=>
  cases v with
  | agg cs=>
   obtain⟨vs,rfl,ha⟩:=hv;exact⟨vs,rfl,pF r h ha⟩
  | _=>exact h.elim
 | ptr b' o'=>
  cases v with
  | ptr b o=>
   obtain⟨rfl,rfl,_⟩:=h;exact hv
  | _=>exact h.elim
 | dL tf o'=>
  cases v with
  | dL xs o=>
   obtain⟨rfl,rfl⟩:=h;obtain⟨g,p,vs,rfl,h1,h2,h3,h4⟩:=hv;exact⟨g,p,vs,rfl,iA g h1,h2,h3,Qi h4⟩
  | _=>exact h.elim
 | e9=>
  cases v with
  | e9=>exact hv
  | _=>exact h.elim
 | fn f' sJ=>
  cases v with
  | fn f caps=>
   obtain⟨rfl,rfl,_⟩:=h;exact hv
  | _=>exact h.elim
 | lL f' sJ=>
  cases v with
  | lL f caps=>
   obtain⟨rfl,rfl⟩:=h;obtain⟨us,rfl,h⟩:=hv;refine⟨us,rfl,h.imp fun u c _ h=>?_⟩;obtain⟨g,p,vs,rfl,h1,h2,h3,h4⟩:=h;exact⟨g,p,vs,rfl,iA g h1,h2,h3,Qi h4⟩
  | _=>exact h.elim
 | dX _ _ _ _ _=>exact h.elim
 | sub _ _ _ _=>exact h.elim
 | gi _=>exact h.elim
theorem Sg {c c':Ce}(h:X7 st m dU c c'):∀ p∈c'.cP,∃ R,lk dU p.1=some R/\R.bA=p.2:=fun p hp=>by
 cases c' with
 | row τ' vf=>
  have h:(match lk dU τ' with
   | some R'=>R'.bA=vf/\_
   | none=>False):=h
  obtain rfl:p=(τ',vf):=by simpa [Ce.cP] using hp
  split at h
  ·rename_i R' Fk;exact⟨R',Fk,h.1⟩
  ·exact h.elim
 | _=>cases hp
theorem pE:∀ {cs iH:List Ce},Gt st m dU cs iH->∀ p∈iH.flatMap Ce.cP,∃ R,lk dU p.1=some R/\R.bA=p.2
 | [],[],_,p,hp=>by cases hp
 | c :: cs,c' :: iH,h,p,hp=>by
  rw[bZ] at hp;rcases bh.1 hp with hp|hp
  ·exact Sg h.1 p hp
  ·exact pE h.2 p hp
 | [],_ :: _,h,_,_=>h.elim
 | _ :: _,[],h,_,_=>h.elim
theorem jd {v v':AV}(h:Jb st m dU fG v v'):(∀ b∈v'.ed,∃ cs,lk fG b=some cs)/\∀ p∈v'.cP,∃ R,lk dU p.1=some R/\R.bA=p.2:=by
 cases v' with
 | bot=>exact⟨fun _ h=>(by cases h),fun _ h=>by cases h⟩
 | c c'=>
  cases v with
  | c c=>exact⟨fun _ h=>(by cases h),Sg h⟩
  | _=>exact h.elim
 | agg iH=>
  cases v with
  | agg cs=>exact⟨fun _ h=>(by cases h),pE h⟩
  | _=>exact h.elim
 | ptr b' o'=>
  cases v with
  | ptr b o=>
   refine⟨fun x hx=>?_,fun _ h=>by cases h⟩;obtain rfl:x=b':=by simpa [AV.ed,AV.iu] using hx
   exact Ap h.2.2
  | _=>exact h.elim
 | dL tf o'=>exact⟨fun _ h=>(by cases h),fun _ h=>by cases h⟩
 | e9=>exact⟨fun _ h=>(by cases h),fun _ h=>by cases h⟩
 | fn f' sJ=>
  cases v with
  | fn f caps=>
   refine⟨fun x hx=>?_,fun _ h=>by cases h⟩;obtain⟨p,hp,rfl⟩:=bL.1 (show x∈sJ.map (·.1) from hx);exact Ap (aN.1 h.2.2 p hp)
  | _=>exact h.elim
 | lL f' sJ=>exact⟨fun _ h=>(by cases h),fun _ h=>by cases h⟩
 | dX _ _ _ _ _=>exact h.elim
 | sub _ _ _ _=>exact h.elim
 | gi _=>exact h.elim
theorem BA:∀ {l:List (Nat × AV)},SlM st m dU fG l->∀ t v',(t,v')∈l->Jb st m dU fG (st.get t) v'
 | (t,v) :: r,h,t',v',hm=>by
  rcases List.mem_cons.1 hm with e|hm
  ·cases e;exact h.1
  ·exact BA h.2 t' v' hm
 | [],_,_,_,hm=>by cases hm
theorem pJ:∀ {l:List (Nat × List Ce)},BxM st m dU l->∀ b iH,(b,iH)∈l->∃ cs,lk st.bx b=some cs/\Gt st m dU cs iH
 | (b,cs) :: r,h,b',iH,hm=>by
  rcases List.mem_cons.1 hm with e|hm
  ·cases e
   have h:=h.1;split at h
   ·rename_i cs en;exact⟨cs,en,h⟩
   ·exact h.elim
  ·exact pJ h.2 b' iH hm
 | [],_,_,_,hm=>by cases hm
theorem nG:∀ {l:List (Nat × Row)},X3 st m l->∀ τ' R',(τ',R')∈l->(∃ τ R,lk m τ'=some τ/\lk st.rw τ=some R/\R.ty=R'.ty/\R.k=R'.k/\R.xs=R'.xs/\R.dp=R'.dp/\R.shut=true)\/(lk m τ'=none/\R'.xs=[]/\R'.shut=true)
 | (τ,R) :: r,h,τ',R',hm=>by
  rcases List.mem_cons.1 hm with e|hm
  ·cases e
   have h:=h.1;split at h
   ·rename_i τ0 h1;split at h
    ·rename_i R0 h2;exact .inl ⟨τ0,R0,h1,h2,h.1,h.2.1,h.2.2.to⟩
    ·exact h.elim
   ·rename_i h1;exact .inr ⟨h1,(sP h).2,(sP h).1⟩
  ·exact nG h.2 τ' R' hm
 | [],_,_,_,hm=>by cases hm
theorem tE (r:cx O E w n0 N n st a)(hm:SU m=true){τ':Nat}{R':Row}(h:(∃ τ R,lk m τ'=some τ/\lk st.rw τ=some R/\R.ty=R'.ty/\R.k=R'.k/\R.xs=R'.xs/\R.dp=R'.dp/\R.shut=true)\/(lk m τ'=none/\R'.xs=[]/\R'.shut=true)):RR (E.ma st m) w n0 τ' R':=by
 rcases h with⟨τ,R,h1,h2,h3,h4,h5,h6,h7⟩|⟨h1,h2,h3⟩
 ·refine RR.to (R:=R) (h:=r.row τ R h2) (ak _) h3 h4 h5 h6 h7 ?_ (fun b hb _=>iA b hb) (fun b _ _ hb=>?_) fun b j o _ _ hb=>?_
  ·unfold Env.ma;simp only[h1,h2]
  ·unfold Env.ma;simp only[hb,Ql hm h1]
  ·unfold Env.ma;simp only[hb,Ql hm h1]
 ·obtain⟨Lu,k',vf,tf,dp'⟩:=R';simp only at h2;subst h2
  have hv:(E.ma st m).vl τ' vf=.slice none 0 0:=by
   unfold Env.ma;simp only[h1]
  unfold RR;simp only[hv]
  cases dp' with
  | none=>exact⟨[],World.ownsRow_nil _ _ _ _,⟨rfl,fun j vs ts h=>by simp at h⟩,fun g hg=>by cases hg⟩
  | some d=>
   cases hm:d.iQ with
   | true=>
    simp only[hm];exact Or.inl ⟨rfl,rfl⟩
   | false=>
    simp only[hm];exact⟨[],World.ownsRow_nil _ _ _ _,⟨rfl,fun j vs ts h=>(by simp at h),fun j vs h=>(by simp at h),fun j vs ts h=>by simp at h⟩,fun g hg=>by cases hg⟩
theorem wq:∀ {l:List (Nat × Row)},X3 st m l->∀ τ' R',(τ',R')∈l->R'.shut=true:=fun h τ' R' hm=>by
 rcases nG h τ' R' hm with⟨τ,R,_,_,_,_,_,h6,h7⟩|⟨_,_,h3⟩
 ·unfold Row.shut at h7 ⊢;rw[<- h6];exact h7
 ·exact h3
end
theorem ba {st:St}(m:List (Nat × Nat)){ox:List (Nat × AV)}{fG:List (Nat × List Ce)}{dU:List (Nat × Row)}{w8:Nat}(hm:SU m=true)(hn:below w8 fG dU=true)(hs:SlM st m dU fG ox)(hb:BxM st m dU fG)(hr:X3 st m dU):Wk st ⟨ox,fG,dU,w8⟩:=by
 intro O _ E w n0 N a r
 have get:∀ t,(St.get ⟨ox,fG,dU,w8⟩ t)=.bot\/Jb st m dU fG (st.get t) (St.get ⟨ox,fG,dU,w8⟩ t):=fun t=>by
  show(match lk ox t with|some v=>v|none=>.bot)=.bot\/Jb st m dU fG (st.get t) (match lk ox t with|some v=>v|none=>.bot)
  cases hq:lk ox t with
  | none=>exact .inl rfl
  | some v=>exact .inr (BA hs t v (eD hq))
 have vF:=hn;unfold below at vF;rw[ah] at vF;refine⟨E.ma st m,⟨r.yn,r.sz,fun t=>?_,fun i iH hi=>?_,fun τ' R' hR=>tE r hm (nG hr τ' R' (eD hR)),⟨fun t b hb=>?_,fun t p hp=>?_,fun b cs en p hp=>?_,fun b cs en=>?_,fun τ R hR=>?_,fun τ R d hR hd l hl=>(by rw[kL (wq hr τ R (eD hR)) hd] at hl;cases hl)⟩,r.hi,fun b hb=>?_,fun b x hx=>?_,fun j V hj=>(by rw[eQ.v] at hj;cases hj),fun j V hj=>(by rw[eQ.b] at hj;cases hj),r.sn⟩⟩
 ·rcases get t with h|h
  ·rw[h];exact⟨⟩
  ·exact(jJ r h (r.slt t)).rv
 ·obtain⟨cs,h1,h2⟩:=pJ hb i iH (eD hi);obtain⟨vs,t,g1,g2,g3,g4⟩:=r.box i cs h1;refine⟨vs,t,g1,g2,?_,pF r h2 g4⟩;unfold Env.ma;simp only[g3]
 ·rcases get t with h|h
  ·rw[h] at hb;cases hb
  ·exact(jd h).1 b hb
 ·rcases get t with h|h
  ·rw[h] at hp;cases hp
  ·obtain⟨R,h1,h2⟩:=(jd h).2 p hp;exact⟨R,h1,Nat.le_of_eq h2.symm⟩
 ·obtain⟨Gz,h1,h2⟩:=pJ hb b cs (eD en);obtain⟨R,h3,h4⟩:=pE h2 p hp;exact⟨R,h3,Nat.le_of_eq h4.symm⟩
 ·exact Nb (aN.1 vF.1 (b,cs) (eD en))
 ·exact Nb (aN.1 vF.2 (τ,R) (eD hR))
 ·rcases r.nM b hb with⟨h1,h2⟩|h1
  ·exact .inl ⟨iA b h1,h2⟩
  ·exact .inr (nQ b h1)
 ·obtain⟨h1,h2⟩:=r.gh b x hx;exact⟨h1,h2.elim (fun h=>.inl ⟨iA b h.1,h.2⟩) fun h=>.inr ⟨nQ b h.1,h.2⟩⟩
def kx:Nat->List AV->List (Nat × AV)
 | _,[]=>[]
 | i,a :: dh=>(i,a) :: kx (i+1) dh
theorem j6:∀ (dh:List AV) (i t:Nat),lk (kx i dh) t=if i<=t then dh[t - i]? else none
 | [],i,t=>by simp[kx,lk]
 | a :: dh,i,t=>by
  rw[kx,cp,j6 dh (i+1) t]
  by_cases h:i=t
  ·subst h;simp
  ·rw[if_neg h]
   by_cases h2:i<=t
   ·rw[if_pos h2,if_pos (by omega),show t - i=t - (i+1)+1 by omega,List.getElem?_cons_succ]
   ·rw[if_neg h2,if_neg (by omega)]
def BK (T:Nat->Option Ty)(st:St):ResultVar->Option AV
 | .tmp t=>some (st.get t)
 | .cell a t=>match T t,st.get a with
  | some y,.ptr b o=>(match lk st.bx b with
   | some cs=>cut y cs o
   | none=>none)
  | _,_=>none
def WV (T:Nat->Option Ty)(st:St)(m:List (Nat × Nat))(dU:List (Nat × Row)):List ResultVar->List AV->Prop
 | [],[]=>True
 | x :: xs,r :: rs=>(match BK T st x with
  | some v=>Jb st m dU [] v r
  | none=>False)/\WV T st m dU xs rs
 | _,_=>False
def Fin (T:Nat->Option Ty)(fn:Func)(st:St)(m:List (Nat × Nat))(r:AV)(rs:List Row):Prop:=SU m=true/\X3 st m (jV 0 0 rs)/\(match fn.results.toList with
 | [x]=>(match BK T st x with
  | some v=>Jb st m (jV 0 0 rs) [] v r
  | none=>False)
 | xs=>(match r with
  | .gi ys=>WV T st m (jV 0 0 rs) xs ys
  | _=>False))
def zi (T:Nat->Option Ty)(fn:Func)(r:AV)(rs:List Row)(e:Ex)(st:St):Prop:=match e with
 | .exit _=>False
 | _=>∃ m,Fin T fn st m r rs
end
section
variable {P:Program}{T:Nat->Option Ty}
theorem oP {a:AV}(h:a.plain=true):a.ed=[]/\a.cP=[]:=by
 cases a with
 | c x=>cases x <;> first | exact⟨rfl,rfl⟩ | (cases h;done)
 | agg xs=>
  refine⟨rfl,?_⟩;show xs.flatMap Ce.cP=[];have h:xs.all Ce.plain=true:=h;rw[List.flatMap_eq_nil_iff];intro c hc;have:=aN.1 h c hc
  cases c <;> first|rfl|(cases this;done)
 | e9=>exact⟨rfl,rfl⟩
 | dL xs o=>exact⟨rfl,rfl⟩
 | lL f cs=>exact⟨rfl,rfl⟩
 | _=>cases h
def lv (a:Act):ResultVar->Sem Value
 | .tmp t=>Pure.pure (a.tmps.getD t undef)
 | .cell b t=>do loadVar t (<- asAddr (a.tmps.getD b undef))
theorem lu {E:Env}{w:World}{n0 N n:Nat}{O:iy}{st:St}{a:Act}(hT:dz P T)(r:cx O E w n0 N n st a){x:ResultVar}{v:AV}(h:BK T st x=some v):∃ u,(lv a x).run P w=.ok u w/\RV E w u v:=by
 cases x with
 | tmp t=>
  cases h
  exact⟨_,rfl,r.slt t⟩
 | cell b t=>
  unfold BK at h;simp only at h;split at h
  ·rename_i y b' o hy hb;split at h
   ·rename_i cs en;have hv:=r.slt b;rw[hb] at hv;have hv:a.tmps.getD b undef=.pointer (some ⟨E.bk b',o,none⟩):=hv;obtain⟨vs,h1,h2⟩:=(r.box b' cs en).cells;obtain⟨u,hu,hr⟩:=pt (P:=P) (hT.ty t y hy) h1 h2 h;refine⟨u,?_,hr.rv⟩;rw[bw] at hu;simp only[lv,hv,asAddr,Sem.run_bind,Sem.run_pure,Result.andThen_ok];simpa [Instr.loadAt,Instr.sureAddr] using hu
   ·cases h
  ·cases h
theorem DU {E:Env}{w:World}{n0 N n:Nat}{O:iy}{st:St}{a:Act}{m:List (Nat × Nat)}{dU:List (Nat × Row)}(hT:dz P T)(r:cx O E w n0 N n st a):∀ {xs:List ResultVar} {rs:List AV},WV T st m dU xs rs->∃ us:List Value,(xs.mapM (lv a)).run P w=.ok us w/\A2 (R1 (E.ma st m) w) us rs
 | [],[],_=>⟨[],by simp,.nil⟩
 | x :: xs,y :: ys,h=>by
  obtain⟨h1,h2⟩:=h;split at h1
  ·rename_i v hv;obtain⟨u,hu,hr⟩:=lu hT r hv;obtain⟨us,pz,ha⟩:=DU hT r h2;refine⟨u :: us,?_,.cons (jJ r h1 hr) ha⟩;rw[List.mapM_cons,Sem.run_bind,hu];simp only[Result.andThen_ok,Sem.run_bind,pz,Sem.run_pure]
  ·exact h1.elim
 | [],_ :: _,h=>h.elim
 | _ :: _,[],h=>h.elim
theorem DV {st:St}{m:List (Nat × Nat)}{dU:List (Nat × Row)}:∀ {xs:List ResultVar} {rs:List AV},WV T st m dU xs rs->xs.length=rs.length
 | [],[],_=>rfl
 | _ :: _,_ :: _,h=>by simp[DV h.2]
 | [],_ :: _,h=>h.elim
 | _ :: _,[],h=>h.elim
theorem CJ {E:Env}{w:World}{n0 N n:Nat}{O:iy}{st:St}{a:Act}{m:List (Nat × Nat)}{fn:Func}{rv:AV}{rs:List Row}(hT:dz P T)(r:cx O E w n0 N n st a)(h:Fin T fn st m rv rs):∃ u,(results fn a.tmps).run P w=.ok u w/\RV (E.ma st m) w u rv:=by
 obtain⟨_,_,h⟩:=h
 have e:(results fn a.tmps).run P w=((fn.results.toList.mapM (lv a)).run P w).andThen fun vs w'=>.ok (if h:vs.toArray.size=1 then vs.toArray[0] else .tuple vs.toArray) w':=by
  have e3:results fn a.tmps=(do
    let vs <- fn.results.mapM (lv a)
    Pure.pure (if h:vs.size=1 then vs[0] else .tuple vs)):=by
   unfold results
   exact congrArg (fun g:ResultVar->Sem Value=>(do
    let vs <- fn.results.mapM g
    Pure.pure (if h:vs.size=1 then vs[0] else .tuple vs):Sem Value)) (funext fun x=>by cases x <;> rfl)
  rw[e3,Array.mapM_eq_mapM_toList];simp only[Sem.run_bind,Sem.run_map,Sem.run_pure]
  cases ((fn.results.toList.mapM (lv a)).run P w) <;> rfl
 rw[e];split at h
 ·rename_i x hx;rw[hx];split at h
  ·rename_i v hv;obtain⟨u,hu,hr⟩:=lu hT r hv;refine⟨u,?_,(jJ r h hr).rv⟩;rw[List.mapM_cons,List.mapM_nil,Sem.run_bind,hu];simp
  ·exact h.elim
 ·rename_i xs iR;split at h
  ·rename_i ys;obtain⟨us,pz,ha⟩:=DU hT r h;have hl:=DV h;refine⟨.tuple us.toArray,?_,⟨us,rfl,ha⟩⟩;rw[pz]
   have:¬ us.toArray.size=1:=fun h1=>by
    have h2:=ha.len;rw[List.size_toArray] at h1;rw[h1,<- hl] at h2
    cases hq:fn.results.toList with
    | nil=>rw[hq] at h2;cases h2
    | cons x l=>
     cases l with
     | nil=>exact iR x hq
     | cons _ _=>rw[hq] at h2;simp at h2
   simp only[Result.andThen_ok,dif_neg this]
  ·exact h.elim
def yT (rv:AV)(rs:List Row):Bool:=rv.ed.isEmpty&&(rs.all Row.shut&&rv.cP.all fun p=>match rs[p.1]? with
 | some R=>Nat.ble p.2 R.bA
 | none=>false)
theorem BJ {rv:AV}{rs:List Row}(h:yT rv rs=true):(∀ x∈rv.ed,False)/\(∀ x∈rv.cP,∃ R,rs[x.1]? = some R/\x.2<=R.bA)/\∀ R∈rs,R.shut=true:=by
 unfold yT at h;rw[ah,ah,List.isEmpty_iff] at h;refine⟨fun x hx=>(by rw[h.1] at hx;cases hx),fun x hx=>?_,fun R hR=>aN.1 h.2.1 R hR⟩;have h2:=aN.1 h.2.2 x hx;split at h2
 ·rename_i R hR;exact⟨R,hR,Nb h2⟩
 ·cases h2
theorem XY {f:FuncId}{fn:Func}{c:Code}{dh:List AV}{rv:AV}{rs:List Row}(hf:P.funcs[f]? = some fn)(hb:fn.body=some c)(he:N3 P f)(hT:dz P T)(hc:alN fn.ntmps c=true)(hn:Nat.ble dh.length fn.ntmps=true)(om:dh.all AV.plain=true)(aaS:Nat.ble rs.length 128=true)(oA:yT rv rs=true)
  (h:∀ w0 O [eQ O],Tp P T fn.ntmps w0 O c ⟨kx 0 dh,[],[],0⟩ (zi T fn rv rs)):Ct P f dh rv rs false:=by
 have oA:=BJ oA;refine⟨he,Nb aaS,oA.2.2,om,oA.1,oA.2.1,fun w vs E0 mY ha=>?_⟩;have hlen:=ha.len;have hn:=Nb hn;refine calls_of_wp hf hb ?_
 obtain⟨E,IG,Cw,Rj⟩:∃ E:Env,(∀ b,b < w.heap.size->E0.rl b=.bH->E.rl b=.bH)/\(∀ b,E.rl b=.bH->E0.rl b=.bH)/\(∀ b,E.rl b=.bH\/E.rl b=.eH):=by
  refine⟨⟨fun b=>match E0.rl b with
   | .bH=>.bH
   | _=>.eH,fun _=>0,fun _ _=>undef⟩,fun b _ h=>by simp only[h],fun b h=>?_,fun b=>?_⟩
  ·simp only at h;split at h
   ·rename_i e;exact e
   ·cases h
  ·simp only;split
   ·exact .inl rfl
   ·exact .inr rfl
 have rt:∀ {v t},RT E0.F w v t->RT E.F w v t:=fun h=>by
  refine h.frame (ak _) (fun _ _ _=>rfl) fun b hb aU=>IG b aU hb
 have Yy:∀ {v t},jK E0.F w v t->jK E.F w v t:=fun h=>by
  refine h.frame (ak _) (fun _ _ _=>rfl) fun b hb aU=>IG b aU hb
 have rc:∀ {v c},Ce.plain c=true->RC E0 w v c->RC E w v c:=fun {v c} hp h=>by
  cases c with
  | t x=>exact rt h
  | nil=>exact h
  | _=>cases hp
 have a2:∀ {vs cs},cs.all Ce.plain=true->A2 (RC E0 w) vs cs->A2 (RC E w) vs cs:=fun {vs cs} hp h=>by
  induction h with
  | nil=>exact .nil
  | cons h1 _ ih=>
   rw[List.all_cons,ah] at hp;exact .cons (rc hp.1 h1) (ih hp.2)
 have ri:∀ {v:Value} {xs:List Tr} {o:Nat},RI E0 w v xs o->RI E w v xs o:=fun h=>by
  obtain⟨g,p,vs,rfl,h1,h2,h3,h4⟩:=h;exact⟨g,p,vs,rfl,IG g h2 h1,h2,h3,Yy h4⟩
 have r1:∀ {v a},AV.plain a=true->R1 E0 w v a->R1 E w v a:=fun {v a} hp h=>by
  cases a with
  | c x=>exact rc hp h
  | agg xs=>
   obtain⟨vs,rfl,h⟩:=h;exact⟨vs,rfl,a2 hp h⟩
  | e9=>exact h
  | dL xs o=>exact ri h
  | lL f cs=>
   obtain⟨us,rfl,h⟩:=h;exact⟨us,rfl,h.imp fun _ _ _ h=>ri h⟩
  | _=>cases hp
 have jO:iE ⟨fun b=>E0.rl b=.bH,fun b=>if b=0 then w.heap[0]? else none,fun _=>none,fun _=>none,0,[]⟩ E w w.heap.size fn.ntmps ⟨kx 0 dh,[],[],0⟩ { tmps:=vs.toArray++Array.replicate (fn.ntmps - vs.toArray.size) undef,defers:=[] }:=by
  have slot:∀ t,∀ a,dh[t]? = some a->AV.plain a=true:=fun t a ht=>aN.1 om a (bc ht)
  refine⟨rfl,by simp only[Array.size_append,List.size_toArray,Array.size_replicate];omega,fun t=>?_,fun _ _ h=>(by cases h),fun _ _ h=>(by cases h),⟨fun t b hb=>?_,fun t p hp=>?_,fun _ _ h=>(by cases h),fun _ _ h=>(by cases h),fun _ _ h=>(by cases h),fun _ _ _ h=>(by cases h)⟩,ak _,fun b _=>(Rj b).elim (fun h=>.inl ⟨h,Cw b h⟩) .inr,fun b x hb=>(by
   have hb:(if b=0 then w.heap[0]? else none)=some x:=hb;split at hb
   ·rename_i h0;subst h0;exact⟨hb,(Rj 0).elim (fun h=>.inl ⟨h,Cw 0 h⟩) fun h=>.inr ⟨h,fun hc=>by rw[IG 0 mY.lt hc] at h;cases h⟩⟩
   ·cases hb),fun _ _ h=>(by cases h),fun _ _ h=>(by cases h),aA _⟩
  ·show RV E w _ (match lk (kx 0 dh) t with|some v=>v|none=>.bot);rw[j6,if_pos (aA _),Nat.sub_zero]
   cases ht:dh[t]? with
   | none=>exact⟨⟩
   | some a=>
    obtain⟨u,hu,hr⟩:=ha.get t a ht;have aU:=(an.1 hu).1;rw[Array.getD_eq_getD_getElem?,Array.getElem?_append_left (by simpa using aU),List.getElem?_toArray,hu];exact(r1 (slot t a ht) hr).rv
  ·have hb:b∈(match lk (kx 0 dh) t with|some v=>v|none=>AV.bot).ed:=hb;rw[j6,if_pos (aA _),Nat.sub_zero] at hb
   cases ht:dh[t]? with
   | none=>rw[ht] at hb;cases hb
   | some a=>
    rw[ht] at hb;have hb:b∈a.ed:=hb;rw[(oP (slot t a ht)).1] at hb
    cases hb
  ·have hp:p∈(match lk (kx 0 dh) t with|some v=>v|none=>AV.bot).cP:=hp;rw[j6,if_pos (aA _),Nat.sub_zero] at hp
   cases ht:dh[t]? with
   | none=>rw[ht] at hp;cases hp
   | some a=>
    rw[ht] at hp;have hp:p∈a.cP:=hp;rw[(oP (slot t a ht)).2] at hp
    cases hp
 haveI:eQ ⟨fun b=>E0.rl b=.bH,fun b=>if b=0 then w.heap[0]? else none,fun _=>none,fun _=>none,0,[]⟩:=rL (fun _=>rfl) (fun _=>rfl) mY rfl
 refine wp_mono (h w ⟨fun b=>E0.rl b=.bH,fun b=>if b=0 then w.heap[0]? else none,fun _=>none,fun _=>none,0,[]⟩ hT hc E _ w jO (Below.refl _ _)) fun e a' w' hp=>?_
 have fin:∀ st E',(∃ m,Fin T fn st m rv rs)->iE ⟨fun b=>E0.rl b=.bH,fun b=>if b=0 then w.heap[0]? else none,fun _=>none,fun _=>none,0,[]⟩ E' w' w.heap.size fn.ntmps st a'->Below w.heap.size w w'->a'.defers=[]/\∃ v,(results fn a'.tmps).run P w'=.ok v w'/\∃ v',Ending.returned v=.returned v'/\Below w.heap.size w w'/\∃ E,RV E w' v' rv/\(∀ j R,rs[j]? = some R->RR E w' w.heap.size j R)/\(∀ b,b < w.heap.size->E.rl b=.bH->false=false/\E0.rl b=.bH):=fun st E' hm r hb=>by
  obtain⟨m,qz⟩:=hm;obtain⟨u,hu,hr⟩:=CJ hT r qz;refine⟨r.yn,u,hu,u,rfl,hb,E'.ma st m,hr,fun j R hj=>?_,fun b hb hc=>⟨rfl,?_⟩⟩
  ·refine tE r qz.1 (nG qz.2.1 j R (eD ?_));rw[fc,if_pos (by omega)];simpa using hj
  ·rcases r.nM b hb with⟨_,h2⟩|h1
   ·exact h2
   ·rw[nQ b h1] at hc
    cases hc
 cases e with
 | normal=>
  obtain⟨st,E',hq,r,fa⟩:=hp;exact fin st E' hq r fa
 | ret=>
  obtain⟨st,E',hq,r,fa⟩:=hp;exact fin st E' hq r fa
 | exit id=>
  obtain⟨st,E',hq,r,fa⟩:=hp;exact hq.elim
 | goto l=>exact hp.elim
 | panic ch=>exact hp.elim
 | outgrown=>exact hp.elim
theorem Oy (P:Program)(tab:List (Nat × Ty))(h1:tab.all (fun p=>gU P p.1 p.2)=true)(h2:P.follows .mixedOrders=true):dz P (lk tab):=
 ⟨fun t y h=>aN.1 h1 (t,y) (eD h),h2⟩
theorem cS {t:Bool}{A B:Prop}(h1:t=true->A)(h2:t=false->B):cond t A B:=by
 cases t
 ·exact h2 rfl
 ·exact h1 rfl
theorem eX {t:Bool}{A B:Prop}(ht:t=true)(h:A):cond t A B:=by rw[ht];exact h
theorem eA {t:Bool}{A B:Prop}(ht:t=false)(h:B):cond t A B:=by rw[ht];exact h
theorem aC {st:St}{m:List (Nat × Nat)}{dU:List (Nat × Row)}:∀ (cs:List Ce),cs.all Ce.plain=true->Gt st m dU cs cs
 | [],_=>trivial
 | c :: cs,h=>by
  rw[List.all_cons,ah] at h;refine⟨?_,aC cs h.2⟩
  cases c with
  | t x=>exact rfl
  | nil=>exact⟨⟩
  | row _ _=>cases h.1
  | bot=>cases h.1
theorem jQ (n:Nat)(h:n+1 < 9223372036854775808):IntKind.i64.wrap ((n:Int)+1)=((n+1:Nat):Int):=by rw[bp];omega
end
def aV:Nat:=140737488352256
mutual
def oF:K->Tr->Prop
 | .lit .int,t=>∃ n,t=iv n
 | .lit .u64,t=>∃ n,t=.lit (.int .u64 n)
 | .lit .bool,t=>∃ b,t=bv b
 | .lit .str,t=>∃ s,t=sv s
 | .sl e lP,t=>∃ xs,t=.sl e.length xs/\xs.length*lP<=aV/\∀ ts∈xs,eM e ts
def eM:List K->List Tr->Prop
 | [],ts=>ts=[]
 | k :: ks,ts=>∃ t r,ts=t :: r/\oF k t/\eM ks r
end
mutual
def Tr.d:Tr->D
 | .lit v=>.lit v
 | .sl _ xs=>.sl (trE xs)
 | .mp xs=>.sl (trE xs)
def trL:List Tr->List D
 | []=>[]
 | t :: ts=>t.d :: trL ts
def trE:List (List Tr)->List (List D)
 | []=>[]
 | ts :: xs=>trL ts :: trE xs
end
theorem Tl (ts:List Tr):trL ts=ts.map Tr.d:=by
 induction ts with
 | nil=>simp[trL]
 | cons t ts ih=>simp[trL,ih]
theorem Tm (xs:List (List Tr)):trE xs=xs.map (fun ts=>ts.map Tr.d):=by
 induction xs with
 | nil=>simp[trE]
 | cons t ts ih=>simp[trE,ih,Tl]
theorem Tr.akR (k:Nat)(xs:List (List Tr)):(Tr.sl k xs).d=.sl (xs.map fun ts=>ts.map Tr.d):=by rw[Tr.d,Tm]
theorem Tr.akS (v:Value):(Tr.lit v).d=.lit v:=by rw[Tr.d]
theorem Rw {k:Lk}{t:Tr}:oF (.lit k) t↔∃ v,isLit k v/\t=.lit v:=by
 cases k <;> rw[oF] <;> constructor
 ·rintro⟨n,rfl⟩;exact⟨_,⟨n,rfl⟩,rfl⟩
 ·rintro⟨v,⟨n,rfl⟩,rfl⟩;exact⟨n,rfl⟩
 ·rintro⟨n,rfl⟩;exact⟨_,⟨n,rfl⟩,rfl⟩
 ·rintro⟨v,⟨n,rfl⟩,rfl⟩;exact⟨n,rfl⟩
 ·rintro⟨n,rfl⟩;exact⟨_,⟨n,rfl⟩,rfl⟩
 ·rintro⟨v,⟨n,rfl⟩,rfl⟩;exact⟨n,rfl⟩
 ·rintro⟨n,rfl⟩;exact⟨_,⟨n,rfl⟩,rfl⟩
 ·rintro⟨v,⟨n,rfl⟩,rfl⟩;exact⟨n,rfl⟩
theorem eK {e:List K}{lP:Nat}{t:Tr}:oF (.sl e lP) t↔∃ xs,t=.sl e.length xs/\xs.length*lP<=aV/\∀ ts∈xs,eM e ts:=by rw[oF]
theorem Ik {k:Lk}{v:Value}(h:isLit k v):H9 v=true:=by cases k <;> obtain⟨n,rfl⟩:=h <;> rfl
theorem Fw:∀ {ks:List K} {ts:List Tr},eM ks ts->ts.length=ks.length
 | [],ts,h=>by
  rw[eM] at h;rw[h];rfl
 | k :: ks,ts,h=>by
  rw[eM] at h;obtain⟨t,r,rfl,_,h⟩:=h;simp[Fw h]
theorem da {k:K}{ks:List K}{ts:List Tr}:eM (k :: ks) ts↔∃ t r,ts=t :: r/\oF k t/\eM ks r:=by rw[eM]
theorem du {ts:List Tr}:eM [] ts↔ts=[]:=by rw[eM]
theorem Fz {t:Tr}:oF (.lit .int) t↔∃ n,t=iv n:=by rw[oF]
theorem Rv {t:Tr}:oF (.lit .u64) t↔∃ n,t=.lit (.int .u64 n):=by rw[oF]
theorem As {t:Tr}:oF (.lit .bool) t↔∃ b,t=bv b:=by rw[oF]
theorem fI {ks:List K}{ts:List Tr}(h:eM (.lit .int::ks) ts):∃ a us,ts=iv a::us/\eM ks us:=by
 obtain⟨_,us,rfl,k,q⟩:=da.1 h;obtain⟨a,rfl⟩:=Fz.1 k;exact⟨a,us,rfl,q⟩
theorem fB {ks:List K}{ts:List Tr}(h:eM (.lit .bool::ks) ts):∃ a us,ts=bv a::us/\eM ks us:=by
 obtain⟨_,us,rfl,k,q⟩:=da.1 h;obtain⟨a,rfl⟩:=As.1 k;exact⟨a,us,rfl,q⟩
theorem gI {ks:List K}{a:Int}{us:List Tr}(h:eM ks us):eM (.lit .int::ks) (iv a::us):=da.2 ⟨_,_,rfl,Fz.2 ⟨_,rfl⟩,h⟩
theorem gB {ks:List K}{a:Bool}{us:List Tr}(h:eM ks us):eM (.lit .bool::ks) (bv a::us):=da.2 ⟨_,_,rfl,As.2 ⟨_,rfl⟩,h⟩
theorem gN:eM [] []:=du.2 rfl
theorem sB {t:Tr}:oF (.lit .str) t↔∃ s,t=sv s:=by rw[oF]
theorem cw:∀ {a b:List K} {ts:List Tr},eM (a++b) ts↔∃ t1 t2,ts=t1++t2/\eM a t1/\eM b t2
 | [],b,ts=>by
  rw[bE]
  exact⟨fun h=>⟨[],ts,rfl,du.2 rfl,h⟩,fun ⟨t1,t2,h1,h2,h3⟩=>by
   rw[du.1 h2] at h1;rw[h1];exact h3⟩
 | k :: a,b,ts=>by
  rw[List.cons_append,da];constructor
  ·rintro⟨t,r,rfl,h1,h2⟩;obtain⟨t1,t2,rfl,h3,h4⟩:=cw.1 h2;exact⟨t :: t1,t2,rfl,da.2 ⟨t,t1,rfl,h1,h3⟩,h4⟩
  ·rintro⟨t1,t2,rfl,h1,h2⟩;obtain⟨t,r,rfl,h3,h4⟩:=da.1 h1;exact⟨t,r++t2,rfl,h3,cw.2 ⟨r,t2,rfl,h4,h2⟩⟩
theorem agF {F:Nat->Prop}{w:World}{k:K}{v:Value}{d:D}(h:SK F aV w k v d):∃ t,oF k t/\t.d=d/\RT F w v t:=by
 refine SK.rec (motive_1:=fun k v d _=>∃ t,oF k t/\t.d=d/\RT F w v t) (motive_2:=fun ks vs ds _=>∃ ts,eM ks ts/\ts.map Tr.d=ds/\jK F w vs ts) (motive_3:=fun e b o xs _=>∃ ys,(∀ ts∈ys,eM e ts)/\ys.map (fun ts=>ts.map Tr.d)=xs/\tc F w e.length b o ys) ?_ ?_ ?_ ?_ ?_ ?_ ?_ h
 ·intro k v hl;exact⟨.lit v,Rw.2 ⟨v,hl,rfl⟩,Tr.akS v,.lit (Ik hl)⟩
 ·intro e lP ao cap hc;exact⟨.sl e.length [],eK.2 ⟨[],rfl,by simp,fun ts h=>by cases h⟩,by rw[Tr.akR];rfl,.gV hc⟩
 ·intro e lP b o cap n xs h1 h2 h3 h4 h5 _ ih;obtain⟨ys,g1,g2,g3⟩:=ih;have hl:ys.length=xs.length:=by rw[<- g2,Lm]
  exact⟨.sl e.length ys,eK.2 ⟨ys,rfl,by rw[hl,<- h1];exact h3,g1⟩,by rw[Tr.akR,g2],.jS (by rw[hl];exact h1) h2 h4 h5 g3⟩
 ·exact⟨[],by rw[eM],rfl,.nil⟩
 ·intro k v d ks vs ds _ _ Im Il;obtain⟨t,g1,g2,g3⟩:=Im;obtain⟨ts,g4,g5,g6⟩:=Il;exact⟨t :: ts,by rw[eM];exact⟨t,ts,rfl,g1,g4⟩,by rw[bW,g2,g5],.cons g3 g6⟩
 ·intro e b o;exact⟨[],fun ts h=>(by cases h),rfl,.nil⟩
 ·intro e b o vs ds xs hc hL _ Im Il;obtain⟨ts,g1,g2,g3⟩:=Im;obtain⟨ys,g4,g5,g6⟩:=Il;refine⟨ts :: ys,fun x hx=>?_,by rw[bW,g2,g5],.cons (g3.len.trans (Fw g1)) hc g3 g6⟩;rcases List.mem_cons.1 hx with rfl|hx
  ·exact g1
  ·exact g4 x hx
theorem wz {F:Nat->Prop}{w:World}:∀ {ks:List K} {vs:List Value} {ds:List D},vo F aV w ks vs ds->∃ ts,eM ks ts/\ts.map Tr.d=ds/\jK F w vs ts
 | _,_,_,.nil=>⟨[],by rw[eM],rfl,.nil⟩
 | _,_,_,.cons h1 h2=>by
  obtain⟨t,g1,g2,g3⟩:=agF h1;obtain⟨ts,g4,g5,g6⟩:=wz h2;exact⟨t :: ts,by rw[eM];exact⟨t,ts,rfl,g1,g4⟩,by rw[bW,g2,g5],.cons g3 g6⟩
theorem dP {α:Type}{enc:α->List Tr}{ok:α->Prop}{e:List K}(h:∀ ts,eM e ts->∃ x,ok x/\ts=enc x):∀ {xs:List (List Tr)},(∀ ts∈xs,eM e ts)->∃ l:List α,xs=l.map enc/\∀ y∈l,ok y
 | [],_=>⟨[],rfl,fun y h=>by cases h⟩
 | ts :: xs,hx=>by
  obtain⟨x,h1,rfl⟩:=h ts (hx ts aB);obtain⟨l,rfl,h3⟩:=dP h (xs:=xs) fun t ht=>hx t (aM _ ht)
  exact⟨x :: l,rfl,fun y hy=>by
   rcases List.mem_cons.1 hy with rfl|hy
   ·exact h1
   ·exact h3 y hy⟩
def eI (i:Int):List Tr:=[iv i]
theorem iZ (ts:List Tr)(h:eM [.lit .int] ts):∃ x:Int,True/\ts=eI x:=by
 rw[eM] at h;obtain⟨t,r,rfl,h1,h2⟩:=h;rw[oF] at h1;rw[eM] at h2;obtain⟨n,rfl⟩:=h1;exact⟨n,ea,by rw[h2];rfl⟩
def eS (s:ByteArray):List Tr:=[sv s]
theorem GO (ts:List Tr)(h:eM [.lit .str] ts):∃ x:ByteArray,True/\ts=eS x:=by
 rw[eM] at h;obtain⟨t,r,rfl,h1,h2⟩:=h;rw[oF] at h1;rw[eM] at h2;obtain⟨n,rfl⟩:=h1;exact⟨n,ea,by rw[h2];rfl⟩
end
section
open Go
structure bO where
 jC:Int
 ll:Int
 Aj:Int
 wL:Int
 wK:Int
 wJ:Int
 wI:Int
 wH:Int
 wG:Int
 failed:Bool
 lost:Bool
 dt:List Int
 hand:List Int
 dO:List Int
def bO.enc (x:bO):List Tr:=[iv x.jC,iv x.ll,iv x.Aj,iv x.wL,iv x.wK,iv x.wJ,iv x.wI,iv x.wH,iv x.wG,bv x.failed,bv x.lost,.sl 1 (x.dt.map eI),.sl 1 (x.hand.map eI),.sl 1 (x.dO.map eI)]
def bO.ks:List K:=[.lit .int,.lit .int,.lit .int,.lit .int,.lit .int,.lit .int,.lit .int,.lit .int,.lit .int,.lit .bool,.lit .bool,.sl [.lit .int] 8,.sl [.lit .int] 8,.sl [.lit .int] 8]
def bO.ok (x:bO):Prop:=(x.dt.length*8<=aV)/\(x.hand.length*8<=aV)/\(x.dO.length*8<=aV)
theorem bO.qq {x:bO}(h:x.ok):x.dt.length*8<=aV:=h.1
theorem bO.BX {x:bO}(h:x.ok):x.hand.length*8<=aV:=h.2.1
theorem bO.nN {x:bO}(h:x.ok):x.dO.length*8<=aV:=h.2.2
theorem bO.cV (ts:List Tr)(h:eM bO.ks ts):∃ x:bO,x.ok/\ts=x.enc:=by
 unfold bO.ks at h;obtain⟨a1,_,rfl,q1⟩:=fI h;obtain⟨a2,_,rfl,q2⟩:=fI q1;obtain⟨a3,_,rfl,q3⟩:=fI q2;obtain⟨a4,_,rfl,q4⟩:=fI q3;obtain⟨a5,_,rfl,q5⟩:=fI q4;obtain⟨a6,_,rfl,q6⟩:=fI q5;obtain⟨a7,_,rfl,q7⟩:=fI q6;obtain⟨a8,_,rfl,q8⟩:=fI q7;obtain⟨a9,_,rfl,q9⟩:=fI q8;obtain⟨SC,_,rfl,PF⟩:=fB q9;obtain⟨a11,_,rfl,Uu⟩:=fB PF;obtain⟨_,_,rfl,VD,YV⟩:=da.1 Uu;obtain⟨_,rfl,ajY,asB⟩:=eK.1 VD;obtain⟨l12,rfl,aAa⟩:=dP iZ asB;rw[Lm] at ajY;obtain⟨_,_,rfl,VC,YU⟩:=da.1 YV;obtain⟨_,rfl,ajX,asA⟩:=eK.1 VC;obtain⟨l13,rfl,azZ⟩:=dP iZ asA;rw[Lm] at ajX;obtain⟨_,_,rfl,k14,YT⟩:=da.1 YU;obtain⟨_,rfl,ajW,arZ⟩:=eK.1 k14;obtain⟨l14,rfl,azY⟩:=dP iZ arZ;rw[Lm] at ajW;obtain rfl:=du.1 YT;exact⟨⟨a1,a2,a3,a4,a5,a6,a7,a8,a9,SC,a11,l12,l13,l14⟩,⟨ajY,ajX,ajW⟩,rfl⟩
structure az where
 id:Int
 ee:Int
 dq:Int
 dB:Int
 cn:Int
 token:Bool
 fe:Bool
 qh:Bool
 jH:Bool
 fX:Int
 de:Int
 dd:Int
 dA:Int
 dG:Int
 copy:Int
 j3:Int
 blocked:Bool
 blocks:Int
 nD:Int
def az.enc (x:az):List Tr:=[iv x.id,iv x.ee,iv x.dq,iv x.dB,iv x.cn,bv x.token,bv x.fe,bv x.qh,bv x.jH,iv x.fX,iv x.de,iv x.dd,iv x.dA,iv x.dG,iv x.copy,iv x.j3,bv x.blocked,iv x.blocks,iv x.nD]
def az.ks:List K:=[.lit .int,.lit .int,.lit .int,.lit .int,.lit .int,.lit .bool,.lit .bool,.lit .bool,.lit .bool,.lit .int,.lit .int,.lit .int,.lit .int,.lit .int,.lit .int,.lit .int,.lit .bool,.lit .int,.lit .int]
def az.ok (_:az):Prop:=True
theorem az.cV (ts:List Tr)(h:eM az.ks ts):∃ x:az,x.ok/\ts=x.enc:=by
 unfold az.ks at h;obtain⟨a1,_,rfl,q1⟩:=fI h;obtain⟨a2,_,rfl,q2⟩:=fI q1;obtain⟨a3,_,rfl,q3⟩:=fI q2;obtain⟨a4,_,rfl,q4⟩:=fI q3;obtain⟨a5,_,rfl,q5⟩:=fI q4;obtain⟨a6,_,rfl,q6⟩:=fB q5;obtain⟨a7,_,rfl,q7⟩:=fB q6;obtain⟨a8,_,rfl,q8⟩:=fB q7;obtain⟨a9,_,rfl,q9⟩:=fB q8;obtain⟨SC,_,rfl,PF⟩:=fI q9;obtain⟨a11,_,rfl,Uu⟩:=fI PF;obtain⟨a12,_,rfl,YV⟩:=fI Uu;obtain⟨a13,_,rfl,YU⟩:=fI YV;obtain⟨a14,_,rfl,YT⟩:=fI YU;obtain⟨a15,_,rfl,q15⟩:=fI YT;obtain⟨a16,_,rfl,q16⟩:=fI q15;obtain⟨a17,_,rfl,q17⟩:=fB q16;obtain⟨a18,_,rfl,q18⟩:=fI q17;obtain⟨a19,_,rfl,q19⟩:=fI q18;obtain rfl:=du.1 q19;exact⟨⟨a1,a2,a3,a4,a5,a6,a7,a8,a9,SC,a11,a12,a13,a14,a15,a16,a17,a18,a19⟩,ea,rfl⟩
structure dS where
 kind:Int
 n:Int
def dS.enc (x:dS):List Tr:=[iv x.kind,iv x.n]
def dS.ks:List K:=[.lit .int,.lit .int]
def dS.ok (_:dS):Prop:=True
theorem dS.cV (ts:List Tr)(h:eM dS.ks ts):∃ x:dS,x.ok/\ts=x.enc:=by
 unfold dS.ks at h;obtain⟨a1,_,rfl,q1⟩:=fI h;obtain⟨a2,_,rfl,q2⟩:=fI q1;obtain rfl:=du.1 q2;exact⟨⟨a1,a2⟩,ea,rfl⟩
structure ck where
 cn:Int
 j7:Int
 self:Int
 types:Int
 dH:Int
 ek:Int
 dw:Int
 sub:ByteArray
 keys:Int
 np:Int
 dg:dS
 df:dS
 value:dS
def ck.enc (x:ck):List Tr:=[iv x.cn,iv x.j7,iv x.self,iv x.types,iv x.dH,iv x.ek,iv x.dw,sv x.sub,iv x.keys,iv x.np,iv x.dg.kind,iv x.dg.n,iv x.df.kind,iv x.df.n,iv x.value.kind,iv x.value.n]
def ck.ks:List K:=[.lit .int,.lit .int,.lit .int,.lit .int,.lit .int,.lit .int,.lit .int,.lit .str,.lit .int,.lit .int]++(dS.ks++(dS.ks++(dS.ks)))
def ck.ok (x:ck):Prop:=(x.dg.ok)/\(x.df.ok)/\(x.value.ok)
theorem ck.cV (ts:List Tr)(h:eM ck.ks ts):∃ x:ck,x.ok/\ts=x.enc:=by
 unfold ck.ks at h;obtain⟨_,_,rfl,g0,h1⟩:=cw.1 h;obtain⟨a1,_,rfl,q1⟩:=fI g0;obtain⟨a2,_,rfl,q2⟩:=fI q1;obtain⟨a3,_,rfl,q3⟩:=fI q2;obtain⟨a4,_,rfl,q4⟩:=fI q3;obtain⟨a5,_,rfl,q5⟩:=fI q4;obtain⟨a6,_,rfl,q6⟩:=fI q5;obtain⟨a7,_,rfl,q7⟩:=fI q6;obtain⟨_,_,rfl,k8,q8⟩:=da.1 q7;obtain⟨a8,rfl⟩:=sB.1 k8;obtain⟨a9,_,rfl,q9⟩:=fI q8;obtain⟨SC,_,rfl,PF⟩:=fI q9;obtain rfl:=du.1 PF;obtain⟨_,_,rfl,g1,h2⟩:=cw.1 h1;obtain⟨y1,vh,rfl⟩:=dS.cV _ g1;obtain⟨_,_,rfl,g2,h3⟩:=cw.1 h2;obtain⟨y2,YY,rfl⟩:=dS.cV _ g2;obtain⟨y3,UF,rfl⟩:=dS.cV _ h3;exact⟨⟨a1,a2,a3,a4,a5,a6,a7,a8,a9,SC,y1,y2,y3⟩,⟨vh,YY,UF⟩,rfl⟩
structure dR where
 kind:Int
 n:Int
 m:Int
 sub:ByteArray
 filter:ck
def dR.enc (x:dR):List Tr:=[iv x.kind,iv x.n,iv x.m,sv x.sub,iv x.filter.cn,iv x.filter.j7,iv x.filter.self,iv x.filter.types,iv x.filter.dH,iv x.filter.ek,iv x.filter.dw,sv x.filter.sub,iv x.filter.keys,iv x.filter.np,iv x.filter.dg.kind,iv x.filter.dg.n,iv x.filter.df.kind,iv x.filter.df.n,iv x.filter.value.kind,iv x.filter.value.n]
def dR.ks:List K:=[.lit .int,.lit .int,.lit .int,.lit .str]++(ck.ks)
def dR.ok (x:dR):Prop:=(x.filter.ok)
theorem dR.cV (ts:List Tr)(h:eM dR.ks ts):∃ x:dR,x.ok/\ts=x.enc:=by
 unfold dR.ks at h;obtain⟨_,_,rfl,g0,h1⟩:=cw.1 h;obtain⟨a1,_,rfl,q1⟩:=fI g0;obtain⟨a2,_,rfl,q2⟩:=fI q1;obtain⟨a3,_,rfl,q3⟩:=fI q2;obtain⟨_,_,rfl,k4,q4⟩:=da.1 q3;obtain⟨a4,rfl⟩:=sB.1 k4;obtain rfl:=du.1 q4;obtain⟨y1,vh,rfl⟩:=ck.cV _ h1;exact⟨⟨a1,a2,a3,a4,y1⟩,vh,rfl⟩
structure er where
 generic:Int
 x:Int
 gF:Int
 gq:Int
 gp:Int
 gn:Int
 gk:Int
def er.enc (x:er):List Tr:=[iv x.generic,iv x.x,iv x.gF,iv x.gq,iv x.gp,iv x.gn,iv x.gk]
def er.ks:List K:=[.lit .int,.lit .int,.lit .int,.lit .int,.lit .int,.lit .int,.lit .int]
def er.ok (_:er):Prop:=True
theorem er.cV (ts:List Tr)(h:eM er.ks ts):∃ x:er,x.ok/\ts=x.enc:=by
 unfold er.ks at h;obtain⟨a1,_,rfl,q1⟩:=fI h;obtain⟨a2,_,rfl,q2⟩:=fI q1;obtain⟨a3,_,rfl,q3⟩:=fI q2;obtain⟨a4,_,rfl,q4⟩:=fI q3;obtain⟨a5,_,rfl,q5⟩:=fI q4;obtain⟨a6,_,rfl,q6⟩:=fI q5;obtain⟨a7,_,rfl,q7⟩:=fI q6;obtain rfl:=du.1 q7;exact⟨⟨a1,a2,a3,a4,a5,a6,a7⟩,ea,rfl⟩
structure jL where
 fU:er
 np:Bool
 kX:Bool
 jC:Int
def jL.enc (x:jL):List Tr:=[iv x.fU.generic,iv x.fU.x,iv x.fU.gF,iv x.fU.gq,iv x.fU.gp,iv x.fU.gn,iv x.fU.gk,bv x.np,bv x.kX,iv x.jC]
def jL.ks:List K:=er.ks++([.lit .bool,.lit .bool,.lit .int])
def jL.ok (x:jL):Prop:=(x.fU.ok)
theorem jL.cV (ts:List Tr)(h:eM jL.ks ts):∃ x:jL,x.ok/\ts=x.enc:=by
 unfold jL.ks at h;obtain⟨_,_,rfl,g0,h1⟩:=cw.1 h;obtain⟨y0,oy0,rfl⟩:=er.cV _ g0;obtain⟨a1,_,rfl,q1⟩:=fB h1;obtain⟨a2,_,rfl,q2⟩:=fB q1;obtain⟨a3,_,rfl,q3⟩:=fI q2;obtain rfl:=du.1 q3;exact⟨⟨y0,a1,a2,a3⟩,oy0,rfl⟩
structure eb where
 when:Int
 j7:Int
 filter:ck
def eb.enc (x:eb):List Tr:=[iv x.when,iv x.j7,iv x.filter.cn,iv x.filter.j7,iv x.filter.self,iv x.filter.types,iv x.filter.dH,iv x.filter.ek,iv x.filter.dw,sv x.filter.sub,iv x.filter.keys,iv x.filter.np,iv x.filter.dg.kind,iv x.filter.dg.n,iv x.filter.df.kind,iv x.filter.df.n,iv x.filter.value.kind,iv x.filter.value.n]
def eb.ks:List K:=[.lit .int,.lit .int]++(ck.ks)
def eb.ok (x:eb):Prop:=(x.filter.ok)
theorem eb.cV (ts:List Tr)(h:eM eb.ks ts):∃ x:eb,x.ok/\ts=x.enc:=by
 unfold eb.ks at h;obtain⟨_,_,rfl,g0,h1⟩:=cw.1 h;obtain⟨a1,_,rfl,q1⟩:=fI g0;obtain⟨a2,_,rfl,q2⟩:=fI q1;obtain rfl:=du.1 q2;obtain⟨y1,vh,rfl⟩:=ck.cV _ h1;exact⟨⟨a1,a2,y1⟩,vh,rfl⟩
structure gJ where
 bK:Bool
 aL:Bool
 filter:ck
def gJ.enc (x:gJ):List Tr:=[bv x.bK,bv x.aL,iv x.filter.cn,iv x.filter.j7,iv x.filter.self,iv x.filter.types,iv x.filter.dH,iv x.filter.ek,iv x.filter.dw,sv x.filter.sub,iv x.filter.keys,iv x.filter.np,iv x.filter.dg.kind,iv x.filter.dg.n,iv x.filter.df.kind,iv x.filter.df.n,iv x.filter.value.kind,iv x.filter.value.n]
def gJ.ks:List K:=[.lit .bool,.lit .bool]++(ck.ks)
def gJ.ok (x:gJ):Prop:=(x.filter.ok)
theorem gJ.cV (ts:List Tr)(h:eM gJ.ks ts):∃ x:gJ,x.ok/\ts=x.enc:=by
 unfold gJ.ks at h;obtain⟨_,_,rfl,g0,h1⟩:=cw.1 h;obtain⟨a1,_,rfl,q1⟩:=fB g0;obtain⟨a2,_,rfl,q2⟩:=fB q1;obtain rfl:=du.1 q2;obtain⟨y1,vh,rfl⟩:=ck.cV _ h1;exact⟨⟨a1,a2,y1⟩,vh,rfl⟩
structure sY where
 kind:Int
 n:Int
 filter:ck
def sY.enc (x:sY):List Tr:=[iv x.kind,iv x.n,iv x.filter.cn,iv x.filter.j7,iv x.filter.self,iv x.filter.types,iv x.filter.dH,iv x.filter.ek,iv x.filter.dw,sv x.filter.sub,iv x.filter.keys,iv x.filter.np,iv x.filter.dg.kind,iv x.filter.dg.n,iv x.filter.df.kind,iv x.filter.df.n,iv x.filter.value.kind,iv x.filter.value.n]
def sY.ks:List K:=[.lit .int,.lit .int]++(ck.ks)
def sY.ok (x:sY):Prop:=(x.filter.ok)
theorem sY.cV (ts:List Tr)(h:eM sY.ks ts):∃ x:sY,x.ok/\ts=x.enc:=by
 unfold sY.ks at h;obtain⟨_,_,rfl,g0,h1⟩:=cw.1 h;obtain⟨a1,_,rfl,q1⟩:=fI g0;obtain⟨a2,_,rfl,q2⟩:=fI q1;obtain rfl:=du.1 q2;obtain⟨y1,vh,rfl⟩:=ck.cV _ h1;exact⟨⟨a1,a2,y1⟩,vh,rfl⟩
structure ic where
 kind:Int
 n:Int
 gx:Int
 filter:ck
def ic.enc (x:ic):List Tr:=[iv x.kind,iv x.n,iv x.gx,iv x.filter.cn,iv x.filter.j7,iv x.filter.self,iv x.filter.types,iv x.filter.dH,iv x.filter.ek,iv x.filter.dw,sv x.filter.sub,iv x.filter.keys,iv x.filter.np,iv x.filter.dg.kind,iv x.filter.dg.n,iv x.filter.df.kind,iv x.filter.df.n,iv x.filter.value.kind,iv x.filter.value.n]
def ic.ks:List K:=[.lit .int,.lit .int,.lit .int]++(ck.ks)
def ic.ok (x:ic):Prop:=(x.filter.ok)
theorem ic.cV (ts:List Tr)(h:eM ic.ks ts):∃ x:ic,x.ok/\ts=x.enc:=by
 unfold ic.ks at h;obtain⟨_,_,rfl,g0,h1⟩:=cw.1 h;obtain⟨a1,_,rfl,q1⟩:=fI g0;obtain⟨a2,_,rfl,q2⟩:=fI q1;obtain⟨a3,_,rfl,q3⟩:=fI q2;obtain rfl:=du.1 q3;obtain⟨y1,vh,rfl⟩:=ck.cV _ h1;exact⟨⟨a1,a2,a3,y1⟩,vh,rfl⟩
structure cN where
 op:Int
 ref:sY
 bB:ic
 gx:Int
 cn:Int
 ee:ByteArray
 filter:ck
 wL:Int
 wK:Int
 wJ:Int
 wI:Int
 wH:Int
 wG:Int
 cH:List dR
def cN.enc (x:cN):List Tr:=[iv x.op,iv x.ref.kind,iv x.ref.n,iv x.ref.filter.cn,iv x.ref.filter.j7,iv x.ref.filter.self,iv x.ref.filter.types,iv x.ref.filter.dH,iv x.ref.filter.ek,iv x.ref.filter.dw,sv x.ref.filter.sub,iv x.ref.filter.keys,iv x.ref.filter.np,iv x.ref.filter.dg.kind,iv x.ref.filter.dg.n,iv x.ref.filter.df.kind,iv x.ref.filter.df.n,iv x.ref.filter.value.kind,iv x.ref.filter.value.n,iv x.bB.kind,iv x.bB.n,iv x.bB.gx,iv x.bB.filter.cn,iv x.bB.filter.j7,iv x.bB.filter.self,iv x.bB.filter.types,iv x.bB.filter.dH,iv x.bB.filter.ek,iv x.bB.filter.dw,sv x.bB.filter.sub,iv x.bB.filter.keys,iv x.bB.filter.np,iv x.bB.filter.dg.kind,iv x.bB.filter.dg.n,iv x.bB.filter.df.kind,iv x.bB.filter.df.n,iv x.bB.filter.value.kind,iv x.bB.filter.value.n,iv x.gx,iv x.cn,sv x.ee,iv x.filter.cn,iv x.filter.j7,iv x.filter.self,iv x.filter.types,iv x.filter.dH,iv x.filter.ek,iv x.filter.dw,sv x.filter.sub,iv x.filter.keys,iv x.filter.np,iv x.filter.dg.kind,iv x.filter.dg.n,iv x.filter.df.kind,iv x.filter.df.n,iv x.filter.value.kind,iv x.filter.value.n,iv x.wL,iv x.wK,iv x.wJ,iv x.wI,iv x.wH,iv x.wG,.sl 20 (x.cH.map dR.enc)]
def cN.ks:List K:=[.lit .int]++(sY.ks++(ic.ks++([.lit .int,.lit .int,.lit .str]++(ck.ks++([.lit .int,.lit .int,.lit .int,.lit .int,.lit .int,.lit .int,.sl dR.ks 176])))))
def cN.ok (x:cN):Prop:=(x.ref.ok)/\(x.bB.ok)/\(x.filter.ok)/\(x.cH.length*176<=aV)/\(∀ y∈x.cH,dR.ok y)
theorem cN.cV (ts:List Tr)(h:eM cN.ks ts):∃ x:cN,x.ok/\ts=x.enc:=by
 unfold cN.ks at h;obtain⟨_,_,rfl,g0,h1⟩:=cw.1 h;obtain⟨a1,_,rfl,q1⟩:=fI g0;obtain rfl:=du.1 q1;obtain⟨_,_,rfl,g1,h2⟩:=cw.1 h1;obtain⟨y1,vh,rfl⟩:=sY.cV _ g1;obtain⟨_,_,rfl,g2,h3⟩:=cw.1 h2;obtain⟨y2,YY,rfl⟩:=ic.cV _ g2;obtain⟨_,_,rfl,g3,h4⟩:=cw.1 h3;obtain⟨a2,_,rfl,q2⟩:=fI g3;obtain⟨a3,_,rfl,q3⟩:=fI q2;obtain⟨_,_,rfl,k4,q4⟩:=da.1 q3;obtain⟨a4,rfl⟩:=sB.1 k4;obtain rfl:=du.1 q4;obtain⟨_,_,rfl,g4,h5⟩:=cw.1 h4;obtain⟨y4,oy4,rfl⟩:=ck.cV _ g4;obtain⟨a5,_,rfl,q5⟩:=fI h5;obtain⟨a6,_,rfl,q6⟩:=fI q5;obtain⟨a7,_,rfl,q7⟩:=fI q6;obtain⟨a8,_,rfl,q8⟩:=fI q7;obtain⟨a9,_,rfl,q9⟩:=fI q8;obtain⟨SC,_,rfl,PF⟩:=fI q9;obtain⟨_,_,rfl,Xx,Uu⟩:=da.1 PF;obtain⟨_,rfl,ajZ,asC⟩:=eK.1 Xx;obtain⟨l11,rfl,aqU⟩:=dP dR.cV asC;rw[Lm] at ajZ;obtain rfl:=du.1 Uu;exact⟨⟨a1,y1,y2,a2,a3,a4,y4,a5,a6,a7,a8,a9,SC,l11⟩,⟨vh,YY,oy4,ajZ,aqU⟩,rfl⟩
structure eW where
 on:Int
 j7:Int
 filter:ck
 do_:Int
 n:Int
 cn:Int
 gx:Int
def eW.enc (x:eW):List Tr:=[iv x.on,iv x.j7,iv x.filter.cn,iv x.filter.j7,iv x.filter.self,iv x.filter.types,iv x.filter.dH,iv x.filter.ek,iv x.filter.dw,sv x.filter.sub,iv x.filter.keys,iv x.filter.np,iv x.filter.dg.kind,iv x.filter.dg.n,iv x.filter.df.kind,iv x.filter.df.n,iv x.filter.value.kind,iv x.filter.value.n,iv x.do_,iv x.n,iv x.cn,iv x.gx]
def eW.ks:List K:=[.lit .int,.lit .int]++(ck.ks++([.lit .int,.lit .int,.lit .int,.lit .int]))
def eW.ok (x:eW):Prop:=(x.filter.ok)
theorem eW.cV (ts:List Tr)(h:eM eW.ks ts):∃ x:eW,x.ok/\ts=x.enc:=by
 unfold eW.ks at h;obtain⟨_,_,rfl,g0,h1⟩:=cw.1 h;obtain⟨a1,_,rfl,q1⟩:=fI g0;obtain⟨a2,_,rfl,q2⟩:=fI q1;obtain rfl:=du.1 q2;obtain⟨_,_,rfl,g1,h2⟩:=cw.1 h1;obtain⟨y1,vh,rfl⟩:=ck.cV _ g1;obtain⟨a3,_,rfl,q3⟩:=fI h2;obtain⟨a4,_,rfl,q4⟩:=fI q3;obtain⟨a5,_,rfl,q5⟩:=fI q4;obtain⟨a6,_,rfl,q6⟩:=fI q5;obtain rfl:=du.1 q6;exact⟨⟨a1,a2,y1,a3,a4,a5,a6⟩,vh,rfl⟩
structure bJ where
 kind:Int
 filter:ck
 cH:List dR
 dZ:jL
 OH:Bool
 aF:eb
 may:Bool
 specs:List gJ
 dv:List cN
 replace:eW
def bJ.enc (x:bJ):List Tr:=[iv x.kind,iv x.filter.cn,iv x.filter.j7,iv x.filter.self,iv x.filter.types,iv x.filter.dH,iv x.filter.ek,iv x.filter.dw,sv x.filter.sub,iv x.filter.keys,iv x.filter.np,iv x.filter.dg.kind,iv x.filter.dg.n,iv x.filter.df.kind,iv x.filter.df.n,iv x.filter.value.kind,iv x.filter.value.n,.sl 20 (x.cH.map dR.enc),iv x.dZ.fU.generic,iv x.dZ.fU.x,iv x.dZ.fU.gF,iv x.dZ.fU.gq,iv x.dZ.fU.gp,iv x.dZ.fU.gn,iv x.dZ.fU.gk,bv x.dZ.np,bv x.dZ.kX,iv x.dZ.jC,bv x.OH,iv x.aF.when,iv x.aF.j7,iv x.aF.filter.cn,iv x.aF.filter.j7,iv x.aF.filter.self,iv x.aF.filter.types,iv x.aF.filter.dH,iv x.aF.filter.ek,iv x.aF.filter.dw,sv x.aF.filter.sub,iv x.aF.filter.keys,iv x.aF.filter.np,iv x.aF.filter.dg.kind,iv x.aF.filter.dg.n,iv x.aF.filter.df.kind,iv x.aF.filter.df.n,iv x.aF.filter.value.kind,iv x.aF.filter.value.n,bv x.may,.sl 18 (x.specs.map gJ.enc),.sl 64 (x.dv.map cN.enc),iv x.replace.on,iv x.replace.j7,iv x.replace.filter.cn,iv x.replace.filter.j7,iv x.replace.filter.self,iv x.replace.filter.types,iv x.replace.filter.dH,iv x.replace.filter.ek,iv x.replace.filter.dw,sv x.replace.filter.sub,iv x.replace.filter.keys,iv x.replace.filter.np,iv x.replace.filter.dg.kind,iv x.replace.filter.dg.n,iv x.replace.filter.df.kind,iv x.replace.filter.df.n,iv x.replace.filter.value.kind,iv x.replace.filter.value.n,iv x.replace.do_,iv x.replace.n,iv x.replace.cn,iv x.replace.gx]
def bJ.ks:List K:=[.lit .int]++(ck.ks++([.sl dR.ks 176]++(jL.ks++([.lit .bool]++(eb.ks++([.lit .bool,.sl gJ.ks 144,.sl cN.ks 560]++(eW.ks)))))))
def bJ.ok (x:bJ):Prop:=(x.filter.ok)/\(x.cH.length*176<=aV)/\(∀ y∈x.cH,dR.ok y)/\(x.dZ.ok)/\(x.aF.ok)/\(x.specs.length*144<=aV)/\(∀ y∈x.specs,gJ.ok y)/\(x.dv.length*560<=aV)/\(∀ y∈x.dv,cN.ok y)/\(x.replace.ok)
theorem bJ.nO {x:bJ}(h:x.ok):x.dv.length*560<=aV:=h.2.2.2.2.2.2.2.1
theorem bJ.cV (ts:List Tr)(h:eM bJ.ks ts):∃ x:bJ,x.ok/\ts=x.enc:=by
 unfold bJ.ks at h;obtain⟨_,_,rfl,g0,h1⟩:=cw.1 h;obtain⟨a1,_,rfl,q1⟩:=fI g0;obtain rfl:=du.1 q1;obtain⟨_,_,rfl,g1,h2⟩:=cw.1 h1;obtain⟨y1,vh,rfl⟩:=ck.cV _ g1;obtain⟨_,_,rfl,g2,h3⟩:=cw.1 h2;obtain⟨_,_,rfl,k2,q2⟩:=da.1 g2;obtain⟨_,rfl,dK,nv⟩:=eK.1 k2;obtain⟨l2,rfl,Q6⟩:=dP dR.cV nv;rw[Lm] at dK;obtain rfl:=du.1 q2;obtain⟨_,_,rfl,g3,h4⟩:=cw.1 h3;obtain⟨y3,UF,rfl⟩:=jL.cV _ g3;obtain⟨_,_,rfl,g4,h5⟩:=cw.1 h4;obtain⟨a3,_,rfl,q3⟩:=fB g4;obtain rfl:=du.1 q3;obtain⟨_,_,rfl,g5,h6⟩:=cw.1 h5;obtain⟨y5,oy5,rfl⟩:=eb.cV _ g5;obtain⟨_,_,rfl,g6,h7⟩:=cw.1 h6;obtain⟨a4,_,rfl,q4⟩:=fB g6;obtain⟨_,_,rfl,k5,q5⟩:=da.1 q4;obtain⟨_,rfl,S4,hc5⟩:=eK.1 k5;obtain⟨l5,rfl,ho5⟩:=dP gJ.cV hc5;rw[Lm] at S4;obtain⟨_,_,rfl,k6,q6⟩:=da.1 q5;obtain⟨_,rfl,XM,hc6⟩:=eK.1 k6;obtain⟨l6,rfl,ho6⟩:=dP cN.cV hc6;rw[Lm] at XM;obtain rfl:=du.1 q6;obtain⟨y7,oy7,rfl⟩:=eW.cV _ h7;exact⟨⟨a1,y1,l2,y3,a3,y5,a4,l5,l6,y7⟩,⟨vh,dK,Q6,UF,oy5,S4,ho5,XM,ho6,oy7⟩,rfl⟩
structure gZ where
 aL:Int
 bK:Int
def gZ.enc (x:gZ):List Tr:=[iv x.aL,iv x.bK]
def gZ.ks:List K:=[.lit .int,.lit .int]
def gZ.ok (_:gZ):Prop:=True
theorem gZ.cV (ts:List Tr)(h:eM gZ.ks ts):∃ x:gZ,x.ok/\ts=x.enc:=by
 unfold gZ.ks at h;obtain⟨a1,_,rfl,q1⟩:=fI h;obtain⟨a2,_,rfl,q2⟩:=fI q1;obtain rfl:=du.1 q2;exact⟨⟨a1,a2⟩,ea,rfl⟩
structure bG where
 kind:Int
 dC:Int
 aL:Int
 bK:Int
 bB:Int
 from_:Int
 nk:Int
 AB:Int
 gx:Int
 ee:Int
 ur:Bool
 fe:Bool
 o8:Int
 o7:Int
 o6:Int
def bG.enc (x:bG):List Tr:=[iv x.kind,iv x.dC,iv x.aL,iv x.bK,iv x.bB,iv x.from_,iv x.nk,iv x.AB,iv x.gx,iv x.ee,bv x.ur,bv x.fe,iv x.o8,iv x.o7,iv x.o6]
def bG.ks:List K:=[.lit .int,.lit .int,.lit .int,.lit .int,.lit .int,.lit .int,.lit .int,.lit .int,.lit .int,.lit .int,.lit .bool,.lit .bool,.lit .int,.lit .int,.lit .int]
def bG.ok (_:bG):Prop:=True
theorem bG.cV (ts:List Tr)(h:eM bG.ks ts):∃ x:bG,x.ok/\ts=x.enc:=by
 unfold bG.ks at h;obtain⟨a1,_,rfl,q1⟩:=fI h;obtain⟨a2,_,rfl,q2⟩:=fI q1;obtain⟨a3,_,rfl,q3⟩:=fI q2;obtain⟨a4,_,rfl,q4⟩:=fI q3;obtain⟨a5,_,rfl,q5⟩:=fI q4;obtain⟨a6,_,rfl,q6⟩:=fI q5;obtain⟨a7,_,rfl,q7⟩:=fI q6;obtain⟨a8,_,rfl,q8⟩:=fI q7;obtain⟨a9,_,rfl,q9⟩:=fI q8;obtain⟨SC,_,rfl,PF⟩:=fI q9;obtain⟨a11,_,rfl,Uu⟩:=fB PF;obtain⟨a12,_,rfl,YV⟩:=fB Uu;obtain⟨a13,_,rfl,YU⟩:=fI YV;obtain⟨a14,_,rfl,YT⟩:=fI YU;obtain⟨a15,_,rfl,q15⟩:=fI YT;obtain rfl:=du.1 q15;exact⟨⟨a1,a2,a3,a4,a5,a6,a7,a8,a9,SC,a11,a12,a13,a14,a15⟩,ea,rfl⟩
structure dW where
 id:Int
 kind:Int
 dC:Int
 dB:Int
 x:Int
 copy:Bool
 aj:bJ
 targets:List gZ
 alZ:bG
def dW.enc (x:dW):List Tr:=[iv x.id,iv x.kind,iv x.dC,iv x.dB,iv x.x,bv x.copy,iv x.aj.kind,iv x.aj.filter.cn,iv x.aj.filter.j7,iv x.aj.filter.self,iv x.aj.filter.types,iv x.aj.filter.dH,iv x.aj.filter.ek,iv x.aj.filter.dw,sv x.aj.filter.sub,iv x.aj.filter.keys,iv x.aj.filter.np,iv x.aj.filter.dg.kind,iv x.aj.filter.dg.n,iv x.aj.filter.df.kind,iv x.aj.filter.df.n,iv x.aj.filter.value.kind,iv x.aj.filter.value.n,.sl 20 (x.aj.cH.map dR.enc),iv x.aj.dZ.fU.generic,iv x.aj.dZ.fU.x,iv x.aj.dZ.fU.gF,iv x.aj.dZ.fU.gq,iv x.aj.dZ.fU.gp,iv x.aj.dZ.fU.gn,iv x.aj.dZ.fU.gk,bv x.aj.dZ.np,bv x.aj.dZ.kX,iv x.aj.dZ.jC,bv x.aj.OH,iv x.aj.aF.when,iv x.aj.aF.j7,iv x.aj.aF.filter.cn,iv x.aj.aF.filter.j7,iv x.aj.aF.filter.self,iv x.aj.aF.filter.types,iv x.aj.aF.filter.dH,iv x.aj.aF.filter.ek,iv x.aj.aF.filter.dw,sv x.aj.aF.filter.sub,iv x.aj.aF.filter.keys,iv x.aj.aF.filter.np,iv x.aj.aF.filter.dg.kind,iv x.aj.aF.filter.dg.n,iv x.aj.aF.filter.df.kind,iv x.aj.aF.filter.df.n,iv x.aj.aF.filter.value.kind,iv x.aj.aF.filter.value.n,bv x.aj.may,.sl 18 (x.aj.specs.map gJ.enc),.sl 64 (x.aj.dv.map cN.enc),iv x.aj.replace.on,iv x.aj.replace.j7,iv x.aj.replace.filter.cn,iv x.aj.replace.filter.j7,iv x.aj.replace.filter.self,iv x.aj.replace.filter.types,iv x.aj.replace.filter.dH,iv x.aj.replace.filter.ek,iv x.aj.replace.filter.dw,sv x.aj.replace.filter.sub,iv x.aj.replace.filter.keys,iv x.aj.replace.filter.np,iv x.aj.replace.filter.dg.kind,iv x.aj.replace.filter.dg.n,iv x.aj.replace.filter.df.kind,iv x.aj.replace.filter.df.n,iv x.aj.replace.filter.value.kind,iv x.aj.replace.filter.value.n,iv x.aj.replace.do_,iv x.aj.replace.n,iv x.aj.replace.cn,iv x.aj.replace.gx,.sl 2 (x.targets.map gZ.enc),iv x.alZ.kind,iv x.alZ.dC,iv x.alZ.aL,iv x.alZ.bK,iv x.alZ.bB,iv x.alZ.from_,iv x.alZ.nk,iv x.alZ.AB,iv x.alZ.gx,iv x.alZ.ee,bv x.alZ.ur,bv x.alZ.fe,iv x.alZ.o8,iv x.alZ.o7,iv x.alZ.o6]
def dW.ks:List K:=[.lit .int,.lit .int,.lit .int,.lit .int,.lit .int,.lit .bool]++(bJ.ks++([.sl gZ.ks 16]++(bG.ks)))
def dW.ok (x:dW):Prop:=(x.aj.ok)/\(x.targets.length*16<=aV)/\(∀ y∈x.targets,gZ.ok y)/\(x.alZ.ok)
theorem dW.cV (ts:List Tr)(h:eM dW.ks ts):∃ x:dW,x.ok/\ts=x.enc:=by
 unfold dW.ks at h;obtain⟨_,_,rfl,g0,h1⟩:=cw.1 h;obtain⟨a1,_,rfl,q1⟩:=fI g0;obtain⟨a2,_,rfl,q2⟩:=fI q1;obtain⟨a3,_,rfl,q3⟩:=fI q2;obtain⟨a4,_,rfl,q4⟩:=fI q3;obtain⟨a5,_,rfl,q5⟩:=fI q4;obtain⟨a6,_,rfl,q6⟩:=fB q5;obtain rfl:=du.1 q6;obtain⟨_,_,rfl,g1,h2⟩:=cw.1 h1;obtain⟨y1,vh,rfl⟩:=bJ.cV _ g1;obtain⟨_,_,rfl,g2,h3⟩:=cw.1 h2;obtain⟨_,_,rfl,k7,q7⟩:=da.1 g2;obtain⟨_,rfl,Re,hc7⟩:=eK.1 k7;obtain⟨l7,rfl,x7⟩:=dP gZ.cV hc7;rw[Lm] at Re;obtain rfl:=du.1 q7;obtain⟨y3,UF,rfl⟩:=bG.cV _ h3;exact⟨⟨a1,a2,a3,a4,a5,a6,y1,l7,y3⟩,⟨vh,Re,x7,UF⟩,rfl⟩
structure aP where
 dC:Int
 dB:Int
 aj:bJ
 alZ:bG
def aP.enc (x:aP):List Tr:=[iv x.dC,iv x.dB,iv x.aj.kind,iv x.aj.filter.cn,iv x.aj.filter.j7,iv x.aj.filter.self,iv x.aj.filter.types,iv x.aj.filter.dH,iv x.aj.filter.ek,iv x.aj.filter.dw,sv x.aj.filter.sub,iv x.aj.filter.keys,iv x.aj.filter.np,iv x.aj.filter.dg.kind,iv x.aj.filter.dg.n,iv x.aj.filter.df.kind,iv x.aj.filter.df.n,iv x.aj.filter.value.kind,iv x.aj.filter.value.n,.sl 20 (x.aj.cH.map dR.enc),iv x.aj.dZ.fU.generic,iv x.aj.dZ.fU.x,iv x.aj.dZ.fU.gF,iv x.aj.dZ.fU.gq,iv x.aj.dZ.fU.gp,iv x.aj.dZ.fU.gn,iv x.aj.dZ.fU.gk,bv x.aj.dZ.np,bv x.aj.dZ.kX,iv x.aj.dZ.jC,bv x.aj.OH,iv x.aj.aF.when,iv x.aj.aF.j7,iv x.aj.aF.filter.cn,iv x.aj.aF.filter.j7,iv x.aj.aF.filter.self,iv x.aj.aF.filter.types,iv x.aj.aF.filter.dH,iv x.aj.aF.filter.ek,iv x.aj.aF.filter.dw,sv x.aj.aF.filter.sub,iv x.aj.aF.filter.keys,iv x.aj.aF.filter.np,iv x.aj.aF.filter.dg.kind,iv x.aj.aF.filter.dg.n,iv x.aj.aF.filter.df.kind,iv x.aj.aF.filter.df.n,iv x.aj.aF.filter.value.kind,iv x.aj.aF.filter.value.n,bv x.aj.may,.sl 18 (x.aj.specs.map gJ.enc),.sl 64 (x.aj.dv.map cN.enc),iv x.aj.replace.on,iv x.aj.replace.j7,iv x.aj.replace.filter.cn,iv x.aj.replace.filter.j7,iv x.aj.replace.filter.self,iv x.aj.replace.filter.types,iv x.aj.replace.filter.dH,iv x.aj.replace.filter.ek,iv x.aj.replace.filter.dw,sv x.aj.replace.filter.sub,iv x.aj.replace.filter.keys,iv x.aj.replace.filter.np,iv x.aj.replace.filter.dg.kind,iv x.aj.replace.filter.dg.n,iv x.aj.replace.filter.df.kind,iv x.aj.replace.filter.df.n,iv x.aj.replace.filter.value.kind,iv x.aj.replace.filter.value.n,iv x.aj.replace.do_,iv x.aj.replace.n,iv x.aj.replace.cn,iv x.aj.replace.gx,iv x.alZ.kind,iv x.alZ.dC,iv x.alZ.aL,iv x.alZ.bK,iv x.alZ.bB,iv x.alZ.from_,iv x.alZ.nk,iv x.alZ.AB,iv x.alZ.gx,iv x.alZ.ee,bv x.alZ.ur,bv x.alZ.fe,iv x.alZ.o8,iv x.alZ.o7,iv x.alZ.o6]
def aP.ks:List K:=[.lit .int,.lit .int]++(bJ.ks++(bG.ks))
def aP.ok (x:aP):Prop:=(x.aj.ok)/\(x.alZ.ok)
theorem aP.gD {x:aP}(h:x.ok):x.aj.ok:=h.1
theorem aP.cV (ts:List Tr)(h:eM aP.ks ts):∃ x:aP,x.ok/\ts=x.enc:=by
 unfold aP.ks at h;obtain⟨_,_,rfl,g0,h1⟩:=cw.1 h;obtain⟨a1,_,rfl,q1⟩:=fI g0;obtain⟨a2,_,rfl,q2⟩:=fI q1;obtain rfl:=du.1 q2;obtain⟨_,_,rfl,g1,h2⟩:=cw.1 h1;obtain⟨y1,vh,rfl⟩:=bJ.cV _ g1;obtain⟨y2,YY,rfl⟩:=bG.cV _ h2;exact⟨⟨a1,a2,y1,y2⟩,⟨vh,YY⟩,rfl⟩
structure dI where
 dG:Int
 dB:Int
 dC:Int
 Bl:Int
 aa:List Int
 cH:List dR
def dI.enc (x:dI):List Tr:=[iv x.dG,iv x.dB,iv x.dC,iv x.Bl,.sl 1 (x.aa.map eI),.sl 20 (x.cH.map dR.enc)]
def dI.ks:List K:=[.lit .int,.lit .int,.lit .int,.lit .int,.sl [.lit .int] 8,.sl dR.ks 176]
def dI.ok (x:dI):Prop:=(x.aa.length*8<=aV)/\(x.cH.length*176<=aV)/\(∀ y∈x.cH,dR.ok y)
theorem dI.ff {x:dI}(h:x.ok):x.aa.length*8<=aV:=h.1
theorem dI.kM {x:dI}(h:x.ok):x.cH.length*176<=aV:=h.2.1
theorem dI.cV (ts:List Tr)(h:eM dI.ks ts):∃ x:dI,x.ok/\ts=x.enc:=by
 unfold dI.ks at h;obtain⟨a1,_,rfl,q1⟩:=fI h;obtain⟨a2,_,rfl,q2⟩:=fI q1;obtain⟨a3,_,rfl,q3⟩:=fI q2;obtain⟨a4,_,rfl,q4⟩:=fI q3;obtain⟨_,_,rfl,k5,q5⟩:=da.1 q4;obtain⟨_,rfl,S4,hc5⟩:=eK.1 k5;obtain⟨l5,rfl,ho5⟩:=dP iZ hc5;rw[Lm] at S4;obtain⟨_,_,rfl,k6,q6⟩:=da.1 q5;obtain⟨_,rfl,XM,hc6⟩:=eK.1 k6;obtain⟨l6,rfl,ho6⟩:=dP dR.cV hc6;rw[Lm] at XM;obtain rfl:=du.1 q6;exact⟨⟨a1,a2,a3,a4,l5,l6⟩,⟨S4,XM,ho6⟩,rfl⟩
structure aq where
 aw:List bO
 aa:List az
 bu:List Int
 fQ:List Int
 stack:List dW
 iM:List aP
 dD:List dI
 tt:Int
 lT:Int
 step:Int
 begun:Bool
 priority:Int
 lC:Int
 bC:Int
 bF:Int
 gy:Int
 extra:List Int
 oy:Int
 jR:Int
def aq.enc (x:aq):List Tr:=[.sl 14 (x.aw.map bO.enc),.sl 19 (x.aa.map az.enc),.sl 1 (x.bu.map eI),.sl 1 (x.fQ.map eI),.sl 94 (x.stack.map dW.enc),.sl 89 (x.iM.map aP.enc),.sl 6 (x.dD.map dI.enc),iv x.tt,iv x.lT,iv x.step,bv x.begun,iv x.priority,iv x.lC,iv x.bC,iv x.bF,.lit (.int .u64 x.gy),.sl 1 (x.extra.map eI),iv x.oy,iv x.jR]
def aq.ks:List K:=[.sl bO.ks 152,.sl az.ks 128,.sl [.lit .int] 8,.sl [.lit .int] 8,.sl dW.ks 824,.sl aP.ks 768,.sl dI.ks 80,.lit .int,.lit .int,.lit .int,.lit .bool,.lit .int,.lit .int,.lit .int,.lit .int,.lit .u64,.sl [.lit .int] 8,.lit .int,.lit .int]
def aq.ok (x:aq):Prop:=(x.aw.length*152<=aV)/\(∀ y∈x.aw,bO.ok y)/\(x.aa.length*128<=aV)/\(∀ y∈x.aa,az.ok y)/\(x.bu.length*8<=aV)/\(x.fQ.length*8<=aV)/\(x.stack.length*824<=aV)/\(∀ y∈x.stack,dW.ok y)/\(x.iM.length*768<=aV)/\(∀ y∈x.iM,aP.ok y)/\(x.dD.length*80<=aV)/\(∀ y∈x.dD,dI.ok y)/\(x.extra.length*8<=aV)
theorem aq.ff {x:aq}(h:x.ok):x.aa.length*128<=aV:=h.2.2.1
theorem aq.PT {x:aq}(h:x.ok):x.dD.length*80<=aV:=h.2.2.2.2.2.2.2.2.2.2.1
theorem aq.Ml {x:aq}(h:x.ok):∀ y∈x.dD,dI.ok y:=h.2.2.2.2.2.2.2.2.2.2.2.1
theorem aq.cV (ts:List Tr)(h:eM aq.ks ts):∃ x:aq,x.ok/\ts=x.enc:=by
 unfold aq.ks at h;obtain⟨_,_,rfl,k1,q1⟩:=da.1 h;obtain⟨_,rfl,pS,KF⟩:=eK.1 k1;obtain⟨l1,rfl,Iu⟩:=dP bO.cV KF;rw[Lm] at pS;obtain⟨_,_,rfl,k2,q2⟩:=da.1 q1;obtain⟨_,rfl,dK,nv⟩:=eK.1 k2;obtain⟨l2,rfl,Q6⟩:=dP az.cV nv;rw[Lm] at dK;obtain⟨_,_,rfl,k3,q3⟩:=da.1 q2;obtain⟨_,rfl,IE,VV⟩:=eK.1 k3;obtain⟨l3,rfl,ho3⟩:=dP iZ VV;rw[Lm] at IE;obtain⟨_,_,rfl,k4,q4⟩:=da.1 q3;obtain⟨_,rfl,hb4,hc4⟩:=eK.1 k4;obtain⟨l4,rfl,ho4⟩:=dP iZ hc4;rw[Lm] at hb4;obtain⟨_,_,rfl,k5,q5⟩:=da.1 q4;obtain⟨_,rfl,S4,hc5⟩:=eK.1 k5;obtain⟨l5,rfl,ho5⟩:=dP dW.cV hc5;rw[Lm] at S4;obtain⟨_,_,rfl,k6,q6⟩:=da.1 q5;obtain⟨_,rfl,XM,hc6⟩:=eK.1 k6;obtain⟨l6,rfl,ho6⟩:=dP aP.cV hc6;rw[Lm] at XM;obtain⟨_,_,rfl,k7,q7⟩:=da.1 q6;obtain⟨_,rfl,Re,hc7⟩:=eK.1 k7;obtain⟨l7,rfl,x7⟩:=dP dI.cV hc7;rw[Lm] at Re;obtain⟨a8,_,rfl,q8⟩:=fI q7;obtain⟨a9,_,rfl,q9⟩:=fI q8;obtain⟨SC,_,rfl,PF⟩:=fI q9;obtain⟨a11,_,rfl,Uu⟩:=fB PF;obtain⟨a12,_,rfl,YV⟩:=fI Uu;obtain⟨a13,_,rfl,YU⟩:=fI YV;obtain⟨a14,_,rfl,YT⟩:=fI YU;obtain⟨a15,_,rfl,q15⟩:=fI YT;obtain⟨_,_,rfl,k16,q16⟩:=da.1 q15;obtain⟨a16,rfl⟩:=Rv.1 k16;obtain⟨_,_,rfl,k17,q17⟩:=da.1 q16;obtain⟨_,rfl,ajV,arY⟩:=eK.1 k17;obtain⟨l17,rfl,azX⟩:=dP iZ arY;rw[Lm] at ajV;obtain⟨a18,_,rfl,q18⟩:=fI q17;obtain⟨a19,_,rfl,q19⟩:=fI q18;obtain rfl:=du.1 q19;exact⟨⟨l1,l2,l3,l4,l5,l6,l7,a8,a9,SC,a11,a12,a13,a14,a15,a16,l17,a18,a19⟩,⟨pS,Iu,dK,Q6,IE,hb4,S4,ho5,XM,ho6,Re,x7,ajV⟩,rfl⟩
structure gw where
 zw:Int
 types:Int
 eu:List ByteArray
def gw.enc (x:gw):List Tr:=[iv x.zw,iv x.types,.sl 1 (x.eu.map eS)]
def gw.ks:List K:=[.lit .int,.lit .int,.sl [.lit .str] 16]
def gw.ok (x:gw):Prop:=(x.eu.length*16<=aV)
theorem gw.cV (ts:List Tr)(h:eM gw.ks ts):∃ x:gw,x.ok/\ts=x.enc:=by
 unfold gw.ks at h;obtain⟨a1,_,rfl,q1⟩:=fI h;obtain⟨a2,_,rfl,q2⟩:=fI q1;obtain⟨_,_,rfl,k3,q3⟩:=da.1 q2;obtain⟨_,rfl,IE,VV⟩:=eK.1 k3;obtain⟨l3,rfl,ho3⟩:=dP GO VV;rw[Lm] at IE;obtain rfl:=du.1 q3;exact⟨⟨a1,a2,l3⟩,IE,rfl⟩
structure bd where
 name:ByteArray
 token:Bool
 cost:er
 color:Int
 line:gw
 dg:Int
 df:Int
 keys:Int
 aI:List bJ
def bd.enc (x:bd):List Tr:=[sv x.name,bv x.token,iv x.cost.generic,iv x.cost.x,iv x.cost.gF,iv x.cost.gq,iv x.cost.gp,iv x.cost.gn,iv x.cost.gk,iv x.color,iv x.line.zw,iv x.line.types,.sl 1 (x.line.eu.map eS),iv x.dg,iv x.df,iv x.keys,.sl 72 (x.aI.map bJ.enc)]
def bd.ks:List K:=[.lit .str,.lit .bool]++(er.ks++([.lit .int]++(gw.ks++([.lit .int,.lit .int,.lit .int,.sl bJ.ks 640]))))
def bd.ok (x:bd):Prop:=(x.cost.ok)/\(x.line.ok)/\(x.aI.length*640<=aV)/\(∀ y∈x.aI,bJ.ok y)
theorem bd.cV (ts:List Tr)(h:eM bd.ks ts):∃ x:bd,x.ok/\ts=x.enc:=by
 unfold bd.ks at h;obtain⟨_,_,rfl,g0,h1⟩:=cw.1 h;obtain⟨_,_,rfl,k1,q1⟩:=da.1 g0;obtain⟨a1,rfl⟩:=sB.1 k1;obtain⟨a2,_,rfl,q2⟩:=fB q1;obtain rfl:=du.1 q2;obtain⟨_,_,rfl,g1,h2⟩:=cw.1 h1;obtain⟨y1,vh,rfl⟩:=er.cV _ g1;obtain⟨_,_,rfl,g2,h3⟩:=cw.1 h2;obtain⟨a3,_,rfl,q3⟩:=fI g2;obtain rfl:=du.1 q3;obtain⟨_,_,rfl,g3,h4⟩:=cw.1 h3;obtain⟨y3,UF,rfl⟩:=gw.cV _ g3;obtain⟨a4,_,rfl,q4⟩:=fI h4;obtain⟨a5,_,rfl,q5⟩:=fI q4;obtain⟨a6,_,rfl,q6⟩:=fI q5;obtain⟨_,_,rfl,k7,q7⟩:=da.1 q6;obtain⟨_,rfl,Re,hc7⟩:=eK.1 k7;obtain⟨l7,rfl,x7⟩:=dP bJ.cV hc7;rw[Lm] at Re;obtain rfl:=du.1 q7;exact⟨⟨a1,a2,y1,a3,y3,a4,a5,a6,l7⟩,⟨vh,UF,Re,x7⟩,rfl⟩
structure aD where
 name:ByteArray
 cost:er
 ek:Int
 line:gw
 dg:Int
 df:Int
 keys:Int
 aI:List bJ
 dB:Int
def aD.enc (x:aD):List Tr:=[sv x.name,iv x.cost.generic,iv x.cost.x,iv x.cost.gF,iv x.cost.gq,iv x.cost.gp,iv x.cost.gn,iv x.cost.gk,iv x.ek,iv x.line.zw,iv x.line.types,.sl 1 (x.line.eu.map eS),iv x.dg,iv x.df,iv x.keys,.sl 72 (x.aI.map bJ.enc),iv x.dB]
def aD.ok (x:aD):Prop:=(x.cost.ok)/\(x.line.ok)/\(x.aI.length*640<=aV)/\(∀ y∈x.aI,bJ.ok y)
structure aG where
 id:Int
 index:Int
 you:Int
 aj:bJ
 Wo:Bool
def aG.enc (x:aG):List Tr:=[iv x.id,iv x.index,iv x.you,iv x.aj.kind,iv x.aj.filter.cn,iv x.aj.filter.j7,iv x.aj.filter.self,iv x.aj.filter.types,iv x.aj.filter.dH,iv x.aj.filter.ek,iv x.aj.filter.dw,sv x.aj.filter.sub,iv x.aj.filter.keys,iv x.aj.filter.np,iv x.aj.filter.dg.kind,iv x.aj.filter.dg.n,iv x.aj.filter.df.kind,iv x.aj.filter.df.n,iv x.aj.filter.value.kind,iv x.aj.filter.value.n,.sl 20 (x.aj.cH.map dR.enc),iv x.aj.dZ.fU.generic,iv x.aj.dZ.fU.x,iv x.aj.dZ.fU.gF,iv x.aj.dZ.fU.gq,iv x.aj.dZ.fU.gp,iv x.aj.dZ.fU.gn,iv x.aj.dZ.fU.gk,bv x.aj.dZ.np,bv x.aj.dZ.kX,iv x.aj.dZ.jC,bv x.aj.OH,iv x.aj.aF.when,iv x.aj.aF.j7,iv x.aj.aF.filter.cn,iv x.aj.aF.filter.j7,iv x.aj.aF.filter.self,iv x.aj.aF.filter.types,iv x.aj.aF.filter.dH,iv x.aj.aF.filter.ek,iv x.aj.aF.filter.dw,sv x.aj.aF.filter.sub,iv x.aj.aF.filter.keys,iv x.aj.aF.filter.np,iv x.aj.aF.filter.dg.kind,iv x.aj.aF.filter.dg.n,iv x.aj.aF.filter.df.kind,iv x.aj.aF.filter.df.n,iv x.aj.aF.filter.value.kind,iv x.aj.aF.filter.value.n,bv x.aj.may,.sl 18 (x.aj.specs.map gJ.enc),.sl 64 (x.aj.dv.map cN.enc),iv x.aj.replace.on,iv x.aj.replace.j7,iv x.aj.replace.filter.cn,iv x.aj.replace.filter.j7,iv x.aj.replace.filter.self,iv x.aj.replace.filter.types,iv x.aj.replace.filter.dH,iv x.aj.replace.filter.ek,iv x.aj.replace.filter.dw,sv x.aj.replace.filter.sub,iv x.aj.replace.filter.keys,iv x.aj.replace.filter.np,iv x.aj.replace.filter.dg.kind,iv x.aj.replace.filter.dg.n,iv x.aj.replace.filter.df.kind,iv x.aj.replace.filter.df.n,iv x.aj.replace.filter.value.kind,iv x.aj.replace.filter.value.n,iv x.aj.replace.do_,iv x.aj.replace.n,iv x.aj.replace.cn,iv x.aj.replace.gx,bv x.Wo]
structure bq where
 id:Int
 index:Int
 you:Int
 a:bJ
def bq.enc (x:bq):List Tr:=[iv x.id,iv x.index,iv x.you,iv x.a.kind,iv x.a.filter.cn,iv x.a.filter.j7,iv x.a.filter.self,iv x.a.filter.types,iv x.a.filter.dH,iv x.a.filter.ek,iv x.a.filter.dw,sv x.a.filter.sub,iv x.a.filter.keys,iv x.a.filter.np,iv x.a.filter.dg.kind,iv x.a.filter.dg.n,iv x.a.filter.df.kind,iv x.a.filter.df.n,iv x.a.filter.value.kind,iv x.a.filter.value.n,.sl 20 (x.a.cH.map dR.enc),iv x.a.dZ.fU.generic,iv x.a.dZ.fU.x,iv x.a.dZ.fU.gF,iv x.a.dZ.fU.gq,iv x.a.dZ.fU.gp,iv x.a.dZ.fU.gn,iv x.a.dZ.fU.gk,bv x.a.dZ.np,bv x.a.dZ.kX,iv x.a.dZ.jC,bv x.a.OH,iv x.a.aF.when,iv x.a.aF.j7,iv x.a.aF.filter.cn,iv x.a.aF.filter.j7,iv x.a.aF.filter.self,iv x.a.aF.filter.types,iv x.a.aF.filter.dH,iv x.a.aF.filter.ek,iv x.a.aF.filter.dw,sv x.a.aF.filter.sub,iv x.a.aF.filter.keys,iv x.a.aF.filter.np,iv x.a.aF.filter.dg.kind,iv x.a.aF.filter.dg.n,iv x.a.aF.filter.df.kind,iv x.a.aF.filter.df.n,iv x.a.aF.filter.value.kind,iv x.a.aF.filter.value.n,bv x.a.may,.sl 18 (x.a.specs.map gJ.enc),.sl 64 (x.a.dv.map cN.enc),iv x.a.replace.on,iv x.a.replace.j7,iv x.a.replace.filter.cn,iv x.a.replace.filter.j7,iv x.a.replace.filter.self,iv x.a.replace.filter.types,iv x.a.replace.filter.dH,iv x.a.replace.filter.ek,iv x.a.replace.filter.dw,sv x.a.replace.filter.sub,iv x.a.replace.filter.keys,iv x.a.replace.filter.np,iv x.a.replace.filter.dg.kind,iv x.a.replace.filter.dg.n,iv x.a.replace.filter.df.kind,iv x.a.replace.filter.df.n,iv x.a.replace.filter.value.kind,iv x.a.replace.filter.value.n,iv x.a.replace.do_,iv x.a.replace.n,iv x.a.replace.cn,iv x.a.replace.gx]
structure fZ where
 before:aq
 after:aq
 ca:List aD
 cg:List aD
 e:bG
def fZ.enc (x:fZ):List Tr:=[.sl 14 (x.before.aw.map bO.enc),.sl 19 (x.before.aa.map az.enc),.sl 1 (x.before.bu.map eI),.sl 1 (x.before.fQ.map eI),.sl 94 (x.before.stack.map dW.enc),.sl 89 (x.before.iM.map aP.enc),.sl 6 (x.before.dD.map dI.enc),iv x.before.tt,iv x.before.lT,iv x.before.step,bv x.before.begun,iv x.before.priority,iv x.before.lC,iv x.before.bC,iv x.before.bF,.lit (.int .u64 x.before.gy),.sl 1 (x.before.extra.map eI),iv x.before.oy,iv x.before.jR,.sl 14 (x.after.aw.map bO.enc),.sl 19 (x.after.aa.map az.enc),.sl 1 (x.after.bu.map eI),.sl 1 (x.after.fQ.map eI),.sl 94 (x.after.stack.map dW.enc),.sl 89 (x.after.iM.map aP.enc),.sl 6 (x.after.dD.map dI.enc),iv x.after.tt,iv x.after.lT,iv x.after.step,bv x.after.begun,iv x.after.priority,iv x.after.lC,iv x.after.bC,iv x.after.bF,.lit (.int .u64 x.after.gy),.sl 1 (x.after.extra.map eI),iv x.after.oy,iv x.after.jR,.sl 17 (x.ca.map aD.enc),.sl 17 (x.cg.map aD.enc),iv x.e.kind,iv x.e.dC,iv x.e.aL,iv x.e.bK,iv x.e.bB,iv x.e.from_,iv x.e.nk,iv x.e.AB,iv x.e.gx,iv x.e.ee,bv x.e.ur,bv x.e.fe,iv x.e.o8,iv x.e.o7,iv x.e.o6]
structure eB where
 before:aq
 after:aq
 ca:List aD
 cg:List aD
 e:bG
 cG:List Int
def eB.enc (x:eB):List Tr:=[.sl 14 (x.before.aw.map bO.enc),.sl 19 (x.before.aa.map az.enc),.sl 1 (x.before.bu.map eI),.sl 1 (x.before.fQ.map eI),.sl 94 (x.before.stack.map dW.enc),.sl 89 (x.before.iM.map aP.enc),.sl 6 (x.before.dD.map dI.enc),iv x.before.tt,iv x.before.lT,iv x.before.step,bv x.before.begun,iv x.before.priority,iv x.before.lC,iv x.before.bC,iv x.before.bF,.lit (.int .u64 x.before.gy),.sl 1 (x.before.extra.map eI),iv x.before.oy,iv x.before.jR,.sl 14 (x.after.aw.map bO.enc),.sl 19 (x.after.aa.map az.enc),.sl 1 (x.after.bu.map eI),.sl 1 (x.after.fQ.map eI),.sl 94 (x.after.stack.map dW.enc),.sl 89 (x.after.iM.map aP.enc),.sl 6 (x.after.dD.map dI.enc),iv x.after.tt,iv x.after.lT,iv x.after.step,bv x.after.begun,iv x.after.priority,iv x.after.lC,iv x.after.bC,iv x.after.bF,.lit (.int .u64 x.after.gy),.sl 1 (x.after.extra.map eI),iv x.after.oy,iv x.after.jR,.sl 17 (x.ca.map aD.enc),.sl 17 (x.cg.map aD.enc),iv x.e.kind,iv x.e.dC,iv x.e.aL,iv x.e.bK,iv x.e.bB,iv x.e.from_,iv x.e.nk,iv x.e.AB,iv x.e.gx,iv x.e.ee,bv x.e.ur,bv x.e.fe,iv x.e.o8,iv x.e.o7,iv x.e.o6,.sl 1 (x.cG.map eI)]
structure bV where
 dC:Int
 aj:Int
 dB:Int
 dG:Int
 fixed:Bool
 aa:List Int
 filter:ck
 cH:List dR
def bV.enc (x:bV):List Tr:=[iv x.dC,iv x.aj,iv x.dB,iv x.dG,bv x.fixed,.sl 1 (x.aa.map eI),iv x.filter.cn,iv x.filter.j7,iv x.filter.self,iv x.filter.types,iv x.filter.dH,iv x.filter.ek,iv x.filter.dw,sv x.filter.sub,iv x.filter.keys,iv x.filter.np,iv x.filter.dg.kind,iv x.filter.dg.n,iv x.filter.df.kind,iv x.filter.df.n,iv x.filter.value.kind,iv x.filter.value.n,.sl 20 (x.cH.map dR.enc)]
def bV.ok (x:bV):Prop:=(x.aa.length*8<=aV)/\(x.filter.ok)/\(x.cH.length*176<=aV)/\(∀ y∈x.cH,dR.ok y)
structure ia where
 aE:List bd
 before:aq
 after:aq
 e:bG
def ia.enc (x:ia):List Tr:=[.sl 17 (x.aE.map bd.enc),.sl 14 (x.before.aw.map bO.enc),.sl 19 (x.before.aa.map az.enc),.sl 1 (x.before.bu.map eI),.sl 1 (x.before.fQ.map eI),.sl 94 (x.before.stack.map dW.enc),.sl 89 (x.before.iM.map aP.enc),.sl 6 (x.before.dD.map dI.enc),iv x.before.tt,iv x.before.lT,iv x.before.step,bv x.before.begun,iv x.before.priority,iv x.before.lC,iv x.before.bC,iv x.before.bF,.lit (.int .u64 x.before.gy),.sl 1 (x.before.extra.map eI),iv x.before.oy,iv x.before.jR,.sl 14 (x.after.aw.map bO.enc),.sl 19 (x.after.aa.map az.enc),.sl 1 (x.after.bu.map eI),.sl 1 (x.after.fQ.map eI),.sl 94 (x.after.stack.map dW.enc),.sl 89 (x.after.iM.map aP.enc),.sl 6 (x.after.dD.map dI.enc),iv x.after.tt,iv x.after.lT,iv x.after.step,bv x.after.begun,iv x.after.priority,iv x.after.lC,iv x.after.bC,iv x.after.bF,.lit (.int .u64 x.after.gy),.sl 1 (x.after.extra.map eI),iv x.after.oy,iv x.after.jR,iv x.e.kind,iv x.e.dC,iv x.e.aL,iv x.e.bK,iv x.e.bB,iv x.e.from_,iv x.e.nk,iv x.e.AB,iv x.e.gx,iv x.e.ee,bv x.e.ur,bv x.e.fe,iv x.e.o8,iv x.e.o7,iv x.e.o6]
def ia.ks:List K:=[.sl bd.ks 176]++(aq.ks++(aq.ks++(bG.ks)))
def ia.ok (x:ia):Prop:=(x.aE.length*176<=aV)/\(∀ y∈x.aE,bd.ok y)/\(x.before.ok)/\(x.after.ok)/\(x.e.ok)
theorem ia.cV (ts:List Tr)(h:eM ia.ks ts):∃ x:ia,x.ok/\ts=x.enc:=by
 unfold ia.ks at h;obtain⟨_,_,rfl,g0,h1⟩:=cw.1 h;obtain⟨_,_,rfl,k1,q1⟩:=da.1 g0;obtain⟨_,rfl,pS,KF⟩:=eK.1 k1;obtain⟨l1,rfl,Iu⟩:=dP bd.cV KF;rw[Lm] at pS;obtain rfl:=du.1 q1;obtain⟨_,_,rfl,g1,h2⟩:=cw.1 h1;obtain⟨y1,vh,rfl⟩:=aq.cV _ g1;obtain⟨_,_,rfl,g2,h3⟩:=cw.1 h2;obtain⟨y2,YY,rfl⟩:=aq.cV _ g2;obtain⟨y3,UF,rfl⟩:=bG.cV _ h3;exact⟨⟨l1,y1,y2,y3⟩,⟨pS,Iu,vh,YY,UF⟩,rfl⟩
end
end Cg
