/- Parts of the proof, joined: Evaluation on trees:. -/
import Derived.Test.YtbmdcnkidjlbbaaGreatRA
import Derived.Laws.IdiomCopy
import Derived.Laws.OwnMore
import Derived.Laws.IdiomStrings
open List renaming getElem?_eq_getElem->cD,length_cons->aq,length_nil->aw,getElem?_eq_some_iff->an,length_append->au,length_take->aB,mem_cons_self->aC,mem_singleton->aJ,mem_cons_of_mem->aK,all_eq_true->aN,length_drop->aL,mem_of_getElem?->aU,mem_append->aX,getElem?_append_right->aY,append_nil->aZ,take_length->bm,getElem?_append_left->bn,mem_map->bA,getElem?_map->bp,mem_append_left->bH,mem_append_right->bJ,nil_append->bF,flatMap_cons->bK,map_cons->bP,length_replicate->cc,drop_eq_getElem_cons->dw,getElem?_eq_none->dy,append_assoc->cH
open Bool renaming and_eq_true->ag,not_eq_true'->cb,or_eq_true->cm
open Go.IntKind renaming wrap_i64->ak
open Nat renaming eq_of_beq_eq_true->ah,le_refl->al,zero_le->aD,le_trans->bd,zero_add->bu,lt_of_lt_of_le->cd,mul_le_mul_right->cw,le_of_lt->cG,add_zero->cO
open Option.some renaming inj->aR
open Array renaming length_toList->bD,getElem?_toList->cp
open Cg.AV renaming b->aB0
set_option maxRecDepth 100000
set_option maxHeartbeats 4000000
namespace Cg
section
open Go Go.RowKit Go.Sort Go.Lib
section
variable {P:Program}{T:Nat->Option Ty}{O:gD}
theorem jr {x:Nat}:∀ {l:List Nat} {i:Nat},jw x l=some i->l[i]? = some x
 | y :: r,i,h=>by
  unfold jw at h
  cases hb:Nat.beq y x with
  | true=>
   rw[hb] at h
   cases h
   rw[ah hb];rfl
  | false=>
   rw[hb] at h;simp only[cond_false] at h;split at h
   ·rename_i j hj
    cases h
    exact(show r[j]? = some x from jr hj)
   ·cases h
theorem zY {x:Nat}:∀ {l:List Nat} {i:Nat},fu l=true->l[i]? = some x->jw x l=some i
 | y :: r,0,h,hx=>by
  obtain rfl:=aR hx;unfold jw;rw[show Nat.beq y y=true by simp];rfl
 | y :: r,i+1,h,hx=>by
  unfold fu at h;split at h
  ·cases h
  ·rename_i hn;have hx:r[i]? = some x:=hx;have ih:=zY h hx
   have gX:Nat.beq y x=false:=by
    cases hb:Nat.beq y x with
    | false=>rfl
    | true=>
     rw[ah hb,ih] at hn
     cases hn
   unfold jw;rw[gX,ih];rfl
theorem Mo {st:St}{f:Operand}{vs:List AV}{mb:List Nat}{mr:List (Nat × Nat)}(h:KF T st f vs mb mr=true):fu mb=true/\fu (mr.map (·.1))=true:=by
 unfold KF at h;simp only[ag] at h;exact⟨h.2.1,h.2.2.1⟩
def Env.fz (E:Env)(mb:List Nat)(mr:List (Nat × Nat)):Env:=⟨fun b=>match E.rl b with
 | .bx i=>(match jw i mb with
  | some p=>.bx p
  | none=>.dX)
 | .rw τ=>(match jw τ (mr.map (·.1)) with
  | some j=>.rw j
  | none=>.dX)
 | .iE τ x y=>(match jw τ (mr.map (·.1)) with
  | some j=>.iE j x y
  | none=>.dX)
 | x=>x,fun p=>E.bk (mb.getD p 0),fun j u=>E.vl (mr.getD j (0,0)).1 ((mr.getD j (0,0)).2+u)⟩
def Ld (mb:List Nat)(mr:List (Nat × Nat))(id:Nat):iD->iD
 | .bx i=>(match mb[i]? with
  | some b=>.bx b
  | none=>.dX)
 | .rw j=>(match mr[j]? with
  | some q=>.rw q.1
  | none=>.rw (id+(j - mr.length)))
 | .iE j x y=>(match mr[j]? with
  | some q=>.iE q.1 x y
  | none=>.iE (id+(j - mr.length)) x y)
 | x=>x
def Env.jB (E E':Env)(g id:Nat)(mb:List Nat)(mr:List (Nat × Nat)):Env:=⟨fun b=>if b < g then(match E.rl b with
 | .bx i=>(match jw i mb with
  | some _=>Ld mb mr id (E'.rl b)
  | none=>.bx i)
 | .rw τ=>(match jw τ (mr.map (·.1)) with
  | some _=>Ld mb mr id (E'.rl b)
  | none=>.rw τ)
 | .iE τ x y=>(match jw τ (mr.map (·.1)) with
  | some _=>Ld mb mr id (E'.rl b)
  | none=>.iE τ x y)
 | x=>x) else Ld mb mr id (E'.rl b),E.bk,fun τ u=>if id<=τ/\τ < id+128 then E'.vl (mr.length+(τ - id)) u else(match jw τ (mr.map (·.1)) with
  | some j=>if u<=(mr.getD j (0,0)).2 then E.vl τ u else E'.vl j (u - (mr.getD j (0,0)).2)
  | none=>E.vl τ u)⟩
theorem zO {mr:List (Nat × Nat)}{id:Nat}:∀ {mb:List Nat} {ob:List (List Ce)} {b:Nat} {cs:List Ce},lk (pZ mr id mb ob) b=some cs->∃ i c,jw b mb=some i/\ob[i]? = some c/\cs=c.map (Ce.rn mr id)
 | [],_,b,cs,h=>by
  unfold pZ at h
  cases h
 | _ :: _,[],b,cs,h=>by cases h
 | b0 :: mb,c :: ob,b,cs,h=>by
  unfold pZ at h;rw[bZ] at h;split at h
  ·rename_i e;subst e
   cases h
   refine⟨0,c,?_,rfl,rfl⟩;unfold jw;rw[show Nat.beq b0 b0=true by simp];rfl
  ·rename_i gX;obtain⟨i,c',h1,h2,h3⟩:=zO h;refine⟨i+1,c',?_,h2,h3⟩;unfold jw
   rw[show Nat.beq b0 b=false by
    cases hb:Nat.beq b0 b
    ·rfl
    ·exact absurd (ah hb) gX,h1]
   rfl
theorem qg {mr:List (Nat × Nat)}{id:Nat}:∀ {mb:List Nat} {ob:List (List Ce)} {b:Nat},ob.length=mb.length->lk (pZ mr id mb ob) b=none->jw b mb=none
 | [],_,b,_,_=>rfl
 | b0 :: mb,c :: ob,b,hl,h=>by
  unfold pZ at h;rw[bZ] at h;split at h
  ·cases h
  ·rename_i gX;unfold jw
   rw[show Nat.beq b0 b=false by
    cases hb:Nat.beq b0 b
    ·rfl
    ·exact absurd (ah hb) gX,qg (by simpa using hl) h]
   rfl
 | _ :: _,[],b,hl,_=>by cases hl
theorem nZ:∀ {mr:List (Nat × Nat)} {fa:List Row} {τ:Nat} {R:Row},lk (kV mr fa) τ=some R->∃ j q R0,jw τ (mr.map (·.1))=some j/\mr[j]? = some q/\q.1=τ/\fa[j]? = some R0/\R=⟨R0.ty,R0.k,q.2+R0.bo,R0.xs,R0.dp⟩
 | [],_,τ,R,h=>by
  unfold kV at h
  cases h
 | (_,_) :: _,[],τ,R,h=>by cases h
 | (t0,v) :: mr,c :: fa,τ,R,h=>by
  unfold kV at h;rw[bZ] at h;rw[bP];split at h
  ·rename_i e;subst e
   cases h
   refine⟨0,(t0,v),c,?_,rfl,rfl,rfl,rfl⟩;unfold jw;rw[show Nat.beq t0 t0=true by simp];rfl
  ·rename_i gX;obtain⟨j,q,R0,h1,h2,h3,h4,h5⟩:=nZ h;refine⟨j+1,q,R0,?_,h2,h3,h4,h5⟩;unfold jw
   rw[show Nat.beq t0 τ=false by
    cases hb:Nat.beq t0 τ
    ·rfl
    ·exact absurd (ah hb) gX,h1]
   rfl
theorem mn:∀ {mr:List (Nat × Nat)} {fa:List Row} {τ:Nat},fa.length=mr.length->lk (kV mr fa) τ=none->jw τ (mr.map (·.1))=none
 | [],_,τ,_,_=>rfl
 | (t0,v) :: mr,c :: fa,τ,hl,h=>by
  unfold kV at h;rw[bZ] at h;rw[bP];split at h
  ·cases h
  ·rename_i gX;unfold jw
   rw[show Nat.beq t0 τ=false by
    cases hb:Nat.beq t0 τ
    ·rfl
    ·exact absurd (ah hb) gX,mn (by simpa using hl) h]
   rfl
 | (_,_) :: _,[],τ,hl,_=>by cases hl
theorem BU:∀ {mr:List (Nat × Nat)} {fa:List Row} {j:Nat} {q:Nat × Nat} {R0:Row},fu (mr.map (·.1))=true->mr[j]? = some q->fa[j]? = some R0->lk (kV mr fa) q.1=some ⟨R0.ty,R0.k,q.2+R0.bo,R0.xs,R0.dp⟩
 | (t0,v) :: mr,c :: fa,0,q,R0,_,h1,h2=>by
  obtain rfl:=aR h1;obtain rfl:=aR h2;unfold kV;rw[bZ,if_pos rfl]
 | (t0,v) :: mr,c :: fa,j+1,q,R0,hn,h1,h2=>by
  have h1:mr[j]? = some q:=h1;rw[bP] at hn;unfold fu at hn;split at hn
  ·cases hn
  ·rename_i hx;unfold kV;rw[bZ,if_neg,BU hn h1 h2];intro e;have:jw q.1 (mr.map (·.1))=some j:=zY hn (by rw[bp,h1];rfl);rw[<- e,hx] at this
   cases this
theorem CY {st:St}{mr:List (Nat × Nat)}:∀ {mb:List Nat} {ib:List (List Ce)},xD st mr mb ib->mb.length=ib.length/\∀ (i b:Nat),mb[i]? = some b->∃ us cs,lk st.bx b=some us/\ib[i]? = some cs/\DI mr us cs
 | [],[],_=>⟨rfl,fun i b h=>by simp at h⟩
 | b0 :: mb,cs :: ib,h=>by
  obtain⟨h1,h2⟩:=h;obtain⟨h3,h4⟩:=CY h2;refine⟨by simp[h3],fun i b hb=>?_⟩
  cases i with
  | zero=>
   obtain rfl:=aR hb;split at h1
   ·rename_i us n7;exact⟨us,cs,n7,rfl,h1⟩
   ·exact h1.elim
  | succ i=>exact h4 i b hb
 | [],_ :: _,h=>h.elim
 | _ :: _,[],h=>h.elim
theorem CV {st:St}:∀ {mr:List (Nat × Nat)} {ir:List Row},DH st mr ir->mr.length=ir.length/\∀ (j:Nat) (q:Nat × Nat),mr[j]? = some q->∃ R,lk st.rw q.1=some R/\R.bo=q.2/\ir[j]? = some ⟨R.ty,R.k,0,R.xs,R.dp⟩/\R.shut=true
 | [],[],_=>⟨rfl,fun i b h=>by simp at h⟩
 | (t0,v) :: mr,R :: ir,h=>by
  obtain⟨h1,h2⟩:=h;obtain⟨h3,h4⟩:=CV h2;refine⟨by simp[h3],fun i b hb=>?_⟩
  cases i with
  | zero=>
   obtain rfl:=aR hb;split at h1
   ·rename_i R' CI;obtain⟨ty,k,bo,xs,dp⟩:=R;obtain⟨e1,e2,e3,e4,e5,e6,e7⟩:=h1;simp only at e2 e3 e4 e5 e6;subst e2 e3 e4 e5 e6;exact⟨R',CI,e1,rfl,e7⟩
   ·exact h1.elim
  | succ i=>exact h4 i b hb
 | [],_ :: _,h=>h.elim
 | (_,_) :: _,[],h=>h.elim
section
variable {E:Env}{w:World}{mb:List Nat}{mr:List (Nat × Nat)}
theorem iN {b:Nat}(h:E.rl b=.bz):(E.fz mb mr).rl b=.bz:=by unfold Env.fz;simp only[h]
theorem Vt {v:Value}{t:Tr}(h:RT E.F w v t):RT (E.fz mb mr).F w v t:=h.frame (al _) (fun _ _ _=>rfl) (fun _ hb _=>iN hb)
theorem Ro {v:List Value}{t:List Tr}(h:iR E.F w v t):iR (E.fz mb mr).F w v t:=h.frame (al _) (fun _ _ _=>rfl) (fun _ hb _=>iN hb)
theorem CX {v:Value}{c d:Ce}(h:Ix mr c d)(hv:RC E w v c):RC (E.fz mb mr) w v d:=by
 cases d with
 | t y=>
  cases c with
  | t x=>
   obtain rfl:x=y:=h;exact Vt hv
  | nil=>
   obtain⟨k,rfl⟩:=h;rw[show v=_ from hv];exact .gi fun _=>rfl
  | _=>exact h.elim
 | nil=>
  cases c with
  | nil=>exact hv
  | _=>exact h.elim
 | row j u=>
  unfold Ix at h;simp only at h;split at h
  ·rename_i τ v' τ' u' hj;obtain⟨rfl,rfl⟩:=h;refine⟨hv.1.trans ?_,hv.2⟩;unfold Env.fz;simp only[List.getD_eq_getElem?_getD,hj,Option.getD_some]
  ·exact h.elim
 | bot=>exact hv.one
theorem wA:∀ {vs:List Value} {cs ds:List Ce},DI mr cs ds->A2 (RC E w) vs cs->A2 (RC (E.fz mb mr) w) vs ds
 | _,[],[],_,.nil=>.nil
 | _,_c :: _cs,_d :: _ds,h,.cons h1 h2=>.cons (CX h.1 h1) (wA h.2 h2)
 | _,[],_ :: _,h,_=>h.elim
 | _,_ :: _,[],h,_=>h.elim
theorem HS:∀ {cs ds:List (Nat × Nat)},WU mb cs ds->cs.map (nL E)=ds.map (nL (E.fz mb mr))
 | [],[],_=>rfl
 | (b,o) :: cs,(i,o') :: ds,h=>by
  obtain⟨h1,h2⟩:=h;rw[bP,bP,HS h2];congr 1;split at h1
  ·rename_i x hx;obtain⟨rfl,rfl⟩:=h1;unfold nL Env.fz;simp only[List.getD_eq_getElem?_getD,hx,Option.getD_some]
  ·exact h1.elim
 | [],_ :: _,h=>h.elim
 | _ :: _,[],h=>h.elim
theorem RZ {v:Value}{x y:AV}(h:SM mb mr x y)(hv:RV E w v x):R1 (E.fz mb mr) w v y:=by
 cases y with
 | c y=>
  cases x with
  | c x=>exact CX h hv
  | _=>exact h.elim
 | agg ys=>
  cases x with
  | agg xs=>
   obtain⟨vs,rfl,ha⟩:=hv;exact⟨vs,rfl,wA h ha⟩
  | _=>exact h.elim
 | ptr i o=>
  unfold SM at h;simp only at h;split at h
  ·rename_i b b' o' hi;obtain⟨rfl,rfl⟩:=h;refine(show v=_ from hv).trans ?_;unfold Env.fz;simp only[List.getD_eq_getElem?_getD,hi,Option.getD_some]
  ·exact h.elim
 | dF j u k i o=>
  unfold SM at h;simp only at h;split at h
  ·rename_i τ v' τ' u' k' i' o' hj;obtain⟨rfl,rfl,rfl,rfl,rfl⟩:=h;obtain⟨g,n,c,h1,h2⟩:=hv;refine⟨g,n,c,?_,h2⟩;unfold Env.fz;simp only[List.getD_eq_getElem?_getD,hj,Option.getD_some];exact h1
  ·exact h.elim
 | eE=>
  cases x with
  | eE=>exact hv
  | _=>exact h.elim
 | dv ys o=>
  cases x with
  | dv xs o'=>
   obtain⟨rfl,rfl⟩:=h;obtain⟨g,p,vs,rfl,h1,h2,h3,h4⟩:=hv;exact⟨g,p,vs,rfl,iN h1,h2,h3,Ro h4⟩
  | _=>exact h.elim
 | bot=>exact⟨⟩
 | sub _ _ _ _=>exact h.elim
 | fH _=>exact h.elim
 | fn f ds=>
  cases x with
  | fn g cs=>
   obtain⟨rfl,h⟩:=h;have hv:v=.func (.func g) #[] (cs.map (nL E)).toArray:=hv;show v=.func (.func g) #[] (ds.map (nL (E.fz mb mr))).toArray;rw[hv,HS h]
  | _=>exact h.elim
 | kp _ _=>exact h.elim
theorem CT:∀ {vs:List Value} {xs ys:List AV},DG mb mr xs ys->A2 (RV E w) vs xs->A2 (R1 (E.fz mb mr) w) vs ys
 | _,[],[],_,.nil=>.nil
 | _,_x :: _xs,_y :: _ys,h,.cons h1 h2=>.cons (RZ h.1 h1) (CT h.2 h2)
 | _,[],_ :: _,h,_=>h.elim
 | _,_ :: _,[],h,_=>h.elim
end
section
variable {E:Env}{w:World}{n0 N m id:Nat}{st:St}{a:Act}
theorem FV [GlC O](r:ca O E w n0 N m st a){o:Oper}(hd:∀ x,o.dst=some x->x < N)(hf:lS st id)(hm:id+128<=m){f:Operand}{args:Array Operand}{qM:Array TypeId}{g:Nat}(ho:o.op=.call ⟨.value f,args,qM⟩){vs:List AV}(hfn:oO (args.toList.map (ev st)) (ev st f)=some (g,vs)){mb:List Nat}{mr:List (Nat × Nat)}{dH:List AV}{ib:List (List Ce)}{ir:List Row}{rv:AV}{ob:List (List Ce)}{fa nr:List Row}(k1:DG mb mr vs dH)(k2:xD st mr mb ib)(k3:DH st mr ir)(k4:fu mb=true)(k5:fu (mr.map (·.1))=true)(ct:F7 P g dH ib ir rv ob fa nr) :
  kA P O o a w n0 N m st ⟨rv.rn mb mr id,pZ mr id mb ob,kV mr fa++jc id 0 nr⟩:=by
 obtain⟨cv,VQ,wj⟩:=Dm r hfn;obtain⟨lB,gB⟩:=CY k2;obtain⟨lR,gR⟩:=CV k3;have Tt:ob.length=mb.length:=ct.lb.trans lB.symm;have hlr:fa.length=mr.length:=ct.lr.trans lR.symm;have ha:A2 (R1 (E.fz mb mr) w) (args.toList.map a.eval++cv) dH:=CT k1 wj;have e1:(args.toList.map a.eval++cv).toArray=args.map a.eval++cv.toArray:=Array.toList_inj.1 (by simp)
 have kj:(execOp a.eval o).run P w=.ok (.enter g (args.map a.eval++cv.toArray)) w:=by
  unfold execOp;simp only[ho,resolve,VQ,Deferred.ofValue,Sem.run_bind,Sem.run_pure,Result.andThen_ok,invoke];have:=ct.NZ (#[]++args.map a.eval++cv.toArray) w;rw[this];simp
 -- the world of the caller's beginning
 obtain⟨w0,OZ,O9⟩:∃ w0:World,w0.heap.size=n0/\Below n0 w0 w:=by
  refine⟨{ w with heap:=w.heap.extract 0 n0 },?_,⟨rfl,rfl,rfl,?_,fun k hk=>?_⟩⟩
  ·show(w.heap.extract 0 n0).size=n0;rw[Array.size_extract];have:=r.hi;omega
  ·show(w.heap.extract 0 n0).size<=w.heap.size;rw[Array.size_extract];omega
  ·show w.heap[k]? = (w.heap.extract 0 n0)[k]?;rw[Array.getElem?_extract];have:=r.hi;rw[if_pos (by omega),bu]
 -- variables and rows that are passed
 have Z0:∀ (i b:Nat),mb[i]? = some b->∀ cs,ib[i]? = some cs->RB (E.fz mb mr) w n0 i cs:=fun i b hb cs dL=>by
  obtain⟨us,gQ,h1,h2,h3⟩:=gB i b hb;rw[h2] at dL
  cases dL
  obtain⟨ws,t,q1,q2,q3,q4⟩:=r.box b us h1
  have ZM:(E.fz mb mr).bk i=E.bk b:=by
   unfold Env.fz;simp only[List.getD_eq_getElem?_getD,hb,Option.getD_some]
  refine⟨ws,t,by rw[ZM];exact q1,by rw[ZM];exact q2,?_,wA h3 q4⟩;rw[ZM];unfold Env.fz;simp only[q3,zY k4 hb]
 have evl:∀ (j:Nat) (q:Nat × Nat),mr[j]? = some q->∀ u,(E.fz mb mr).vl j u=E.vl q.1 (q.2+u):=fun j q hq u=>by
  unfold Env.fz;simp only[List.getD_eq_getElem?_getD,hq,Option.getD_some]
 have Rj:∀ (j:Nat) (q:Nat × Nat),mr[j]? = some q->jw q.1 (mr.map (·.1))=some j:=fun j q hq=>zY k5 (by rw[bp,hq];rfl)
 have X4:∀ (j:Nat) (q:Nat × Nat),mr[j]? = some q->∀ R,ir[j]? = some R->RR (E.fz mb mr) w n0 j R:=fun j q hq R hR=>by
  obtain⟨R',h1,h2,h3,se⟩:=gR j q hq;rw[h3] at hR
  cases hR
  have e:(E.fz mb mr).vl j 0=E.vl q.1 R'.bo:=by rw[evl j q hq,h2];rfl
  refine RR.to (R:=R') (h:=r.row q.1 R' h1) (al _) rfl rfl rfl rfl se e (fun b hb _=>iN hb) (fun b _ _ h=>?_) fun b x y _ _ h=>?_
  ·unfold Env.fz;simp only[h,Rj j q hq]
  ·unfold Env.fz;simp only[h,Rj j q hq]
 intro K Q hK;unfold Oper.wp;rw[kj];show Calls P g (args.map a.eval++cv.toArray) w _;rw[<- e1]
 have VB:∀ b,(E.fz mb mr).rl b=.bz\/(E.fz mb mr).rl b=.dX\/(∃ i,i < ib.length/\(E.fz mb mr).rl b=.bx i)\/(∃ j,j < ir.length/\(E.fz mb mr).rl b=.rw j)\/∃ j x y,j < ir.length/\(E.fz mb mr).rl b=.iE j x y:=fun b=>by
  cases hq:E.rl b with
  | bz=>exact .inl (iN hq)
  | dX=>exact .inr (.inl (by unfold Env.fz;simp only[hq]))
  | bx i=>
   cases hi:jw i mb with
   | none=>exact .inr (.inl (by unfold Env.fz;simp only[hq,hi]))
   | some p=>
    have:=(an.1 (jr hi)).1;exact .inr (.inr (.inl ⟨p,by omega,by unfold Env.fz;simp only[hq,hi]⟩))
  | rw τ=>
   cases hi:jw τ (mr.map (·.1)) with
   | none=>exact .inr (.inl (by unfold Env.fz;simp only[hq,hi]))
   | some p=>
    have:=(an.1 (jr hi)).1;rw[Lm] at this;exact .inr (.inr (.inr (.inl ⟨p,by omega,by unfold Env.fz;simp only[hq,hi]⟩)))
  | iE τ x y=>
   cases hi:jw τ (mr.map (·.1)) with
   | none=>exact .inr (.inl (by unfold Env.fz;simp only[hq,hi]))
   | some p=>
    have:=(an.1 (jr hi)).1;rw[Lm] at this;exact .inr (.inr (.inr (.inr ⟨p,x,y,by omega,by unfold Env.fz;simp only[hq,hi]⟩)))
 have Fy:∀ b,b < w0.heap.size->(E.fz mb mr).rl b=.bz\/(E.fz mb mr).rl b=.dX:=fun b hb=>by
  rcases r.mi b (by omega) with h|h
  ·exact .inl (iN h.1)
  ·exact .inr (by unfold Env.fz;simp only[h])
 refine(ct.run w0 w _ (E.fz mb mr) r.gl (r.SV.imp iN fun h=>by unfold Env.fz;simp only[h]) (by rw[OZ];exact O9) ha (fun i cs hi=>?_) (fun j R hj=>?_) VB Fy).mono ?_
 ·have aS:=(an.1 hi).1;rw[OZ];exact Z0 i (mb[i]'(by omega)) (cD _) cs hi
 ·have aS:=(an.1 hj).1;rw[OZ];exact X4 j (mr[j]'(by omega)) (cD _) R hj
 rintro e w' ⟨v,rfl,JW,lh,E',Vz,FF,Nv,hor,KK,uk⟩;rw[OZ] at JW Nv hor;have nF:Below n0 w w':=⟨JW.os.trans O9.os.symm,JW.tape.trans O9.tape.symm,JW.output.trans O9.output.symm,lh,fun k hk=>(JW.block k hk).trans (O9.block k hk).symm⟩
 -- roles
 have Yc:∀ b,b < w.heap.size->E.rl b=.bz->w'.heap[b]? = w.heap[b]?:=fun b aS h=>(uk b aS (.inl (iN h))).1;have acT:∀ b,b < w.heap.size->E.rl b=.dX->w'.heap[b]? = w.heap[b]?:=fun b aS h=>(uk b aS (.inr (by unfold Env.fz;simp only[h]))).1;have rbx:∀ b i,b < w.heap.size->E.rl b=.bx i->jw i mb=none->w'.heap[b]? = w.heap[b]?:=fun b i aS h hi=>(uk b aS (.inr (by unfold Env.fz;simp only[h,hi]))).1;have rrw:∀ b τ,b < w.heap.size->E.rl b=.rw τ->jw τ (mr.map (·.1))=none->w'.heap[b]? = w.heap[b]?:=fun b i aS h hi=>(uk b aS (.inr (by unfold Env.fz;simp only[h,hi]))).1;have rns:∀ b τ x y,b < w.heap.size->E.rl b=.iE τ x y->jw τ (mr.map (·.1))=none->w'.heap[b]? = w.heap[b]?:=fun b i x y aS h hi=>(uk b aS (.inr (by unfold Env.fz;simp only[h,hi]))).1
 have out:∀ b,b < w.heap.size->(∀ i,E.rl b=.bx i->jw i mb=none)->(∀ τ,(E.rl b=.rw τ\/∃ x y,E.rl b=.iE τ x y)->jw τ (mr.map (·.1))=none)->(E.jB E' w.heap.size id mb mr).rl b=E.rl b:=fun b aS h1 h2=>by
  unfold Env.jB;simp only[if_pos aS]
  cases hq:E.rl b with
  | bx i=>simp only[h1 i hq]
  | rw τ=>simp only[h2 τ (.inl hq)]
  | iE τ x y=>simp only[h2 τ (.inr ⟨x,y,hq⟩)]
  | _=>rfl
 have O8:∀ b,E'.rl b=.bz->(E.jB E' w.heap.size id mb mr).rl b=.bz:=fun b hc=>by
  by_cases aS:b < w.heap.size
  ·cases hq:E.rl b with
   | bz=>rw[out b aS (fun i h=>by rw[hq] at h;cases h) (fun i h=>by rw[hq] at h;rcases h with h | ⟨x,y,h⟩ <;> cases h),hq]
   | dX=>
    have:=(uk b aS (.inr (by unfold Env.fz;simp only[hq]))).2;rw[hc] at this;unfold Env.fz at this;simp only[hq] at this
    cases this
   | bx i=>
    cases hi:jw i mb with
    | none=>
     have:=(uk b aS (.inr (by unfold Env.fz;simp only[hq,hi]))).2;rw[hc] at this;unfold Env.fz at this;simp only[hq,hi] at this
     cases this
    | some p=>
     unfold Env.jB;simp only[if_pos aS,hq,hi,hc];rfl
   | rw τ=>
    cases hi:jw τ (mr.map (·.1)) with
    | none=>
     have:=(uk b aS (.inr (by unfold Env.fz;simp only[hq,hi]))).2;rw[hc] at this;unfold Env.fz at this;simp only[hq,hi] at this
     cases this
    | some p=>
     unfold Env.jB;simp only[if_pos aS,hq,hi,hc];rfl
   | iE τ x y=>
    cases hi:jw τ (mr.map (·.1)) with
    | none=>
     have:=(uk b aS (.inr (by unfold Env.fz;simp only[hq,hi]))).2;rw[hc] at this;unfold Env.fz at this;simp only[hq,hi] at this
     cases this
    | some p=>
     unfold Env.jB;simp only[if_pos aS,hq,hi,hc];rfl
  ·unfold Env.jB;simp only[if_neg aS,hc];rfl
 have orl:∀ b,(b < w.heap.size->(∃ i p,E.rl b=.bx i/\jw i mb=some p)\/(∃ τ p,E.rl b=.rw τ/\jw τ (mr.map (·.1))=some p)\/∃ τ x y p,E.rl b=.iE τ x y/\jw τ (mr.map (·.1))=some p)->(E.jB E' w.heap.size id mb mr).rl b=Ld mb mr id (E'.rl b):=fun b h=>by
  unfold Env.jB
  by_cases aS:b < w.heap.size
  ·rcases h aS with⟨i,p,h1,h2⟩|⟨i,p,h1,h2⟩|⟨i,x,y,p,h1,h2⟩
   ·simp only[if_pos aS,h1,h2]
   ·simp only[if_pos aS,h1,h2]
   ·simp only[if_pos aS,h1,h2]
  ·simp only[if_neg aS]
 -- a block that the callee holds as its own is one that was passed, or new
 have own:∀ b,(∃ i,E'.rl b=.bx i)\/(∃ j,E'.rl b=.rw j)\/(∃ j x y,E'.rl b=.iE j x y)->(E.jB E' w.heap.size id mb mr).rl b=Ld mb mr id (E'.rl b):=fun b h=>orl b fun aS=>by
  have key:∀ {x:iD},(E.fz mb mr).rl b=x->x=.bz\/x=.dX->False:=fun {x} h1 h2=>by
   have:=(uk b aS (h2.elim (fun e=>.inl (h1.trans e)) (fun e=>.inr (h1.trans e)))).2;rw[h1] at this;rcases h with⟨i,h⟩|⟨i,h⟩|⟨i,x,y,h⟩ <;> rw[h] at this <;> rcases h2 with e|e <;> rw[e] at this <;> cases this
  cases hq:E.rl b with
  | bz=>exact(key (iN hq) (.inl rfl)).elim
  | dX=>exact(key (x:=.dX) (by unfold Env.fz;simp only[hq]) (.inr rfl)).elim
  | bx i=>
   cases hi:jw i mb with
   | none=>exact(key (x:=.dX) (by unfold Env.fz;simp only[hq,hi]) (.inr rfl)).elim
   | some p=>exact .inl ⟨i,p,rfl,hi⟩
  | rw τ=>
   cases hi:jw τ (mr.map (·.1)) with
   | none=>exact(key (x:=.dX) (by unfold Env.fz;simp only[hq,hi]) (.inr rfl)).elim
   | some p=>exact .inr (.inl ⟨τ,p,rfl,hi⟩)
  | iE τ x y=>
   cases hi:jw τ (mr.map (·.1)) with
   | none=>exact(key (x:=.dX) (by unfold Env.fz;simp only[hq,hi]) (.inr rfl)).elim
   | some p=>exact .inr (.inr ⟨τ,x,y,p,rfl,hi⟩)
 have fresh:∀ τ,(∃ R,lk st.rw τ=some R)->¬ (id<=τ/\τ < id+128):=fun τ ⟨R,hR⟩ e=>by
  rw[(hf τ e.1 e.2).2] at hR
  cases hR
 have vlo:∀ τ,(∃ R,lk st.rw τ=some R/\True)->∀ u,(∀ (j:Nat) (q:Nat × Nat),jw τ (mr.map (·.1))=some j->mr[j]? = some q->u<=q.2)->(E.jB E' w.heap.size id mb mr).vl τ u=E.vl τ u:=fun τ ⟨R,hR,_⟩ u hu=>by
  unfold Env.jB;simp only[if_neg (fresh τ ⟨R,hR⟩)]
  cases hi:jw τ (mr.map (·.1)) with
  | none=>rfl
  | some j=>
   have hj:=jr hi;rw[bp] at hj
   cases hq:mr[j]? with
   | none=>rw[hq] at hj;cases hj
   | some q=>
    simp only[List.getD_eq_getElem?_getD,hq,Option.getD_some];rw[if_pos (hu j q hi hq)]
 have vlm:∀ (j:Nat) (q:Nat × Nat) (u:Nat),mr[j]? = some q->(E.jB E' w.heap.size id mb mr).vl q.1 (q.2+u)=E'.vl j u:=fun j q u hq=>by
  obtain⟨R,h1,h2,h3⟩:=gR j q hq
  have hj:j < ir.length:=by
   have:=(an.1 hq).1;omega
  unfold Env.jB;simp only[if_neg (fresh q.1 ⟨R,h1⟩),Rj j q hq,List.getD_eq_getElem?_getD,hq,Option.getD_some]
  by_cases hu:q.2+u<=q.2
  ·obtain rfl:u=0:=by omega
   rw[if_pos hu,KK j hj,evl j q hq]
  ·rw[if_neg hu,Nat.add_sub_cancel_left]
 have vln:∀ j u,j < 128->(E.jB E' w.heap.size id mb mr).vl (id+j) u=E'.vl (mr.length+j) u:=fun j u hj=>by
  unfold Env.jB;simp only;rw[if_pos ⟨by omega,by omega⟩,Nat.add_sub_cancel_left]
 have hlen:∀ (j:Nat) R,(fa++nr)[j]? = some R->mr[j]? = none->mr.length<=j/\j - mr.length < 128/\nr[j - mr.length]? = some R:=fun j R h1 h2=>by
  have hj:=List.getElem?_eq_none_iff.1 h2;rw[aY (by omega),hlr] at h1;have h3:=(an.1 h1).1;have:=ct.te;exact⟨hj,by omega,h1⟩
 have fr:∀ {v t},RT E'.F w' v t->RT (E.jB E' w.heap.size id mb mr).F w' v t:=fun h=>h.frame (al _) (fun _ _ _=>rfl) (fun b hb _=>O8 b hb);have frl:∀ {v t},iR E'.F w' v t->iR (E.jB E' w.heap.size id mb mr).F w' v t:=fun h=>h.frame (al _) (fun _ _ _=>rfl) (fun b hb _=>O8 b hb)
 have Yb:∀ {v c},(∀ q∈Ce.cB c,∃ R,(fa++nr)[q.1]? = some R/\q.2<=R.bo)->RC E' w' v c->RC (E.jB E' w.heap.size id mb mr) w' v (c.rn mr id):=fun {v c} hq h=>by
  cases c with
  | t x=>exact fr h
  | nil=>exact h
  | row j u=>
   obtain⟨R,h1,h2⟩:=hq (j,u) aC
   show RC _ w' v (match mr[j]? with
    | some (τ,v)=>.row τ (v+u)
    | none=>.row (id+(j - mr.length)) u)
   cases hj:mr[j]? with
   | some q=>exact⟨h.1.trans (vlm j q u hj).symm,h.2⟩
   | none=>
    obtain⟨h3,h4,_⟩:=hlen j R h1 hj;refine⟨h.1.trans ?_,h.2⟩;rw[vln _ u h4,show mr.length+(j - mr.length)=j by omega]
  | bot=>exact h
 have a2r:∀ {vs cs},(∀ q∈cs.flatMap Ce.cB,∃ R,(fa++nr)[q.1]? = some R/\q.2<=R.bo)->A2 (RC E' w') vs cs->A2 (RC (E.jB E' w.heap.size id mb mr) w') vs (cs.map (Ce.rn mr id)):=fun {vs cs} hq h=>by
  induction h with
  | nil=>exact .nil
  | cons h1 _ ih=>
   rw[bK] at hq;exact .cons (Yb (fun q h=>hq q (bH _ h)) h1) (ih (fun q h=>hq q (bJ _ h)))
 have I3:∀ {v x},(∀ q∈AV.gu x,∃ R,(fa++nr)[q.1]? = some R/\q.2<=R.bo)->(∀ b∈AV.gA x,b < ib.length)->R1 E' w' v x->R1 (E.jB E' w.heap.size id mb mr) w' v (x.Gx mb mr id):=fun {v x} hq hbq h=>by
  cases x with
  | c x=>exact Yb hq h
  | agg xs=>
   obtain⟨vs,rfl,h⟩:=h;exact⟨vs,rfl,a2r hq h⟩
  | ptr i o=>
   have hi:=hbq i aC;have Xk:mb[i]? = some (mb[i]'(by omega)):=cD _
   show R1 _ w' v (match mb[i]? with
    | some b=>.ptr b o
    | none=>.bot)
   rw[Xk];refine(show v=_ from h).trans ?_;rw[FF i hi];unfold Env.fz;simp only[List.getD_eq_getElem?_getD,Xk,Option.getD_some];rfl
  | sub _ _ _ _=>exact⟨⟩
  | dF j u k i o=>
   obtain⟨R,h1,h2⟩:=hq (j,u) aC;obtain⟨g,n,c,h3,h4⟩:=h
   show R1 _ w' v (match mr[j]? with
    | some (τ,v)=>.dF τ (v+u) k i o
    | none=>.dF (id+(j - mr.length)) u k i o)
   cases hj:mr[j]? with
   | some q=>exact⟨g,n,c,(vlm j q u hj).trans h3,h4⟩
   | none=>
    obtain⟨h5,h6,_⟩:=hlen j R h1 hj;refine⟨g,n,c,?_,h4⟩;rw[vln _ u h6,show mr.length+(j - mr.length)=j by omega];exact h3
  | eE=>exact h
  | dv xs o=>
   obtain⟨g,p,vs,rfl,h1,h2,h3,h4⟩:=h;exact⟨g,p,vs,rfl,O8 g h1,h2,h3,frl h4⟩
  | fH dH=>exact h.elim
  | fn _ _=>exact⟨⟩
  | kp _ _=>exact⟨⟩
  | bot=>exact⟨⟩
 have mv:Mv st E w (E.jB E' w.heap.size id mb mr) w' (fun i=>∃ gQ,lk (pZ mr id mb ob) i=some gQ) (fun τ=>∃ R,lk (kV mr fa++jc id 0 nr) τ=some R):=by
  refine⟨lh,fun b aS h=>out b aS (fun i hi=>?_) (fun i hi=>?_),fun b hb aS=>⟨Yc b aS hb,?_⟩,fun _ _ _=>rfl,fun i cs hi hX aS gw=>?_,fun τ R u hτ hu=>vlo τ ⟨R,hτ,trivial⟩ u fun j q hj hq=>?_,fun τ R hτ hY g hg aS gw=>?_,fun b hb aS=>acT b aS hb,fun τ R hτ hY g x y aS gw=>?_⟩
  ·rcases h with h|h <;> rw[h] at hi <;> cases hi
  ·rcases h with h|h <;> rw[h] at hi <;> rcases hi with hi|⟨x,y,hi⟩ <;> cases hi
  ·rw[out b aS (fun i h=>by rw[hb] at h;cases h) (fun i h=>by rw[hb] at h;rcases h with h|⟨x,y,h⟩ <;> cases h),hb]
  ·have hn:jw i mb=none:=qg Tt (by
    cases hq:lk (pZ mr id mb ob) i with
    | none=>rfl
    | some x=>exact absurd ⟨x,hq⟩ hX)
   refine⟨rbx _ i aS gw hn,?_⟩;rw[out _ aS (fun i' h=>by rw[gw] at h;cases h;exact hn) (fun τ h=>by rw[gw] at h;rcases h with h|⟨x,y,h⟩ <;> cases h),gw]
  ·have hjq:=jr hj;rw[bp,hq] at hjq;have hjq:q.1=τ:=aR hjq;obtain⟨R',h1,h2,_⟩:=gR j q hq;rw[hjq,hτ] at h1
   cases h1
   omega
  ·have hn:jw τ (mr.map (·.1))=none:=mn hlr (by
    cases hq:lk (kV mr fa) τ with
    | none=>rfl
    | some x=>exact absurd ⟨x,by rw[cj,hq]⟩ hY)
   refine⟨rrw _ τ aS gw hn,?_⟩
   rw[out _ aS (fun i' h=>by rw[gw] at h;cases h) (fun τ' h=>by
    rw[gw] at h;rcases h with h|⟨x,y,h⟩
    ·cases h;exact hn
    ·cases h),gw]
  ·have hn:jw τ (mr.map (·.1))=none:=mn hlr (by
    cases hq:lk (kV mr fa) τ with
    | none=>rfl
    | some x=>exact absurd ⟨x,by rw[cj,hq]⟩ hY)
   refine⟨rns _ τ x y aS gw hn,?_⟩
   rw[out _ aS (fun i' h=>by rw[gw] at h;cases h) (fun τ' h=>by
    rw[gw] at h;rcases h with h|⟨x,y,h⟩
    ·cases h
    ·cases h;exact hn),gw]
 -- names
 have nm:∀ q∈mr,∃ R,lk st.rw q.1=some R/\R.bo=q.2:=fun q hq=>by
  obtain⟨j,hj⟩:=List.mem_iff_getElem?.1 hq;obtain⟨R,h1,h2,_⟩:=gR j q hj;exact⟨R,h1,h2⟩
 have rnC:∀ {c:Ce},(∀ q∈c.cB,∃ R,(fa++nr)[q.1]? = some R/\q.2<=R.bo)->∀ p∈(c.rn mr id).cB,∃ R,lk (kV mr fa++jc id 0 nr) p.1=some R/\p.2<=R.bo:=fun {c} hq p hp=>by
  cases c with
  | row j u=>
   obtain⟨R,h1,h2⟩:=hq (j,u) aC
   have hp:p∈Ce.cB (match mr[j]? with
    | some (τ,v)=>.row τ (v+u)
    | none=>.row (id+(j - mr.length)) u):=hp
   cases hj:mr[j]? with
   | some q=>
    rw[hj] at hp;obtain rfl:p=(q.1,q.2+u):=by simpa [Ce.cB] using hp
    have aS:=(an.1 hj).1;rw[bn (by omega)] at h1;refine⟨_,by rw[cj,BU k5 hj h1],?_⟩;show q.2+u<=q.2+R.bo;have h2:u<=R.bo:=h2;omega
   | none=>
    rw[hj] at hp;obtain rfl:p=(id+(j - mr.length),u):=by simpa [Ce.cB] using hp
    obtain⟨h3,h4,h5⟩:=hlen j R h1 hj;refine⟨R,?_,h2⟩;rw[cj]
    cases hq:lk (kV mr fa) (id+(j - mr.length)) with
    | some x=>
     obtain⟨j',q',R0,_,h7,h8,_⟩:=nZ hq;obtain⟨R1,h9,_⟩:=gR j' q' h7;rw[h8,(hf _ (by omega) (by omega)).2] at h9
     cases h9
    | none=>
     show lk (jc id 0 nr) (id+(j - mr.length))=some R;rw[eG,if_pos (by omega),show id+(j - mr.length) - (id+0)=j - mr.length by omega];exact h5
  | _=>cases hp
 have Gx:∀ {x:AV},(∀ q∈x.gu,∃ R,(fa++nr)[q.1]? = some R/\q.2<=R.bo)->∀ p∈(x.Gx mb mr id).gu,∃ R,lk (kV mr fa++jc id 0 nr) p.1=some R/\p.2<=R.bo:=fun {x} hq p hp=>by
  cases x with
  | c x=>exact rnC hq p hp
  | agg xs=>
   obtain⟨c,hc,hp⟩:=List.mem_flatMap.1 (show p∈(xs.map (Ce.rn mr id)).flatMap Ce.cB from hp);obtain⟨y,hy,rfl⟩:=bA.1 hc;exact rnC (fun q h=>hq q (List.mem_flatMap.2 ⟨y,hy,h⟩)) p hp
  | ptr i o=>
   have hp:p∈AV.gu (match mb[i]? with
    | some b=>.ptr b o
    | none=>.bot):=hp
   cases hj:mb[i]? with
   | some b=>rw[hj] at hp;cases hp
   | none=>rw[hj] at hp;cases hp
  | dF j u k i o=>
   refine rnC (c:=.row j u) hq p ?_
   have hp:p∈AV.gu (match mr[j]? with
    | some (τ,v)=>.dF τ (v+u) k i o
    | none=>.dF (id+(j - mr.length)) u k i o):=hp
   show p∈Ce.cB (match mr[j]? with
    | some (τ,v)=>.row τ (v+u)
    | none=>.row (id+(j - mr.length)) u)
   cases hj:mr[j]? with
   | some q=>rw[hj] at hp;exact hp
   | none=>rw[hj] at hp;exact hp
  | _=>cases hp
 have bn1:∀ {x:AV},∀ b∈(x.Gx mb mr id).gA,st.hasB b:=fun {x} b hb=>by
  cases x with
  | ptr i o=>
   have hb:b∈AV.gA (match mb[i]? with
    | some b=>.ptr b o
    | none=>.bot):=hb
   cases hj:mb[i]? with
   | some b'=>
    rw[hj] at hb;obtain rfl:b=b':=by simpa [AV.gA] using hb
    obtain⟨us,_,h1,_⟩:=gB i b hj;exact⟨us,h1⟩
   | none=>rw[hj] at hb;cases hb
  | dF j u k i o=>
   have hb:b∈AV.gA (match mr[j]? with
    | some (τ,v)=>.dF τ (v+u) k i o
    | none=>.dF (id+(j - mr.length)) u k i o):=hb
   cases hj:mr[j]? with
   | some q=>rw[hj] at hb;cases hb
   | none=>rw[hj] at hb;cases hb
  | _=>cases hb
 refine hK (E.jB E' w.heap.size id mb mr) v w' (r.app hd mv ⟨fun τ R R' e1 e2=>?_,fun b hb=>.inl ?_,fun p hp=>.inr ?_,fun b cs h=>?_,fun τ R h=>?_,fun τ R d' h jJ l hl=>?_⟩ ?_ (fun b cs h=>?_) (fun τ R h=>?_)) nF
 ·rw[cj] at e2;split at e2
  ·rename_i x hx
   cases e2
   obtain⟨j,q,R0,_,h7,h8,_,rfl⟩:=nZ hx;obtain⟨R1,h9,mw,_⟩:=gR j q h7;rw[h8,e1] at h9
   cases h9
   show R.bo<=q.2+R0.bo;omega
  ·rw[eG] at e2;split at e2
   ·rename_i hle;have h1:=(an.1 e2).1;have:=ct.te;rw[(hf τ (by omega) (by omega)).2] at e1
    cases e1
   ·cases e2
 ·have hb:b∈(rv.rn mb mr id).dJ:=hb
  cases rv with
  | fH xs=>
   obtain⟨c,hc,hp⟩:=List.mem_flatMap.1 (show b∈(xs.map (AV.Gx mb mr id)).flatMap AV.gA from hb);obtain⟨y,hy,rfl⟩:=bA.1 hc;exact bn1 b hp
  | ptr i o=>exact bn1 (x:=.ptr i o) b (by
    have hb:b∈AV.dJ (match mb[i]? with
     | some b=>.ptr b o
     | none=>.bot):=hb
    show b∈AV.gA (match mb[i]? with
     | some b=>.ptr b o
     | none=>.bot)
    cases hj:mb[i]? with
    | some b'=>rw[hj] at hb;exact hb
    | none=>rw[hj] at hb;cases hb)
  | dF j u k i o=>exact bn1 (x:=.dF j u k i o) b (by
    have hb:b∈AV.dJ (match mr[j]? with
     | some (τ,v)=>.dF τ (v+u) k i o
     | none=>.dF (id+(j - mr.length)) u k i o):=hb
    show b∈AV.gA (match mr[j]? with
     | some (τ,v)=>.dF τ (v+u) k i o
     | none=>.dF (id+(j - mr.length)) u k i o)
    cases hj:mr[j]? with
    | some q=>rw[hj] at hb;exact hb
    | none=>rw[hj] at hb;exact hb)
  | _=>cases hb
 ·have hp:p∈(rv.rn mb mr id).cB:=hp
  cases rv with
  | fH xs=>
   obtain⟨c,hc,hp⟩:=List.mem_flatMap.1 (show p∈(xs.map (AV.Gx mb mr id)).flatMap AV.gu from hp);obtain⟨y,hy,rfl⟩:=bA.1 hc;exact Gx (fun q h=>ct.vr q (List.mem_flatMap.2 ⟨y,hy,h⟩)) p hp
  | c x=>exact Gx (x:=.c x) ct.vr p hp
  | agg x=>exact Gx (x:=.agg x) ct.vr p hp
  | ptr i o=>exact Gx (x:=.ptr i o) ct.vr p (by
    have hp:p∈AV.cB (match mb[i]? with
     | some b=>.ptr b o
     | none=>.bot):=hp
    cases hj:mb[i]? with
    | some b'=>rw[hj] at hp;cases hp
    | none=>rw[hj] at hp;cases hp)
  | dF j u k i o=>exact Gx (x:=.dF j u k i o) ct.vr p (by
    have hp:p∈AV.cB (match mr[j]? with
     | some (τ,v)=>.dF τ (v+u) k i o
     | none=>.dF (id+(j - mr.length)) u k i o):=hp
    show p∈AV.gu (match mr[j]? with
     | some (τ,v)=>.dF τ (v+u) k i o
     | none=>.dF (id+(j - mr.length)) u k i o)
    cases hj:mr[j]? with
    | some q=>rw[hj] at hp;exact hp
    | none=>rw[hj] at hp;exact hp)
  | _=>cases hp
 ·obtain⟨i,c,h1,h2,rfl⟩:=zO h;refine⟨fun p hp=>.inr ?_,?_⟩
  ·obtain⟨x,hx,hp⟩:=List.mem_flatMap.1 hp;obtain⟨y,hy,rfl⟩:=bA.1 hx;exact rnC (fun q h=>ct.br i c h2 q (List.mem_flatMap.2 ⟨y,hy,h⟩)) p hp
  ·obtain⟨us,_,h3,_⟩:=gB i b (jr h1);exact r.sc.fb b us h3
 ·rw[cj] at h;split at h
  ·rename_i x hx;obtain⟨j,q,R0,_,h7,h8,_⟩:=nZ hx;obtain⟨R1,h9,_⟩:=gR j q h7;rw[h8] at h9;exact r.sc.fr τ R1 h9
  ·rw[eG] at h;split at h
   ·have h1:=(an.1 h).1;have:=ct.te;omega
   ·cases h
 ·rw[cj] at h;split at h
  ·rename_i x hx
   cases h
   obtain⟨j,q,R0,_,_,_,h9,rfl⟩:=nZ hx;rw[jO (R:=R0) (ct.shut R0 (bH _ (aU h9))) jJ] at hl
   cases hl
  ·rw[eG] at h;split at h
   ·rw[jO (ct.shut R (bJ _ (aU h))) jJ] at hl
    cases hl
   ·cases h
 ·show RV _ w' v (rv.rn mb mr id)
  cases rv with
  | fH xs=>
   obtain⟨us,rfl,h⟩:=Vz;refine⟨us,rfl,?_⟩
   have:∀ {us:List Value} {xs:List AV},(∀ q∈xs.flatMap AV.gu,∃ R,(fa++nr)[q.1]? = some R/\q.2<=R.bo)->(∀ b∈xs.flatMap AV.gA,b < ib.length)->A2 (R1 E' w') us xs->A2 (R1 (E.jB E' w.heap.size id mb mr) w') us (xs.map (AV.Gx mb mr id)):=fun {us xs} hq hb h=>by
    induction h with
    | nil=>exact .nil
    | cons h1 _ ih=>
     rw[bK] at hq hb;exact .cons (I3 (fun q h=>hq q (bH _ h)) (fun q h=>hb q (bH _ h)) h1) (ih (fun q h=>hq q (bJ _ h)) (fun q h=>hb q (bJ _ h)))
   exact this ct.vr ct.vb h
  | c x=>exact(I3 (x:=.c x) ct.vr ct.vb Vz).rv
  | agg x=>exact(I3 (x:=.agg x) ct.vr ct.vb Vz).rv
  | ptr i o=>exact(I3 (x:=.ptr i o) ct.vr ct.vb Vz).rv
  | dF j u k i o=>exact(I3 (x:=.dF j u k i o) ct.vr ct.vb Vz).rv
  | eE=>exact(I3 (x:=.eE) ct.vr ct.vb Vz).rv
  | dv xs o=>exact(I3 (x:=.dv xs o) ct.vr ct.vb Vz).rv
  | _=>exact⟨⟩
 ·obtain⟨i,c,h1,h2,rfl⟩:=zO h;obtain⟨us,t,q1,q2,q3,q4⟩:=Nv i c h2;have Xk:=jr h1
  have hi:i < ib.length:=by
   have:=(an.1 Xk).1;omega
  have ZM:E'.bk i=E.bk b:=by
   rw[FF i hi];unfold Env.fz;simp only[List.getD_eq_getElem?_getD,Xk,Option.getD_some]
  rw[ZM] at q1 q2 q3;refine⟨us,t,q1,q2,?_,a2r (ct.br i c h2) q4⟩;show(E.jB E' w.heap.size id mb mr).rl (E.bk b)=_;rw[own _ (.inl ⟨i,q3⟩),q3];unfold Ld;simp only[Xk]
 ·rw[cj] at h;split at h
  ·rename_i x hx
   cases h
   obtain⟨j,q,R0,h6,h7,h8,h9,rfl⟩:=nZ hx;have aS:=(an.1 h7).1;subst h8;refine RR.to (R:=R0) (h:=hor j R0 (by rw[bn (by omega)];exact h9)) (al _) rfl rfl rfl rfl (ct.shut R0 (bH _ (aU h9))) (vlm j q R0.bo h7) (fun b hb _=>O8 b hb) (fun g _ _ Al=>?_) fun g x y _ _ Al=>?_
   ·rw[own g (.inr (.inl ⟨j,Al⟩)),Al];unfold Ld;simp only[h7]
   ·rw[own g (.inr (.inr ⟨j,x,y,Al⟩)),Al];unfold Ld;simp only[h7]
  ·rw[eG] at h;split at h
   ·rename_i hle;have h1:=(an.1 h).1;have:=ct.te;obtain⟨j,rfl⟩:∃ j,τ=id+j:=⟨τ - id,by omega⟩
    rw[show id+j - (id+0)=j by omega] at h h1;have hn:mr[mr.length+j]? = none:=List.getElem?_eq_none_iff.2 (by omega);refine(hor (mr.length+j) R (by rw[aY (by omega),hlr,Nat.add_sub_cancel_left];exact h)).to (al _) rfl rfl rfl rfl (ct.shut R (bJ _ (aU h))) (vln j R.bo (by omega)) (fun b hb _=>O8 b hb) (fun g _ _ Al=>?_) fun g x y _ _ Al=>?_
    ·rw[own g (.inr (.inl ⟨_,Al⟩)),Al];unfold Ld;simp only[hn];congr 1;omega
    ·rw[own g (.inr (.inr ⟨_,x,y,Al⟩)),Al];unfold Ld;simp only[hn];congr 1;omega
   ·cases h
end
end
section
variable {P:Program}{T:Nat->Option Ty}{O:gD}
theorem xh {P:Program}(w:World)(dT sT ty elem:TypeId)(k b o Ki Ww:Nat)(a:Addr)(IK Ui:Nat)(cs:List Value)
  (hu:P.underlying dT=some (.slice elem)) (hs:(P.info? elem).map (·.size)=some k) (hn:cs.length=Nat.min IK Ki*k)
  (Vx:∀ j v,cs[j]? = some v->w.cell? (a.add j)=some v) (hc:∀ j,j < cs.length->(w.cell? ⟨b,o+j,none⟩).isSome=true) (hf:∀ j,j < cs.length->w.frozen? ⟨b,o+j,none⟩=false) (h1:∀ v∈cs,v.oneCell'=true) :
  (Builtin.copy_ #[dT,sT] ty #[.slice (some ⟨b,o,none⟩) Ki Ww,.slice (some a) IK Ui]).run P w=.ok (goInt (Nat.min IK Ki)) (w.setCells b o cs):=by
 have hl:=run_loadCells_list (P:=P) w a cs Vx;have fR:=run_storeCells_cells (P:=P) b o cs 0 w (by simpa using hc) (by simpa using hf) h1
 cases hq:P.info? elem with
 | none=>simp[hq] at hs
 | some i=>
  have hi:i.size=k:=by simpa [hq] using hs
  simp[Builtin.copy_,run_underlying hu,Builtin.lenOf,Builtin.firstCells,Go.sizeOf,typeInfo,hq,hi,<- hn,hl,fR]
theorem yX (w:World)(dT sT ty elem:TypeId)(d a:Option Addr)(Ki Ww IK Ui:Nat)(hu:P.underlying dT=some (.slice elem))(hs:((P.info? elem).map (·.size)).isSome=true)(hn:Nat.min IK Ki=0) :
  (Builtin.copy_ #[dT,sT] ty #[.slice d Ki Ww,.slice a IK Ui]).run P w=.ok (goInt 0) w:=by
 cases hq:P.info? elem with
 | none=>simp[hq] at hs
 | some i=>
  have hl:∀ (x:Addr),(loadCells x 0).run P w=.ok #[] w:=fun x=>by simpa using run_loadCells_list (P:=P) w x [] (by simp)
  cases d <;> cases a <;> simp[Builtin.copy_,run_underlying hu,Builtin.lenOf,Builtin.firstCells,Go.sizeOf,typeInfo,hq,hn,storeCells,hl]
section
variable {E:Env}{w:World}{n0 N m id:Nat}{st:St}{a:Act}
theorem pz {F:Nat->Prop}(hF:E.F=F):∀ {vs:List Value} {cs:List Ce} {ts:List Tr},A2 (RC E w) vs cs->xA cs ts->iR F w vs ts
 | _,_,[],.nil,_=>.nil
 | _,_,t :: ts,.cons (y:=c) h1 h2,h=>by
  cases c with
  | t x=>
   obtain⟨rfl,h4⟩:=h;exact .cons (by rw[<- hF];exact h1) (pz hF h2 h4)
  | nil=>
   obtain⟨⟨k,rfl⟩,h4⟩:=h;have h1:_=Value.slice none 0 0:=h1;subst h1;exact .cons (.gi fun _=>rfl) (pz hF h2 h4)
  | row _ _=>exact h.elim
  | bot=>exact h.elim
 | _,_,_ :: _,.nil,h=>h.elim
 | _,_,[],.cons (y:=c) _ _,h=>by cases c <;> exact h.elim
theorem yl {k:Nat}(z:Cl k)(n:Nat)(zs:Array Value)(hz:zs.toList=z.1):(madeCells zs (n*k)).toList=(List.replicate n z).flatMap Subtype.val:=by
 have hk:zs.size=k:=by rw[<- bD,hz,z.len]
 have lh:=size_madeCells zs (n*k);refine List.ext_getElem? fun j=>?_
 by_cases hj:j < n*k
 ·have Nz:0 < k:=Nat.pos_of_ne_zero fun h=>by rw[h] at hj;omega
  have hq:j / k < n:=Nat.div_lt_of_lt_mul (by rw[Nat.mul_comm];exact hj);have hr:j % k < k:=Nat.mod_lt _ Nz;have h1:=flat_get (enc:=Subtype.val) Cl.len (List.replicate n z) (j / k) z (by rw[List.getElem?_replicate,if_pos hq]) (j % k) hr;rw[show j / k*k+j % k=j by rw[Nat.mul_comm];exact Nat.div_add_mod j k] at h1;rw[h1,<- hz,cp,cp];unfold madeCells;rw[Array.getElem?_map,Array.getElem?_range,if_pos hj,hk];simp only[Option.map_some];rw[Array.getElem?_eq_getElem (by rw[hk];exact hr),getElem!_pos zs (j % k) (by rw[hk];exact hr)]
 ·rw[dy (by rw[bD,lh];omega),dy (by rw[fk Cl.len,cc];omega)]
theorem Kd (hT:dg P T)(r:ca O E w n0 N m st a){o:Oper}(hd:∀ x,o.dst=some x->x < N)(hf:lS st id)(hm:id < m){t e:Nat}{l c:Operand}{s b:Nat}{z:List Ce}{q:List Lk}{y:Ty}{kl kc:IntKind}{n:Nat}{zs:List Tr}(ho:o.op=.makeSlice t l c)(ht:T t=some ⟨.ia e,s,b,z,q⟩)(he:T e=some y)
  (hl:ev st l=.c (.t (.lit (.int kl (n:Int))))) (hc:ev st c=.c (.t (.lit (.int kc (n:Int))))) (hz:xA y.z zs) (JV:n*y.ky<=140737488355328) (hn:n < 140737488355328):kA P O o a w n0 N m st ⟨.c (.row id 0),[],[(id,⟨e,y.sz,0,List.replicate n zs,none⟩)]⟩:=by
 have hu:=iF (hT.ty t _ ht) rfl;obtain⟨i,zv,h1,h2,h3,h4,h6,h5⟩:=iG (hT.ty e y he);have hlv:=dO (by have:=df r l;rw[hl] at this;exact this);have hcv:=dO (by have:=df r c;rw[hc] at this;exact this);have YV:zv.cells.toList.length=y.sz:=by rw[bD,h5,h2]
 have Ns:A2 (RC E w) zv.cells.toList y.z:=j3 h6;have hrt:=pz rfl Ns hz;obtain⟨w',hr,own,hg⟩:=run_make_full (P:=P) w w.heap.size t e i zv y.sz hu h1 h4 h2 kl kc n (by rw[h3,Nat.mul_comm];omega) (by simp only[maxLen];omega) (al _);obtain⟨x,hx⟩:∃ x:Cl y.sz,x.1=zv.cells.toList:=⟨⟨_,YV,A2.one Ns⟩,rfl⟩
 rw[yl x n zv.cells hx.symm] at own;have px:(List.replicate n x).length=n:=cc;have hb:Below w.heap.size w w':=Below.GP hg;intro K Q hK;unfold Oper.wp execOp;simp only[ho,hlv,hcv,Sem.run_bind,Sem.run_pure,Result.andThen_ok,hr];refine hK _ _ _ (ux r hd hf hm hb (es:=List.replicate n x) (by rw[px];exact own) ⟨by rw[px,cc],fun j vs ts e1 e2=>?_⟩ (nV own)) (hb.mono r.hi);rw[List.getElem?_replicate] at e1 e2;split at e1
 ·rw[if_pos ‹_›] at e2
  cases e1
  cases e2
  rw[hx];exact hrt
 ·cases e1
theorem xK {k:Nat}(es:List (Cl k))(h:Nat)(hh:h<=es.length):(es.take h).flatMap Subtype.val=(es.flatMap Subtype.val).take (h*k):=by
 conv=>rhs;rw[<- List.take_append_drop h es,List.flatMap_append]
 rw[List.take_left' (by rw[fk Cl.len,aB,Nat.min_eq_left hh])]
theorem Bt (r:ca O E w n0 N m st a){o:Oper}(hd:∀ x,o.dst=some x->x < N){τ bo:Nat}{R:Row}(hR:lk st.rw τ=some R)(fw:R.bo=bo)(lV:R.dp=none){_es0 es2:List (Cl R.k)}(gw:∀ g,(E.vl τ bo).ownBlock=some g->E.rl g=.rw τ){WZ:List (List Tr)}{w':World}{u:Value}{v:AV}(hu:RV E w' u v)(uF:v.dJ=[])(Ae:v.cB=[])
  (lh:w.heap.size=w'.heap.size) (hold:∀ g,(E.vl τ bo).ownBlock≠some g->w'.heap[g]? = w.heap[g]?) (own:w'.ownsRow n0 R.ty R.k (E.vl τ bo) es2.length (es2.flatMap Subtype.val)) (eY:F6 E.F w es2 WZ) :
  ca O E w' n0 N m (st.app o.dst ⟨v,[],[(τ,{ R with xs:=WZ })]⟩) (a.put o.dst u):=by
 have gX:∀ g,E.rl g≠.rw τ->w'.heap[g]? = w.heap[g]?:=fun g h=>hold g fun e=>h (gw g e)
 have mv:Mv st E w E w' (fun i=>∃ gQ,lk ([]:List (Nat × List Ce)) i=some gQ) (fun τ'=>∃ R',lk [(τ,({ R with xs:=WZ }:Row))] τ'=some R'):=by
  refine⟨by omega,fun _ _ _=>rfl,fun g hg _=>⟨gX g (by rw[hg];simp),hg⟩,fun _ _ _=>rfl,fun i cs hi _ _ h=>⟨gX _ (by rw[h];simp),h⟩,fun _ _ _ _ _=>rfl,fun τ' R' hτ hY g xv _ h=>⟨gX g ?_,h⟩,fun g hg _=>gX g (by rw[hg];simp),fun τ' R' hτ hY g j q _ h=>⟨gX g (by rw[h];simp),h⟩⟩;rw[h];intro e
  cases e
  exact hY ⟨_,bZ _ _ _ _ |>.trans (if_pos rfl)⟩
 refine r.app hd mv ⟨fun τ' R1 R2 e1 e2=>?_,fun b hb=>(by rw[show(Dl.mk v [] [(τ,{ R with xs:=WZ })]).v=v from rfl,uF] at hb;cases hb),fun p hp=>(by rw[show(Dl.mk v [] [(τ,{ R with xs:=WZ })]).v=v from rfl,Ae] at hp;cases hp),fun _ _ h=>(by cases h),fun τ' R' h=>?_,fun τ' R' d' h jJ=>?_⟩ hu (fun _ _ h=>by cases h) (fun τ' R' h=>?_)
 ·rw[bZ] at e2;split at e2
  ·rename_i e;subst e
   cases e2
   rw[hR] at e1
   cases e1
   exact al _
  ·cases e2
 ·rw[bZ] at h;split at h
  ·rename_i e;subst e;exact r.sc.fr τ R hR
  ·cases h
 ·rw[bZ] at h;split at h
  ·cases h
   have jJ:R.dp=some d':=jJ;rw[lV] at jJ
   cases jJ
  ·cases h
 ·rw[bZ] at h;split at h
  ·rename_i e;subst e
   cases h
   have fr:∀ {vs ts},iR E.F w vs ts->iR E.F w' vs ts:=fun h=>h.frame mv.size (fun b hb aS=>(mv.bz b hb aS).1) (fun b hb _=>hb);exact Ow.rr lV ⟨es2,by rw[show({ R with xs:=WZ }:Row).bo=bo from fw];exact own,⟨eY.len,fun j vs ts q1 q2=>fr (eY.at_ j vs ts q1 q2)⟩,fun g xv=>gw g (by rw[<- fw];exact xv)⟩
  ·cases h
theorem Ke (hT:dg P T)(r:ca O E w n0 N m st a){o:Oper}(hd:∀ x,o.dst=some x->x < N){s x:Operand}{t t' e:Nat}{sz b:Nat}{z:List Ce}{q:List Lk}{y:Ty}{k:Nat}{ys:List (List Tr)}{τ bo:Nat}{R:Row}(ho:o.op=.call ⟨.builtin .copy,#[s,x],#[t,t']⟩)(ht:T t=some ⟨.ia e,sz,b,z,q⟩)(he:T e=some y)(hx:ev st x=.c (.t (.sl k ys)))(hs:ev st s=.c (.row τ bo))(hR:lk st.rw τ=some R)(fw:R.bo=bo)(Aj:R.k=y.sz)(_hRt:R.ty=e)(lV:R.dp=none)(hk:k=y.sz\/ys=[])(hle:ys.length<=R.xs.length) :
  kA P O o a w n0 N m st ⟨.i ys.length,[],[(τ,{ R with xs:=ys++R.xs.drop ys.length })]⟩:=by
 have hu:=iF (hT.ty t _ ht) rfl;obtain⟨i,zv,h1,h2,_⟩:=iG (hT.ty e y he);have xr:=df r s;rw[hs] at xr;have xr:a.eval s=E.vl τ bo:=xr.1;rw[<- Aj] at hk;obtain⟨ao,cap,es,KI,hn,hc,eY,ph⟩:=za r (df r x) (by rw[hx];rfl) hk;obtain⟨ji,ro,oG,gw⟩:=(r.row τ R hR).ow lV;rw[fw] at ro gw;have Tx:(P.info? e).map (·.size)=some R.k:=by rw[h1];simp[h2,Aj]
 have fin:∀ w':World,w.heap.size=w'.heap.size->(∀ g,(E.vl τ bo).ownBlock≠some g->w'.heap[g]? = w.heap[g]?)->w'.ownsRow n0 R.ty R.k (E.vl τ bo) (es++ji.drop es.length).length ((es++ji.drop es.length).flatMap Subtype.val)->Below n0 w w'->
   ca O E w' n0 N m (st.app o.dst ⟨.i ys.length,[],[(τ,{ R with xs:=ys++R.xs.drop ys.length })]⟩) (a.put o.dst (goInt ys.length)):=fun w' lh hold own hb=>
  Bt r hd hR fw lV (_es0:=ji) gw (RT.lit rfl) rfl rfl lh hold own ⟨by rw[au,au,aL,aL,oG.len,eY.len],fun j vs ts q1 q2=>by
   by_cases hj:j < es.length
   ·rw[bn hj] at q1;rw[bn (by rw[<- eY.len];exact hj)] at q2;exact eY.at_ j vs ts q1 q2
   ·rw[aY (by omega),List.getElem?_drop] at q1;rw[aY (by rw[<- eY.len];omega),List.getElem?_drop,<- eY.len] at q2;exact oG.at_ _ vs ts q1 q2⟩
 have O6:=eY.len
 have run:∀ w':World,(Builtin.copy_ #[t,t'] o.type #[E.vl τ bo,.slice ao ys.length cap]).run P w=.ok (goInt ys.length) w'->w.heap.size=w'.heap.size->(∀ g,(E.vl τ bo).ownBlock≠some g->w'.heap[g]? = w.heap[g]?)->w'.ownsRow n0 R.ty R.k (E.vl τ bo) (es++ji.drop es.length).length ((es++ji.drop es.length).flatMap Subtype.val)->Below n0 w w'->kA P O o a w n0 N m st ⟨.i ys.length,[],[(τ,{ R with xs:=ys++R.xs.drop ys.length })]⟩:=fun w' hr g1 g2 g3 g4 K Q hK=>by
  unfold Oper.wp execOp;simp only[ho,resolve,invoke,builtin,Sem.run_bind,Sem.run_pure,Result.andThen_ok,List.map_toArray,bP,List.map_nil,xr,KI,hr];exact hK _ _ _ (fin w' g1 g2 g3 g4) g4
 by_cases h0:ys=[]
 ·subst h0;have O7:es=[]:=List.eq_nil_of_length_eq_zero O6;subst O7;obtain⟨ao0,Sn,KK,_⟩:=kK ro;refine run w (by rw[KK];exact yX w t t' o.type e _ _ _ _ _ _ hu (by rw[Tx];rfl) (Nat.zero_min _)) rfl (fun _ _=>rfl) ?_ (Below.refl _ _);rw[bF,aw,List.drop_zero];exact ro
 have nC:0 < ys.length:=List.length_pos_iff.2 h0;have aeU:0 < ji.length:=by rw[oG.len];omega
 obtain⟨g,Sn,cur,KK,TB,xb,mV,ug,dL,A3,_⟩:=mh ro (cD aeU)
 cases ao with
 | none=>have:=hn rfl;omega
 | some ad=>
  have Zt:es.length<=ji.length:=by rw[O6,oG.len];exact hle
  have Nz:es.length*R.k<=cur.size:=by rw[dL];exact cw _ (by have:=oG.len;omega)
  have si:(es.flatMap Subtype.val).length=es.length*R.k:=fk Cl.len es;have FF:Bk w g R.ty cur.toList:=xb;have NB:=FF.Lp 0 (es.flatMap Subtype.val) (by rw[bu,si,bD (xs:=cur)];exact Nz);refine run (w.setCells g 0 (es.flatMap Subtype.val)) ?_ (iH _ _ _ _).symm (fun g' h=>iI _ _ _ _ _ fun e=>h (by rw[KK,e];rfl)) ?_ (gT _ _ _ (Below.refl _ _) _ TB)
  ·have Zh:Nat.min ys.length ji.length=ys.length:=Nat.min_eq_left (by rw[oG.len];exact hle)
   have:=xh (P:=P) w t t' o.type e R.k g 0 ji.length Sn ad ys.length cap (es.flatMap Subtype.val) hu Tx (by rw[Zh,si,O6]) (ph ad rfl) (fun j hj=>by
    rw[bu,cell_of_row _ _ _ _ _ _ xb,Array.getElem?_eq_getElem (by rw[si] at hj;omega)];rfl) (fun j _=>by simp[World.frozen?,xb]) (kt es)
   rw[Zh] at this;rw[KK];exact this
  ·rw[KK];have qO:(es++ji.drop es.length).length=ji.length:=by rw[au,aL];have:=oG.len;omega
   refine⟨fk Cl.len _,.inr ⟨g,Sn,_,by rw[qO],TB,NB,by rw[qO];exact mV,ug,?_,?_⟩⟩
   ·simp only[List.take_zero,bF,List.size_toArray,au,aL,bD,bu];omega
   ·rw[List.toList_toArray,List.take_zero,bF,bu,qO,List.flatMap_append];have Ny:ji.flatMap Subtype.val=(ji.take es.length).flatMap Subtype.val++(ji.drop es.length).flatMap Subtype.val:=by rw[<- List.flatMap_append,List.take_append_drop]
    have wi:(ji.drop es.length).flatMap Subtype.val=(ji.flatMap Subtype.val).drop (es.flatMap Subtype.val).length:=by
     rw[Ny,List.drop_left' (by rw[fk Cl.len,si,aB,Nat.min_eq_left Zt])]
    rw[wi,<- A3,List.take_append,List.take_of_length_le (by rw[si];exact cw _ Zt),List.drop_take]
theorem UJ (hT:dg P T)(r:ca O E w n0 N m st a){o:Oper}{t e:Nat}{x:Operand}{lo:Option Operand}{s b:Nat}{z:List Ce}{q:List Lk}{y:Ty}{τ bo:Nat}{R:Row}{l:Nat}(ho:o.op=.slice t x lo none none)(ht:T t=some ⟨.ia e,s,b,z,q⟩)(hx:ev st x=.c (.row τ bo))(he:T e=some y)(hR:lk st.rw τ=some R)(fw:R.bo=bo)(Aj:R.k=y.sz)(hM:R.kh=false)(hl:bound st lo 0 l)(h1:l<=R.xs.length):pt P E w st a o (.sub τ bo R.k l):=by
 have hu:=iF (hT.ty t _ ht) rfl;have hv:=df r x;rw[hx] at hv;have hv:a.eval x=E.vl τ bo:=hv.1;obtain⟨es,ro,hlen,_⟩:=(r.row τ R hR).hd hM;obtain⟨ao,cap,mN,hc,_⟩:=kK ro;rw[fw] at mN;rw[hlen] at mN hc;refine⟨.slice (if cap=l then ao else ao.map (·.add (l*y.sz))) (R.xs.length - l) (cap - l),?_,⟨ao,_,cap,mN,by rw[Aj]⟩,fun b hb=>(by cases hb),fun p hp=>?_⟩
 ·have hb:∀ Fl,(Instr.sliceBounds Fl R.xs.length cap (lo.map a.eval) none none).run P w=.ok (l,R.xs.length,cap) w:=fun Fl=>mE (hi:=none) r hl (rfl:bound st none R.xs.length R.xs.length) h1 (al _) hc;unfold execOp;simp[ho,hv,mN,Instr.sliceAt,Instr.slice,run_underlying hu,hb,jM (hT.ty e y he)]
 ·obtain rfl:p=(τ,bo):=by simpa [AV.cB,AV.gu] using hp
  exact⟨R,hR,by rw[fw];exact al _⟩
theorem N4 (hT:dg P T)(r:ca O E w n0 N m st a){o:Oper}(hd:∀ x,o.dst=some x->x < N){t e:Nat}{x hi:Operand}{s b:Nat}{z:List Ce}{q:List Lk}{y:Ty}{τ bo:Nat}{R:Row}{h:Nat}(ho:o.op=.slice t x none (some hi) none)(ht:T t=some ⟨.ia e,s,b,z,q⟩)(hx:ev st x=.c (.row τ bo))(he:T e=some y)(hR:lk st.rw τ=some R)(fw:R.bo=bo)(_hRk:R.k=y.sz)(lV:R.dp=none)(hh:bound st (some hi) 0 h)(h1:h<=R.xs.length):kA P O o a w n0 N m st ⟨.c (.row τ (bo+1)),[],[(τ,{ R with bo:=bo+1,xs:=R.xs.take h })]⟩:=by
 have hu:=iF (hT.ty t _ ht) rfl;have hv:=df r x;rw[hx] at hv;have hv:a.eval x=E.vl τ bo:=hv.1;obtain⟨es,ro,eY,gw⟩:=(r.row τ R hR).ow lV;rw[fw] at ro gw;obtain⟨ao,cap,mN,hc,hn⟩:=kK ro;rw[eY.len] at mN hc
 have Zq:(∀ ad,ao=some ad->∃ g,ad=⟨g,0,none⟩):=fun ad TE=>by
  rcases ro.2 with⟨e1,_⟩|⟨g,c,cur,e1,_⟩
  ·rw[mN] at e1;simp only[Value.slice.injEq] at e1;rw[e1.1] at TE
   cases TE
  ·rw[mN] at e1;simp only[Value.slice.injEq] at e1;rw[e1.1] at TE
   cases TE
   exact⟨g,rfl⟩
 obtain⟨V,hV⟩:∃ V,V=Value.slice ao h cap:=⟨_,rfl⟩
 have kj:(execOp a.eval o).run P w=.ok (.value V) w:=by
  have e1:(if cap=0 then ao else ao.map (·.add (0*y.sz)))=ao:=by
   split
   ·rfl
   ·cases ao with
    | none=>rfl
    | some ad=>
     obtain⟨g,rfl⟩:=Zq ad rfl;simp[kz]
  have hb:∀ Fl,(Instr.sliceBounds Fl R.xs.length cap none (some (a.eval hi)) none).run P w=.ok (0,h,cap) w:=fun Fl=>mE (lo:=none) (hi:=some hi) (len:=R.xs.length) r (rfl:bound st none 0 0) hh (aD _) h1 hc;unfold execOp;rw[hV];simp[ho,hv,mN,Instr.sliceAt,Instr.slice,run_underlying hu,hb,jM (hT.ty e y he)];simpa using e1
 have own:w.ownsRow n0 R.ty R.k V (es.take h).length ((es.take h).flatMap Subtype.val):=by
  have hl:(es.take h).length=h:=by rw[aB,eY.len,Nat.min_eq_left h1]
  refine⟨fk Cl.len _,?_⟩;rcases ro.2 with⟨e1,e2⟩|⟨g,c,cur,e1,e2,e3,e4,e5,e6,e7⟩
  ·rw[mN] at e1;simp only[Value.slice.injEq] at e1;obtain⟨rfl,e3,rfl⟩:=e1;exact .inl ⟨by rw[hV,show h=0 by omega],by omega⟩
  ·rw[mN] at e1;simp only[Value.slice.injEq] at e1;obtain⟨rfl,e8,rfl⟩:=e1;refine .inr ⟨g,cap,cur,by rw[hV,hl],e2,e3,by omega,e5,e6,?_⟩;have hle:h*R.k<=es.length*R.k:=cw _ (by rw[eY.len];exact h1);rw[hl,xK es h (by rw[eY.len];exact h1),<- e7,List.take_take,Nat.min_eq_left hle]
 have mv:Mv st E w ⟨E.rl,E.bk,fun τ' u=>if τ'=τ/\u=bo+1 then V else E.vl τ' u⟩ w (fun i=>∃ gQ,lk ([]:List (Nat × List Ce)) i=some gQ) (fun τ'=>∃ R',lk [(τ,({ R with bo:=bo+1,xs:=R.xs.take h }:Row))] τ'=some R'):=
  Mv.below (Below.refl _ _) (fun _ _=>rfl) (fun _ _ _=>rfl) (fun τ' R' u hτ hu=>if_neg (by
   rintro⟨e1,e2⟩;subst e1;rw[hR] at hτ
   cases hτ
   omega))
 have hVl:(if τ=τ/\bo+1=bo+1 then V else E.vl τ (bo+1))=V:=if_pos ⟨rfl,rfl⟩
 have rep:ca O ⟨E.rl,E.bk,fun τ' u=>if τ'=τ/\u=bo+1 then V else E.vl τ' u⟩ w n0 N m (st.app o.dst ⟨.c (.row τ (bo+1)),[],[(τ,{ R with bo:=bo+1,xs:=R.xs.take h })]⟩) (a.put o.dst V):=by
  refine r.app hd mv ⟨fun τ' R1 R2 e1 e2=>?_,fun b hb=>(by cases hb),fun p hp=>.inr ?_,fun _ _ hq=>(by cases hq),fun τ' R' hq=>?_,fun τ' R' d' hq jJ=>?_⟩ ⟨hVl.symm,by rw[hV];rfl⟩ (fun _ _ hq=>by cases hq) (fun τ' R' hq=>?_)
  ·rw[bZ] at e2;split at e2
   ·rename_i e;subst e
    cases e2
    rw[hR] at e1
    cases e1
    show R.bo<=bo+1;omega
   ·cases e2
  ·obtain rfl:p=(τ,bo+1):=by simpa [AV.cB,AV.gu,Ce.cB] using hp
   exact⟨_,bZ _ _ _ _ |>.trans (if_pos rfl),al _⟩
  ·rw[bZ] at hq;split at hq
   ·rename_i e;subst e;exact r.sc.fr τ R hR
   ·cases hq
  ·rw[bZ] at hq;split at hq
   ·cases hq
    have jJ:R.dp=some d':=jJ;rw[lV] at jJ
    cases jJ
   ·cases hq
  ·rw[bZ] at hq;split at hq
   ·rename_i e;subst e
    cases hq
    refine Ow.rr lV ⟨es.take h,(show World.ownsRow w n0 R.ty R.k (if τ=τ/\bo+1=bo+1 then V else E.vl τ (bo+1)) _ _ by rw[hVl];exact own),⟨by rw[aB,aB,eY.len],fun j vs ts q1 q2=>?_⟩,fun g hg=>?_⟩
    ·rw[List.getElem?_take] at q1 q2;split at q1
     ·rw[if_pos ‹_›] at q2;exact eY.at_ j vs ts q1 q2
     ·cases q1
    ·have hg:(if τ=τ/\bo+1=bo+1 then V else E.vl τ (bo+1)).ownBlock=some g:=hg;rw[hVl,hV] at hg;refine gw g ?_;rw[mN]
     cases ao with
     | none=>cases hg
     | some ad=>exact hg
   ·cases hq
 intro K Q hK;unfold Oper.wp;simp only[kj];exact hK _ _ _ rep (Below.refl _ _)
theorem Lc {P:Program}(w:World)(t e ty:TypeId)(z:Value)(ht:P.underlying t=some (.slice e))(hv:∀ w,(zeroValue e).run P w=.ok z w)(n:Nat)(Zg:n≠0)(vs:List Value)(hz:(Builtin.zeroCells z.cells n).toList=vs)(h1:∀ u∈vs,u.oneCell'=true)(b o c:Nat)
  (hc:∀ j,j < vs.length->(w.cell? ⟨b,o+j,none⟩).isSome=true) (hf:∀ j,j < vs.length->w.frozen? ⟨b,o+j,none⟩=false) :
  (Builtin.clear_ #[t] ty #[.slice (some ⟨b,o,none⟩) n c]).run P w=.ok (.tuple #[]) (w.setCells b o vs):=by
 have fR:=run_storeCells_cells (P:=P) b o vs 0 w (by simpa using hc) (by simpa using hf) h1;simp only[cO] at fR;simp[Builtin.clear_,run_underlying ht,Zg,hv,hz,fR]
theorem N5 (hT:dg P T)(r:ca O E w n0 N m st a){o:Oper}(hd:∀ x,o.dst=some x->x < N){x:Operand}{t e:Nat}{s b:Nat}{z:List Ce}{q:List Lk}{y:Ty}{τ bo k i:Nat}{R:Row}{zs:List Tr}(ho:o.op=.call ⟨.builtin .clear,#[x],#[t]⟩)(ht:T t=some ⟨.ia e,s,b,z,q⟩)(he:T e=some y)(hx:ev st x=.sub τ bo k i)(hR:lk st.rw τ=some R)(fw:R.bo=bo)(hk:R.k=k)(Aj:R.k=y.sz)(lV:R.dp=none)(hz:xA y.z zs)(h1:i<=R.xs.length):kA P O o a w n0 N m st ⟨.bot,[],[(τ,{ R with xs:=R.xs.take i++List.replicate (R.xs.length - i) zs })]⟩:=by
 have hu:=iF (hT.ty t _ ht) rfl;obtain⟨inf,zv,g1,g2,g3,g4,g6,g5⟩:=iG (hT.ty e y he);have hv:=df r x;rw[hx] at hv;obtain⟨ao,n,c,KK,hv⟩:∃ ao n c,E.vl τ bo=.slice ao n c/\a.eval x=.slice (if c=i then ao else ao.map (·.add (i*k))) (n - i) (c - i):=hv;obtain⟨ji,ro,oG,gw⟩:=(r.row τ R hR).ow lV;rw[fw] at ro gw;have YV:zv.cells.toList.length=R.k:=by rw[bD,g5,g2,Aj]
 have Ns:A2 (RC E w) zv.cells.toList y.z:=j3 g6;have hrt:=pz rfl Ns hz;obtain⟨zc,Nk⟩:∃ zc:Cl R.k,zc.1=zv.cells.toList:=⟨⟨_,YV,A2.one Ns⟩,rfl⟩
 have O6:=oG.len
 have eY:F6 E.F w (ji.take i++List.replicate (ji.length - i) zc) (R.xs.take i++List.replicate (R.xs.length - i) zs):=by
  refine⟨by simp[O6],fun j vs ts q1 q2=>?_⟩
  by_cases hj:j < i
  ·rw[bn (by rw[aB];omega),List.getElem?_take,if_pos hj] at q1 q2;exact oG.at_ j vs ts q1 q2
  ·rw[aY (by rw[aB];omega),aB,List.getElem?_replicate] at q1 q2;split at q1
   ·split at q2
    ·cases q1
     cases q2
     rw[Nk];exact hrt
    ·cases q2
   ·cases q1
 have run:∀ w':World,(Builtin.clear_ #[t] o.type #[a.eval x]).run P w=.ok (.tuple #[]) w'->w.heap.size=w'.heap.size->(∀ g,(E.vl τ bo).ownBlock≠some g->w'.heap[g]? = w.heap[g]?)->w'.ownsRow n0 R.ty R.k (E.vl τ bo) (ji.take i++List.replicate (ji.length - i) zc).length ((ji.take i++List.replicate (ji.length - i) zc).flatMap Subtype.val)->Below n0 w w'->kA P O o a w n0 N m st ⟨.bot,[],[(τ,{ R with xs:=R.xs.take i++List.replicate (R.xs.length - i) zs })]⟩:=fun w' hr q1 q2 q3 q4 K Q hK=>by
  unfold Oper.wp execOp;simp only[ho,resolve,invoke,builtin,Sem.run_bind,Sem.run_pure,Result.andThen_ok,List.map_toArray,bP,List.map_nil,hr];exact hK _ _ _ (Bt r hd hR fw lV (_es0:=ji) gw (v:=.bot) trivial rfl rfl q1 q2 q3 eY) q4
 obtain⟨ao',Kq,mN,mV,_⟩:=kK ro;rw[KK] at mN
 cases mN
 by_cases h0:ji.length - i=0
 ·have hi:i=ji.length:=by omega
  refine run w ?_ rfl (fun _ _=>rfl) ?_ (Below.refl _ _)
  ·rw[hv,h0];generalize (if c=i then ao else ao.map (·.add (i*k)))=A
   cases A <;> simp[Builtin.clear_,run_underlying hu]
  ·rw[h0,List.replicate_zero,aZ,hi,bm];exact ro
 ·obtain⟨g,Sn,cur,e1,TB,xb,mV,ug,dL,A3,_⟩:=mh ro (cD (i:=i) (by omega));rw[KK] at e1
  cases e1
  obtain⟨vs,No⟩:∃ vs,vs=(List.replicate (ji.length - i) zc).flatMap Subtype.val:=⟨_,rfl⟩
  have Ft:vs.length=(ji.length - i)*R.k:=by rw[No,fk Cl.len,cc]
  have hmul:i*R.k+(ji.length - i)*R.k=ji.length*R.k:=by rw[<- Nat.add_mul];congr 1;omega
  have V0:ji.length*R.k<=cur.size:=by rw[dL];exact cw _ mV
  have aoO:ji.length*R.k<=cur.toList.length:=by rw[bD];exact V0
  have FF:Bk w g R.ty cur.toList:=xb;have NB:=FF.Lp (i*R.k) vs (by rw[Ft,hmul,bD (xs:=cur)];exact V0);refine run (w.setCells g (i*R.k) vs) ?_ (iH _ _ _ _).symm (fun g' h=>iI _ _ _ _ _ fun e=>h (by rw[KK,e];rfl)) ?_ (gT _ _ _ (Below.refl _ _) _ TB)
  ·rw[hv,if_neg (by omega)];simp only[Option.map_some,kz,bu];rw[<- hk];refine Lc w t e o.type zv hu (fun w=>by simp[zeroValue,typeInfo,g1,g4]) _ h0 vs ?_ (by rw[No];exact kt _) g (i*R.k) _ (fun j hj=>?_) (fun j _=>by simp[World.frozen?,xb])
   ·rw[No,<- yl zc _ zv.cells Nk.symm];unfold Builtin.zeroCells madeCells;rw[g5,g2,<- Aj]
   ·rw[cell_of_row _ _ _ _ _ _ xb,Array.getElem?_eq_getElem (by rw[Ft] at hj;omega)];rfl
  ·rw[KK];have qO:(ji.take i++List.replicate (ji.length - i) zc).length=ji.length:=by rw[au,aB,cc];omega
   refine⟨fk Cl.len _,.inr ⟨g,c,_,by rw[qO],TB,NB,by rw[qO];exact mV,ug,?_,?_⟩⟩
   ·simp only[List.size_toArray,au,aB,aL,bD];rw[Ft];omega
   ·have hd:ji.length*R.k - i*R.k=vs.length:=by omega
    have hA:(cur.toList.take (i*R.k)).length=i*R.k:=by rw[aB];omega
    rw[List.toList_toArray,qO,List.flatMap_append,<- No,xK ji i (by omega),<- A3,List.take_take,Nat.min_eq_left (by omega),cH,List.take_append,hA,hd,List.take_of_length_le (by rw[hA];omega),List.take_left]
end
end
section
variable {P:Program}{T:Nat->Option Ty}{O:gD}
theorem jo {st:St}{id:Nat}{op:Op}{K:Dl->Prop}(h:match dA T st op with
  | some v=>v.open_ fun v=>K (.val v)
  | none=>False):∃ d,lX P T st id op d/\K d:=by
 split at h
 ·rename_i v hv;rw[AV.nW] at h;exact⟨_,.pure hv,h⟩
 ·exact h.elim
theorem Pg {st:St}{id:Nat}{o:Oper}{K:Dl->Prop}(h:Z8 P T st id o K):∃ d,lX P T st id o.op d/\K d:=by
 obtain⟨dst,op,type,pos,after,guard⟩:=o;unfold Z8 at h;simp only at h
 cases op with
 | pick c a b=>
  simp only at h;split at h
  ·rename_i t e
   cases t with
   | true=>
    simp only[cond_true,AV.nW] at h;exact⟨_,.pick e,h⟩
   | false=>
    simp only[cond_false,AV.nW] at h;exact⟨_,.pick e,h⟩
  ·exact h.elim
 | alloc e=>
  simp only at h;split at h
  ·rename_i y hy;rw[kn] at h;exact⟨_,.alloc hy,h⟩
  ·exact h.elim
 | box e x=>
  simp only at h;split at h
  ·rename_i cs dL;exact⟨_,.box dL,h⟩
  ·exact h.elim
 | store t ax x=>
  simp only at h;split at h
  ·rename_i y us hy n7
   cases hb:Nat.beq us.length y.sz with
   | false=>rw[hb] at h;exact h.elim
   | true=>
    rw[hb] at h;rw[uN] at h;have hl:=ah hb;split at h
    ·rename_i b o CE;split at h
     ·rename_i cs dL
      cases dD:Nat.ble (o+us.length) cs.length with
      | false=>rw[dD] at h;exact h.elim
      | true=>
       rw[dD] at h;rw[uN,kn] at h;exact⟨_,.oW hy n7 hl CE dL (Nb dD),h⟩
     ·exact h.elim
    ·rename_i τ bo k i o CE;split at h
     ·rename_i xk rk ja o6 ts hR A0
      cases dD:Nat.beq ja bo&&Nat.beq rk k with
      | false=>rw[dD] at h;exact h.elim
      | true=>
       rw[dD] at h;simp only[ag] at dD;obtain⟨xs,h1,h2,h3⟩:=h;exact⟨_,.oU hy n7 hl CE hR (ah dD.1) (ah dD.2) rfl A0 h1 h2,h3⟩
     ·rename_i xk rk ja o6 d hR;split at h
      ·rename_i ts nl hcd
       cases dD:Nat.beq ja bo&&Nat.beq rk k with
       | false=>rw[dD] at h;exact h.elim
       | true=>
        rw[dD] at h;simp only[ag] at dD;obtain⟨xs,h1,h2,h3,h4,h5⟩:=h;exact⟨_,.oV hy n7 hl CE hR (ah dD.1) (ah dD.2) rfl hcd h1 h2 h3 h4,h5⟩
      ·exact h.elim
     ·exact h.elim
    ·exact h.elim
  ·exact h.elim
 | load t ax=>
  simp only at h;split at h
  ·rename_i τ bo k i o CE;split at h
   ·rename_i y R hy hR
    cases dD:Nat.beq R.bo bo&&Nat.beq R.k k with
    | false=>rw[dD] at h;exact h.elim
    | true=>
     rw[dD] at h;simp only[ag] at dD;rw[uN] at h;split at h
     ·rename_i lV;obtain⟨xs,v,h1,h2,h3⟩:=h;exact⟨_,.yn CE hy hR (ah dD.1) (ah dD.2) lV h1 h2,h3⟩
     ·rename_i d lV;split at h
      ·rename_i px;obtain⟨xs,v,h1,h2,h3,h4⟩:=h;exact⟨_,.yo CE hy hR (ah dD.1) (ah dD.2) lV px h1 h2 h3,h4⟩
      ·split at h
       ·rename_i i' ρ u VJ
        cases RE:y.isAgg with
        | true=>rw[RE] at h;exact h.elim
        | false=>
         rw[RE] at h;obtain⟨rfl,h1,h2,h3⟩:=h;exact⟨_,.ym CE hy hR (ah dD.1) (ah dD.2) lV VJ RE h1 h2,h3⟩
       ·exact h.elim
   ·exact h.elim
  ·exact jo h
 | indexAddr t x ix=>
  simp only at h;split at h
  ·rename_i e _ _ _ _ _ n ht hi;split at h
   ·rename_i y k xs he hx
    cases hb:Nat.beq k y.sz with
    | false=>rw[hb] at h;exact h.elim
    | true=>
     rw[hb] at h;obtain⟨j,ts,h1,h2,h3⟩:=h;exact⟨_,.YS ht hi he hx (ah hb) h1 h2,h3⟩
   ·rename_i y τ bo he hx;split at h
    ·rename_i R hR
     cases hb:Nat.beq R.bo bo&&(Nat.beq R.k y.sz&&!R.kh) with
     | false=>rw[hb] at h;exact h.elim
     | true=>
      rw[hb] at h;simp only[ag,cb] at hb;obtain⟨j,h1,h2,h3⟩:=h;exact⟨_,.Rj ht hi he hx hR (ah hb.1) (ah hb.2.1) hb.2.2 h1 h2,h3⟩
    ·exact h.elim
   ·exact h.elim
  ·rename_i m e _ _ _ _ _ n ht hi;split at h
   ·rename_i y b o he hx;obtain⟨j,h1,h2,h3⟩:=h;exact⟨_,.Na ht hi he hx h1 h2,h3⟩
   ·rename_i y xs o he hx;obtain⟨j,h1,h2,h3⟩:=h;exact⟨_,.Nc ht hi he hx h1 h2,h3⟩
   ·rename_i y τ bo k i o he hx;obtain⟨j,h1,h2,h3⟩:=h;exact⟨_,.Nd ht hi he hx h1 h2,h3⟩
   ·exact h.elim
  ·exact h.elim
 | index t x ix=>
  simp only at h;split at h
  ·rename_i s _ n ht hx hi;obtain⟨j,hj,h1,h2⟩:=h;exact⟨_,.Jz hj ht hx hi h1,h2⟩
  ·rename_i m e _ _ _ _ cs _ n ht hx hi;split at h
   ·rename_i y he;obtain⟨j,v,h1,h2,h3,h4⟩:=h;exact⟨_,.YT ht hx hi he h1 h2 h3,h4⟩
   ·exact h.elim
  ·exact h.elim
 | slice t x lo hi mx=>
  simp only at h;split at h
  ·rename_i s ht hx;obtain⟨l,u,h1,h2,h3,h4,h5⟩:=h;exact⟨_,.XX ht hx h1 h2 h3 h4,h5⟩
  ·rename_i e _ _ _ _ k xs ht hx;split at h
   ·rename_i y he
    cases hb:Nat.beq k y.sz with
    | false=>rw[hb] at h;exact h.elim
    | true=>
     rw[hb] at h;obtain⟨l,u,h1,h2,h3,h4,h5⟩:=h;exact⟨_,.XW ht hx he (ah hb) h1 h2 h3 h4,h5⟩
   ·exact h.elim
  ·rename_i e _ _ _ _ τ bo ht hx;split at h
   ·rename_i y R he hR
    cases hb:Nat.beq R.bo bo&&(Nat.beq R.k y.sz&&!R.kh) with
    | false=>rw[hb] at h;exact h.elim
    | true=>
     rw[hb] at h;simp only[ag,cb] at hb;obtain⟨l,h1,h2,h3⟩:=h;exact⟨_,.XY ht hx he hR (ah hb.1) (ah hb.2.1) hb.2.2 h1 h2,h3⟩
   ·rename_i y xk rk ja o6 x' he hR
    cases hb:Nat.beq ja bo&&Nat.beq rk y.sz with
    | false=>rw[hb] at h;exact h.elim
    | true=>
     rw[hb] at h;simp only[ag] at hb;obtain⟨l,h1,h2,h3⟩:=h;exact⟨_,.XV ht hx he hR (ah hb.1) (ah hb.2) rfl h1 h2,h3⟩
   ·exact h.elim
  ·exact h.elim
 | buildSlice t len parts=>
  simp only at h;split at h
  ·rename_i e _ _ _ _ ht;split at h
   ·rename_i y he;split at h
    ·rename_i xs YY
     cases hb:Nat.beq xs.length len&&(Nat.ble (len*y.sz) 10000&&Nat.blt 0 y.sz) with
     | false=>rw[hb] at h;exact h.elim
     | true=>
      rw[hb] at h;simp only[ag] at hb;exact⟨_,.ZZ ht he YY (ah hb.1) (Nb hb.2.1) (Nb hb.2.2),h⟩
    ·exact h.elim
   ·exact h.elim
  ·exact h.elim
 | binOp bop t x y t'=>
  cases bop with
  | add=>
   simp only at h;split at h
   ·rename_i a b e1 e2;exact⟨_,.cat e1 e2 h.1,h.2⟩
   ·exact jo h
  | rem=>
   simp only at h;split at h
   ·rename_i k a k' b e1 e2;obtain⟨rfl,h1,h2⟩:=h;refine⟨_,.pure (st:=st) (op:=.binOp .rem t x y t') ?_,h2⟩;unfold dA;simp only[e1,e2];simp[Sp,XZ,F1,h1]
   ·exact h.elim
  | quo=>
   simp only at h;split at h
   ·rename_i k a k' b e1 e2;obtain⟨rfl,h1,h2⟩:=h;refine⟨_,.pure (st:=st) (op:=.binOp .quo t x y t') ?_,h2⟩;unfold dA;simp only[e1,e2];simp[Sp,XZ,F1,h1]
   ·exact h.elim
  | _=>exact jo h
 | convert src dst x=>
  simp only at h;split at h
  ·split at h
   ·split at h
    ·exact⟨_,.ZT ‹_› ‹_› ‹_› ‹_› ‹_›,h⟩
    ·exact h.elim
   ·exact h.elim
  ·exact jo h
 | makeSlice t l c=>
  simp only at h;split at h
  ·rename_i e _ _ _ _ _ n _ n' ht hl hc;split at h
   ·rename_i y he;obtain⟨k,zs,⟨rfl,rfl⟩,h2,⟨h3,h4⟩,h5⟩:=h;exact⟨_,.YH ht he hl hc h2 h3 h4,h5⟩
   ·exact h.elim
  ·exact h.elim
 | call c=>
  obtain⟨cl,args,qM⟩:=c;simp only at h;split at h
  ·rename_i f;split at h
   ·rename_i g vs hg;rcases h with⟨dH,r,rs,fresh,h1,h2,h3,h4⟩|⟨mb,mr,dH,ib,ir,rv,ob,fa,nr,⟨h1,h2,h3⟩,h4,h5,h6⟩
    ·exact⟨_,.call hg h1 h2 h3,h4⟩
    ·exact⟨_,.wR hg h1 h2 h3 h4 h5,h6⟩
   ·exact h.elim
  ·split at h
   ·rename_i s x t t' e1 e2;obtain rfl:args=#[s,x]:=Array.toList_inj.1 e1;obtain rfl:qM=#[t,t']:=Array.toList_inj.1 e2
    cases hb:Nat.beq t t' with
    | false=>rw[hb] at h;exact h.elim
    | true=>
     rw[hb] at h;obtain rfl:=ah hb;rw[uN] at h;split at h
     ·rename_i e _ _ _ _ ht;split at h
      ·rename_i y k ys he hx;split at h
       ·rename_i hs
        cases RA:Nat.blt 0 y.sz with
        | false=>rw[RA] at h;exact h.elim
        | true=>
         rw[RA] at h;obtain⟨h1,h2,h3,h5⟩:=h;exact⟨_,.Kv ht he hx hs h1 h2 h3 (Nb RA),h5⟩
       ·rename_i τ bo hs;split at h
        ·rename_i xk rk ja o6 hR
         cases dD:Nat.beq ja bo&&(Nat.beq rk y.sz&&(Nat.beq xk e&&Nat.blt 0 y.sz)) with
         | false=>rw[dD] at h;exact h.elim
         | true=>
          rw[dD] at h;simp only[ag] at dD;obtain⟨h1,h2,h3,h5⟩:=h;exact⟨_,.Ku ht he hx hs hR (ah dD.1) (ah dD.2.1) (ah dD.2.2.1) rfl h1 h2 h3 (Nb dD.2.2.2),h5⟩
        ·exact h.elim
       ·exact h.elim
      ·exact h.elim
     ·exact h.elim
   ·exact h.elim
  ·split at h
   ·rename_i x t e1 e2;obtain rfl:args=#[x]:=Array.toList_inj.1 e1;obtain rfl:qM=#[t]:=Array.toList_inj.1 e2;split at h
    ·rename_i e _ _ _ _ τ bo k i ht hx;split at h
     ·rename_i y xk rk ja o6 he hR
      cases dD:Nat.beq ja bo&&(Nat.beq rk k&&Nat.beq rk y.sz) with
      | false=>rw[dD] at h;exact h.elim
      | true=>
       rw[dD] at h;simp only[ag] at dD;obtain⟨zs,h1,h2,h3⟩:=h;exact⟨_,.ZX ht he hx hR (ah dD.1) (ah dD.2.1) (ah dD.2.2) rfl h1 h2,h3⟩
     ·exact h.elim
    ·exact h.elim
   ·exact h.elim
  ·split at h
   ·rename_i s x t t' e1 e2;obtain rfl:args=#[s,x]:=Array.toList_inj.1 e1;obtain rfl:qM=#[t,t']:=Array.toList_inj.1 e2;split at h
    ·rename_i e _ _ _ _ τ bo k ys ht hs hx;split at h
     ·rename_i y xk rk ja o6 he hR
      cases dD:Nat.beq ja bo&&(Nat.beq rk y.sz&&Nat.beq xk e) with
      | false=>rw[dD] at h;exact h.elim
      | true=>
       rw[dD] at h;simp only[ag] at dD;obtain⟨h1,h2,h3⟩:=h;exact⟨_,.ZV ht he hx hs hR (ah dD.1) (ah dD.2.1) (ah dD.2.2) rfl h1 h2,h3⟩
     ·exact h.elim
    ·exact h.elim
   ·exact h.elim
  ·split at h
   ·rename_i x t e1 e2;obtain rfl:args=#[x]:=Array.toList_inj.1 e1;obtain rfl:qM=#[t]:=Array.toList_inj.1 e2;split at h
    ·exact h.elim
    ·exact jo h
   ·exact jo h
  ·exact jo h
 | _=>exact jo h
theorem yJ {F:Nat->Prop}{w:World}:∀ {xs:List (List Tr)} {bs:List UInt8} {es:List (Cl 1)},sE xs=some bs->F6 F w es xs->∃ ns:List Int,es.flatMap Subtype.val=ns.map (Value.int .u8)/\ns.map (fun n=>UInt8.ofNat n.toNat)=bs/\ns.length=xs.length
 | [],bs,es,h,he=>by
  cases h
  have:es=[]:=List.eq_nil_of_length_eq_zero he.len;subst this;exact⟨[],rfl,rfl,rfl⟩
 | x :: xs,bs,es,h,he=>by
  unfold sE at h;split at h
  ·cases ‹_ :: _=[]›
  ·rename_i n r heq;obtain⟨rfl,rfl⟩:=List.cons.inj heq;split at h
   ·rename_i bs' hb
    cases h
    cases es with
    | nil=>have:=he.len;simp at this
    | cons e es=>
     have h0:=he.at_ 0 e _ rfl rfl;obtain⟨ns,h1,h2,h3⟩:=yJ (es:=es) hb ⟨by have:=he.len;simpa using this,fun j vs ts e1 e2=>he.at_ (j+1) vs ts e1 e2⟩
     have hv:e.1=[Value.int .u8 n]:=by
      generalize e.1=q at h0
      cases h0 with
      | cons a b=>
       cases b
       cases a
       rfl
     exact⟨n :: ns,by rw[bK,hv,h1];rfl,by rw[bP,h2],by simp[h3]⟩
   ·cases h
  ·cases h
theorem foldl_push:∀ (ns:List Int) (s:ByteArray),ns.foldl (fun s n=>s.push (UInt8.ofNat n.toNat)) s=⟨s.data++(ns.map fun n=>UInt8.ofNat n.toNat).toArray⟩
 | [],s=>by simp
 | n :: ns,s=>by
  rw[List.foldl_cons,foldl_push ns];simp[ByteArray.push]
theorem UQ (hT:dg P T){E:Env}{w:World}{n0 N m:Nat}{st:St}{a:Act}(r:ca O E w n0 N m st a){o:Oper}{src dst e:Nat}{x:Operand}{s1 b1 s2 b2 s3 b3:Nat}{z1 z2 z3:List Ce}{q1 q2 q3:List Lk}{xs:List (List Tr)}{bs:List UInt8}(ho:o.op=.convert src dst x)(h1:T src=some ⟨.ia e,s1,b1,z1,q1⟩)(h2:T dst=some ⟨.string,s2,b2,z2,q2⟩)(h3:T e=some ⟨.int .u8,s3,b3,z3,q3⟩)(h4:fY st (ev st x)=some (1,xs))(h5:sE xs=some bs):pt P E w st a o (.s ⟨bs.toArray⟩):=by
 have u1:=iF (hT.ty src _ h1) rfl;have u2:=jW (hT.ty dst _ h2) rfl;have u3:=K7 (hT.ty e _ h3) rfl;obtain⟨ao,cap,es,hv,hn,Rw,he,iA⟩:=za (kk:=1) r (df r x) h4 (.inl rfl);obtain⟨ns,g1,g2,g3⟩:=yJ h5 he;refine eC (u:=.string ⟨bs.toArray⟩) ?_ rfl rfl;unfold execOp
 have hc:(convert src dst (.slice ao xs.length cap)).run P w=.ok (.string ⟨bs.toArray⟩) w:=by
  rw[run_convert_bytes_string w src dst e ao xs.length cap u1 u3 u2]
  cases ao with
  | none=>
   have:xs.length=0:=by have:=hn rfl;omega
   have hx:xs=[]:=List.eq_nil_of_length_eq_zero this;subst hx
   cases h5
   simp[Conv.bytesToString];rfl
  | some ad=>
   have hl:=run_loadCells_list (P:=P) w ad (ns.map (Value.int .u8)) (fun j v hj=>iA ad rfl j v (by rw[g1];exact hj));rw[Lm,g3] at hl;rw[run_bytesToString w ad xs.length cap _ hl,foldl_push,g2];have O7:ByteArray.empty.data=#[]:=rfl;rw[O7];simp
 simp only[ho,hv,Sem.run_bind,Sem.run_pure,Result.andThen_ok,hc]
theorem rK [GlC O](hT:dg P T){E:Env}{w:World}{n0 N m id:Nat}{st:St}{a:Act}(r:ca O E w n0 N m st a){o:Oper}(hd:∀ x,o.dst=some x->x < N)(hf:lS st id)(hm:id+128<=m){d:Dl}(h:lX P T st id o.op d):kA P O o a w n0 N m st d:=by
 obtain⟨dst,op,type,pos,after,guard⟩:=o;simp only at h hd
 cases h with
 | pure hv=>exact(QB hT r (o:=⟨dst,op,type,pos,after,guard⟩) hv).done r hd
 | pick h1=>exact(QC r (o:=⟨dst,_,type,pos,after,guard⟩) rfl h1).done r hd
 | cat h1 h2 h3=>exact(UR r (o:=⟨dst,_,type,pos,after,guard⟩) rfl h1 h2 h3).done r hd
 | ZT h1 h2 h3 h4 h5=>exact(UQ hT r (o:=⟨dst,_,type,pos,after,guard⟩) rfl h1 h2 h3 h4 h5).done r hd
 | alloc h1=>exact FW hT r (o:=⟨dst,_,type,pos,after,guard⟩) hd hf (by omega) rfl h1
 | box h1=>exact N7 r (o:=⟨dst,_,type,pos,after,guard⟩) hd hf (by omega) rfl h1
 | oW h1 h2 h3 h4 h5 h6=>exact C5 hT r (o:=⟨dst,_,type,pos,after,guard⟩) hd rfl h1 h2 h3 h4 h5 h6
 | oU h1 h2 h3 h4 h5 h6 h7 h8 h9 mw FJ=>exact C3 hT r (o:=⟨dst,_,type,pos,after,guard⟩) hd rfl h1 h2 h3 h4 h5 h6 h7 h8 h9 mw FJ
 | oV h1 h2 h3 h4 h5 h6 h7 h8 h9 mw FJ Al Wf=>exact C4 hT r (o:=⟨dst,_,type,pos,after,guard⟩) hd rfl h1 h2 h3 h4 h5 h6 h7 h8 h9 mw FJ Al Wf
 | yn h1 h2 h3 h4 h5 h6 h7 h8=>exact FT hT r (o:=⟨dst,_,type,pos,after,guard⟩) hd rfl h1 h2 h3 h4 h5 h6 h7 h8
 | yo h1 h2 h3 h4 h5 h6 h7 h8 h9 mw=>exact FU hT r (o:=⟨dst,_,type,pos,after,guard⟩) hd rfl h1 h2 h3 h4 h5 h6 h7 h8 h9 mw
 | ym h1 h2 h3 h4 h5 h6 h7 h8 h9 mw=>exact FR hT r (o:=⟨dst,_,type,pos,after,guard⟩) hd rfl h1 h2 h3 h4 h5 h6 h7 h8 h9 mw
 | YS h1 h2 h3 h4 h5 h6 h7=>exact(UN hT r (o:=⟨dst,_,type,pos,after,guard⟩) rfl h1 h2 h3 h4 h5 h6 h7).done r hd
 | Rj h1 h2 h3 h4 h5 h6 h7 h8 h9 mw=>exact(UP hT r (o:=⟨dst,_,type,pos,after,guard⟩) rfl h1 h2 h3 h4 h5 h6 h7 h8 h9 mw).done r hd
 | Na h1 h2 h3 h4 h5 h6=>exact(QE hT r (o:=⟨dst,_,type,pos,after,guard⟩) rfl h1 h2 h3 h4 h5 h6).done r hd
 | Nc h1 h2 h3 h4 h5 h6=>exact(QF hT r (o:=⟨dst,_,type,pos,after,guard⟩) rfl h1 h2 h3 h4 h5 h6).done r hd
 | Nd h1 h2 h3 h4 h5 h6=>exact(QG hT r (o:=⟨dst,_,type,pos,after,guard⟩) rfl h1 h2 h3 h4 h5 h6).done r hd
 | Jz h0 h1 h2 h3 h4=>exact(UO hT r h0 (o:=⟨dst,_,type,pos,after,guard⟩) rfl h1 h2 h3 h4).done r hd
 | YT h1 h2 h3 h4 h5 h6 h7=>exact(UM hT r (o:=⟨dst,_,type,pos,after,guard⟩) rfl h1 h2 h3 h4 h5 h6 h7).done r hd
 | XX h1 h2 h3 h4 h5 h6=>exact(UI hT r (o:=⟨dst,_,type,pos,after,guard⟩) rfl h1 h2 h3 h4 h5 h6).done r hd
 | XW h1 h2 h3 h4 h5 h6 h7 h8=>exact(UH hT r (o:=⟨dst,_,type,pos,after,guard⟩) rfl h1 h2 h3 h4 h5 h6 h7 h8).done r hd
 | ZZ h1 h2 h3 h4 h5 h6=>exact N6 hT r (o:=⟨dst,_,type,pos,after,guard⟩) hd hf (by omega) rfl h1 h2 h3 h4 h5 h6
 | XY h1 h2 h3 h4 h5 h6 h7 h8 h9=>exact(UJ hT r (o:=⟨dst,_,type,pos,after,guard⟩) rfl h1 h2 h3 h4 h5 h6 h7 h8 h9).done r hd
 | XV h1 h2 h3 h4 h5 h6 h7 h8 h9=>exact N4 hT r (o:=⟨dst,_,type,pos,after,guard⟩) hd rfl h1 h2 h3 h4 h5 h6 h7 h8 h9
 | ZX h1 h2 h3 h4 h5 h6 h7 h8 h9 mw=>exact N5 hT r (o:=⟨dst,_,type,pos,after,guard⟩) hd rfl h1 h2 h3 h4 h5 h6 h7 h8 h9 mw
 | YH h1 h2 h3 h4 h5 h6 h7=>exact Kd hT r (o:=⟨dst,_,type,pos,after,guard⟩) hd hf (by omega) rfl h1 h2 h3 h4 h5 h6 h7
 | ZV h1 h2 h3 h4 h5 h6 h7 h8 h9 mw FJ=>exact Ke hT r (o:=⟨dst,_,type,pos,after,guard⟩) hd rfl h1 h2 h3 h4 h5 h6 h7 h8 h9 mw FJ
 | wR h1 h2 h3 h4 h5 h6=>exact FV r (o:=⟨dst,_,type,pos,after,guard⟩) hd hf hm rfl h1 h2 h3 h4 (Mo h5).1 (Mo h5).2 h6
 | call h1 h2 h3 h4=>exact Kf r (o:=⟨dst,_,type,pos,after,guard⟩) hd hf hm rfl h1 h2 h3 h4
 | Kv h1 h2 h3 h4 h5 h6 h7 h8=>exact Kh hT r (o:=⟨dst,_,type,pos,after,guard⟩) hd hf (by omega) rfl h1 h2 h3 h4 h5 h6 h7 h8
 | Ku h1 h2 h3 h4 h5 h6 h7 h8 h9 mw FJ Al Wf=>exact Kg hT r (o:=⟨dst,_,type,pos,after,guard⟩) hd rfl h1 h2 h3 h4 h5 h6 h7 h8 h9 mw FJ Al Wf
end
section
variable {P:Program}{T:Nat->Option Ty}{O:gD}
theorem vD {mr:List (Nat × Nat)}{id:Nat}:∀ {mb:List Nat} {ob:List (List Ce)} {b:Nat} {cs:List Ce},lk (pZ mr id mb ob) b=some cs->b∈mb
 | [],_,b,cs,h=>by
  unfold pZ at h
  cases h
 | _ :: _,[],b,cs,h=>by cases h
 | b0 :: mb,c :: ob,b,cs,h=>by
  unfold pZ at h;rw[bZ] at h;split at h
  ·rename_i e;rw[e];exact aC
  ·exact aK _ (vD h)
theorem vC:∀ {mr:List (Nat × Nat)} {fa:List Row} {τ:Nat} {R:Row},lk (kV mr fa) τ=some R->τ∈mr.map (·.1)
 | [],_,τ,R,h=>by
  unfold kV at h
  cases h
 | (_,_) :: _,[],τ,R,h=>by cases h
 | (t0,v) :: mr,c :: fa,τ,R,h=>by
  unfold kV at h;rw[bZ] at h;split at h
  ·rename_i e;rw[<- e];exact aC
  ·exact aK _ (vC h)
theorem wB {st:St}{mr:List (Nat × Nat)}:∀ {mb:List Nat} {ib:List (List Ce)} {b:Nat},xD st mr mb ib->b∈mb->∃ cs,lk st.bx b=some cs
 | b0 :: mb,cs :: ib,b,h,hb=>by
  obtain⟨h1,h2⟩:=h;rcases List.mem_cons.1 hb with rfl|hb
  ·split at h1
   ·rename_i us n7;exact⟨us,n7⟩
   ·exact h1.elim
  ·exact wB h2 hb
 | _ :: _,[],_,h,_=>h.elim
theorem CW {st:St}:∀ {mr:List (Nat × Nat)} {ir:List Row} {τ:Nat},DH st mr ir->τ∈mr.map (·.1)->∃ R,lk st.rw τ=some R
 | (t0,v) :: mr,R :: ir,τ,h,hb=>by
  obtain⟨h1,h2⟩:=h;rcases List.mem_cons.1 hb with rfl|hb
  ·split at h1
   ·rename_i us n7;exact⟨us,n7⟩
   ·exact h1.elim
  ·exact CW h2 hb
 | (_,_) :: _,[],_,h,_=>h.elim
theorem qf {n:Nat}:∀ {l:List Nat},oC n l=true->n∈l
 | m :: r,h=>by
  unfold oC at h
  cases hb:Nat.beq m n with
  | true=>rw[ah hb];exact aC
  | false=>rw[hb] at h;exact aK _ (qf h)
theorem GN {st:St}{f:Operand}{vs:List AV}{mb:List Nat}{mr:List (Nat × Nat)}(h:KF T st f vs mb mr=true):(∀ b∈mb,b∈vs.flatMap AV.dJ)/\∀ p∈mr,p.1∈(vs.flatMap AV.cB).map (·.1)++rowsOf st mb:=by
 unfold KF at h;simp only[ag] at h;obtain⟨_,_,_,h1,h2,_⟩:=h;exact⟨fun b hb=>qf (aN.1 h1 b hb),fun p hp=>qf (aN.1 h2 p hp)⟩
theorem H3 {st cJ:St}{mr:List (Nat × Nat)}:∀ {mb:List Nat} {ib:List (List Ce)},xD st mr mb ib->(∀ b∈mb,∀ cs,lk st.bx b=some cs->lk cJ.bx b=some cs)->xD cJ mr mb ib
 | [],[],_,_=>trivial
 | b :: mb,cs :: ib,h,ha=>by
  obtain⟨h1,h2⟩:=h;refine⟨?_,H3 h2 fun b hb=>ha b (aK _ hb)⟩;split at h1
  ·rename_i us n7;rw[ha b aC us n7];exact h1
  ·exact h1.elim
 | [],_ :: _,h,_=>h.elim
 | _ :: _,[],h,_=>h.elim
theorem HJ {st cJ:St}:∀ {mr:List (Nat × Nat)} {ir:List Row},DH st mr ir->(∀ p∈mr,∀ R,lk st.rw p.1=some R->lk cJ.rw p.1=some R)->DH cJ mr ir
 | [],[],_,_=>trivial
 | (τ,v) :: mr,R :: ir,h,ha=>by
  obtain⟨h1,h2⟩:=h;refine⟨?_,HJ h2 fun p hp=>ha p (aK _ hp)⟩;split at h1
  ·rename_i us n7;rw[ha (τ,v) aC us n7];exact h1
  ·exact h1.elim
 | [],_ :: _,h,_=>h.elim
 | (_,_) :: _,[],h,_=>h.elim
theorem xV {st cJ:St}{ms:List (Nat × Nat)}:∀ {mb:List Nat} {ib:List (List Ce)},xD st ms mb ib->(∀ b∈mb,∀ cs,lk st.bx b=some cs->lk cJ.bx b=some cs)->rowsOf cJ mb=rowsOf st mb
 | [],_,_,_=>rfl
 | b :: mb,cs :: ib,h,ha=>by
  obtain⟨us,n7⟩:=wB h aC;unfold rowsOf;rw[n7,ha b aC us n7,xV h.2 fun b hb=>ha b (aK _ hb)]
 | _ :: _,[],h,_=>h.elim
theorem vp {st:St}{x:Nat}:∀ {mb:List Nat},x∈rowsOf st mb->∃ b∈mb,∃ cs,lk st.bx b=some cs/\∃ p∈cs.flatMap Ce.cB,p.1=x
 | b :: mb,h=>by
  unfold rowsOf at h;rcases aX.1 h with h|h
  ·split at h
   ·rename_i cs dL;obtain⟨p,hp,e⟩:=bA.1 h;exact⟨b,aC,cs,dL,p,hp,e⟩
   ·cases h
  ·obtain⟨b',h1,h2⟩:=vp h;exact⟨b',aK _ h1,h2⟩
theorem UT {st:St}{g:Nat}{vs:List AV}{mb:List Nat}{mr:List (Nat × Nat)}(h:KF T st (.func g) vs mb mr=true)(hg:oC g wrI=true):∀ p∈mr,∃ R,lk st.rw p.1=some R/\R.ty=tyI:=fun p hp=>by
 unfold KF at h;simp only[ag] at h;have h:=h.2.2.2.2.2;unfold XQ at h;simp only[hg] at h;have:=aN.1 h p hp;split at this
 ·rename_i R hR;exact⟨R,hR,ah this⟩
 ·cases this
theorem T6 {st cJ:St}{mr:List (Nat × Nat)}(hR:∀ p∈mr,∀ R,lk st.rw p.1=some R->lk cJ.rw p.1=some R):∀ {f:Operand},XQ st mr f=true->XQ cJ mr f=true:=fun {f} h=>by
 unfold XQ at h ⊢;split
 ·rename_i g;simp only at h;split
  ·rename_i hg;simp only[hg] at h;refine aN.2 fun p hp=>?_;have:=aN.1 h p hp;split at this
   ·rename_i R hr;rw[hR p hp R hr];exact this
   ·cases this
  ·rfl
 ·rfl
theorem UU {st cJ:St}{f:Operand}{vs:List AV}{mb:List Nat}{mr ms:List (Nat × Nat)}{ib:List (List Ce)}(h:KF T st f vs mb mr=true)(hB:xD st ms mb ib)(ha:∀ b∈mb,∀ cs,lk st.bx b=some cs->lk cJ.bx b=some cs)(hR:∀ p∈mr,∀ R,lk st.rw p.1=some R->lk cJ.rw p.1=some R):KF T cJ f vs mb mr=true:=by
 have:rowsOf cJ mb=rowsOf st mb:=xV hB ha;unfold KF at h ⊢;rw[this];simp only[ag] at h ⊢;exact⟨h.1,h.2.1,h.2.2.1,h.2.2.2.1,h.2.2.2.2.1,T6 hR h.2.2.2.2.2⟩
theorem Lh {st:St}{id:Nat}{op:Op}{d:Dl}(h:lX P T st id op d) :
  (∀ b cs,lk d.bs b=some cs->(cA T op=true/\∃ c0,lk st.bx b=some c0)\/(id<=b/\b < id+128))/\(∀ τ R,lk d.rs τ=some R->(cA T op=true/\∃ R0,lk st.rw τ=some R0)\/(id<=τ/\τ < id+128))/\(kP op=false->d.bs=[]/\d.rs=[]):=by
 have one:∀ {α:Type} {i:Nat} {x y:α} {j:Nat},lk [(i,x)] j=some y->j=i:=fun {α i x y j} h=>by
  rw[bZ] at h;split at h
  ·rename_i e;exact e.symm
  ·cases h
 cases h with
 | oW h1 h2 h3 h4 h5 h6=>exact⟨fun b cs h=>.inl ⟨rfl,(by rw[one h];exact⟨_,h5⟩)⟩,fun _ _ h=>(by cases h),fun h=>(by cases h)⟩
 | oU h1 h2 h3 h4 h5 h6 h7 h8 h9 mw=>exact⟨fun _ _ h=>(by cases h),fun τ R h=>.inl ⟨rfl,(by rw[one h];exact⟨_,h5⟩)⟩,fun h=>(by cases h)⟩
 | oV h1 h2 h3 h4 h5=>exact⟨fun _ _ h=>(by cases h),fun τ R h=>.inl ⟨rfl,(by rw[one h];exact⟨_,h5⟩)⟩,fun h=>(by cases h)⟩
 | Ku h1 h2 h3 h4 h5=>exact⟨fun _ _ h=>(by cases h),fun τ R h=>.inl ⟨rfl,(by rw[one h];exact⟨_,h5⟩)⟩,fun h=>(by cases h)⟩
 | alloc h1=>exact⟨fun b cs h=>.inr (by rw[one h];omega),fun _ _ h=>(by cases h),fun h=>(by cases h)⟩
 | box h1=>exact⟨fun b cs h=>.inr (by rw[one h];omega),fun _ _ h=>(by cases h),fun h=>(by cases h)⟩
 | ZZ h1=>exact⟨fun _ _ h=>(by cases h),fun b cs h=>.inr (by rw[one h];omega),fun h=>by cases h⟩
 | Kv h1=>exact⟨fun _ _ h=>(by cases h),fun b cs h=>.inr (by rw[one h];omega),fun h=>by cases h⟩
 | @wR f args qM g vs dH mb mr ib ir rv ob fa nr h1 h2 h3 h4 h5 h6=>
  have hw:cA T (.call ⟨.value f,args,qM⟩)=true:=by
   unfold KF at h5;rw[ag] at h5;exact h5.1
  refine⟨fun b cs h=>.inl ⟨hw,?_⟩,fun τ R h=>?_,fun h=>by cases h⟩
  ·exact wB h3 (vD h)
  ·rw[cj] at h;split at h
   ·rename_i x hx;exact .inl ⟨hw,CW h4 (vC hx)⟩
   ·rw[eG] at h;split at h
    ·have h7:=(an.1 h).1;have:=h6.te;exact .inr (by omega)
    ·cases h
 | call h1 h2 h3 h4=>
  refine⟨fun _ _ h=>(by cases h),fun τ R h=>.inr ?_,fun h=>by cases h⟩;rw[eG] at h;split at h
  ·have h5:=(an.1 h).1;have:=h3.te;omega
  ·cases h
 | pure h1=>exact⟨fun _ _ h=>(by cases h),fun _ _ h=>(by cases h),fun _=>⟨rfl,rfl⟩⟩
 | cat h1=>exact⟨fun _ _ h=>(by cases h),fun _ _ h=>(by cases h),fun _=>⟨rfl,rfl⟩⟩
 | ZT h1=>exact⟨fun _ _ h=>(by cases h),fun _ _ h=>(by cases h),fun _=>⟨rfl,rfl⟩⟩
 | pick h1=>exact⟨fun _ _ h=>(by cases h),fun _ _ h=>(by cases h),fun _=>⟨rfl,rfl⟩⟩
 | yn h1=>exact⟨fun _ _ h=>(by cases h),fun _ _ h=>(by cases h),fun _=>⟨rfl,rfl⟩⟩
 | yo h1=>exact⟨fun _ _ h=>(by cases h),fun _ _ h=>(by cases h),fun _=>⟨rfl,rfl⟩⟩
 | ym h1=>exact⟨fun _ _ h=>(by cases h),fun _ _ h=>(by cases h),fun _=>⟨rfl,rfl⟩⟩
 | YS h1=>exact⟨fun _ _ h=>(by cases h),fun _ _ h=>(by cases h),fun _=>⟨rfl,rfl⟩⟩
 | Rj h1=>exact⟨fun _ _ h=>(by cases h),fun _ _ h=>(by cases h),fun _=>⟨rfl,rfl⟩⟩
 | Na h1=>exact⟨fun _ _ h=>(by cases h),fun _ _ h=>(by cases h),fun _=>⟨rfl,rfl⟩⟩
 | Nc h1=>exact⟨fun _ _ h=>(by cases h),fun _ _ h=>(by cases h),fun _=>⟨rfl,rfl⟩⟩
 | Nd h1=>exact⟨fun _ _ h=>(by cases h),fun _ _ h=>(by cases h),fun _=>⟨rfl,rfl⟩⟩
 | Jz h0 h1=>exact⟨fun _ _ h=>(by cases h),fun _ _ h=>(by cases h),fun _=>⟨rfl,rfl⟩⟩
 | YT h1=>exact⟨fun _ _ h=>(by cases h),fun _ _ h=>(by cases h),fun _=>⟨rfl,rfl⟩⟩
 | XX h1=>exact⟨fun _ _ h=>(by cases h),fun _ _ h=>(by cases h),fun _=>⟨rfl,rfl⟩⟩
 | XW h1=>exact⟨fun _ _ h=>(by cases h),fun _ _ h=>(by cases h),fun _=>⟨rfl,rfl⟩⟩
 | XY h1=>exact⟨fun _ _ h=>(by cases h),fun _ _ h=>(by cases h),fun _=>⟨rfl,rfl⟩⟩
 | XV h1 h2 h3 h4=>exact⟨fun _ _ h=>(by cases h),fun τ R h=>.inl ⟨(by simp[cA,h1]),(by rw[one h];exact⟨_,h4⟩)⟩,fun h=>(by cases h)⟩
 | ZX h1 h2 h3 h4=>exact⟨fun _ _ h=>(by cases h),fun τ R h=>.inl ⟨rfl,(by rw[one h];exact⟨_,h4⟩)⟩,fun h=>(by cases h)⟩
 | YH h1=>exact⟨fun _ _ h=>(by cases h),fun b cs h=>.inr (by rw[one h];omega),fun h=>by cases h⟩
 | ZV h1 h2 h3 h4 h5=>exact⟨fun _ _ h=>(by cases h),fun τ R h=>.inl ⟨rfl,(by rw[one h];exact⟨_,h5⟩)⟩,fun h=>(by cases h)⟩
def OR (st cJ:St)(v:AV):Prop:=(∀ b∈v.dJ,∀ cs,lk st.bx b=some cs->lk cJ.bx b=some cs/\∀ p∈cs.flatMap Ce.cB,∀ R,lk st.rw p.1=some R->lk cJ.rw p.1=some R)/\(∀ p∈v.cB,∀ R,lk st.rw p.1=some R->lk cJ.rw p.1=some R)
theorem Bh {st cJ:St}{c:Ce}{x:Tr}(h:u9 st c=some x)(ha:∀ p∈c.cB,∀ R,lk st.rw p.1=some R->lk cJ.rw p.1=some R):u9 cJ c=some x:=by
 cases c with
 | row τ bo=>
  show(match lk cJ.rw τ with
   | some R=>bif Nat.beq R.bo bo&&R.dp.isNone then some (Tr.sl R.k R.xs) else none
   | none=>none)=some x
  have h:(match lk st.rw τ with
   | some R=>bif Nat.beq R.bo bo&&R.dp.isNone then some (Tr.sl R.k R.xs) else none
   | none=>none)=some x:=h
  split at h
  ·rename_i R hR;rw[ha (τ,bo) aC R hR];exact h
  ·cases h
 | _=>exact h
theorem oa {st cJ:St}{v:AV}{k:Nat}{xs:List (List Tr)}(h:fY st v=some (k,xs))(ha:OR st cJ v):fY cJ v=some (k,xs):=by
 unfold fY at h ⊢;split at h
 ·rename_i c;split at h
  ·rename_i k' qR hc;simp only[Bh hc ha.2];exact h
  ·cases h
 ·cases h
theorem Q5 {st cJ:St}{v:AV}{n:Nat}(h:Jx st v=some n)(ha:OR st cJ v):Jx cJ v=some n:=by
 have els:∀ {v},OR st cJ v->(match fY st v with
   | some (_,xs)=>some xs.length
   | none=>none)=some n->(match fY cJ v with
   | some (_,xs)=>some xs.length
   | none=>none)=some n:=fun {v} ha h=>by
  split at h
  ·rename_i k xs e;rw[oa e ha];exact h
  ·cases h
 cases v with
 | c c=>
  cases c with
  | row τ bo=>
   unfold Jx at h ⊢;simp only at h ⊢;split at h
   ·rename_i R hR;rw[ha.2 (τ,bo) aC R hR];exact h
   ·cases h
  | _=>exact els ha h
 | _=>exact els ha h
theorem yI {st cJ:St}{i:Nat}:∀ {us:List Ce} {o:Nat} {z:List Tr × List (Nat × Nat × Nat × Nat)},mC st i o us=some z->(∀ p∈us.flatMap Ce.cB,∀ R,lk st.rw p.1=some R->lk cJ.rw p.1=some R)->mC cJ i o us=some z
 | [],_,_,h,_=>h
 | c :: us,o,z,h,ha=>by
  rw[bK] at ha;unfold mC at h ⊢;split at h
  ·rename_i t ts nl h1 h2;rw[Bh h1 fun p hp=>ha p (bH _ hp),yI h2 fun p hp=>ha p (bJ _ hp)];exact h
  ·cases h
theorem Dg {v:AV}{us:List Ce}(h:gd v=some us):∀ p∈us.flatMap Ce.cB,p∈v.cB:=by
 unfold gd at h;split at h
 ·cases h
  intro p hp;simpa [AV.cB,AV.gu] using hp
 ·cases h
  intro p hp;exact hp
 ·cases h
theorem HY {st cJ:St}{x y:Ce}(h:DJ st x y)(ha:∀ p∈x.cB,∀ R,lk st.rw p.1=some R->lk cJ.rw p.1=some R):DJ cJ x y:=by
 unfold DJ at h;split at h
 ·exact h
 ·exact h
 ·exact h
 ·rename_i τ bo y;split at h
  ·rename_i R hR;unfold DJ;simp only[ha (τ,bo) aC R hR];exact h
  ·exact h.elim
 ·exact h.elim
theorem HT {st cJ:St}:∀ {xs ys:List Ce},KE st xs ys->(∀ p∈xs.flatMap Ce.cB,∀ R,lk st.rw p.1=some R->lk cJ.rw p.1=some R)->KE cJ xs ys
 | [],[],_,_=>trivial
 | x :: xs,y :: ys,h,ha=>by
  rw[bK] at ha;exact⟨HY h.1 fun p hp=>ha p (bH _ hp),HT h.2 fun p hp=>ha p (bJ _ hp)⟩
 | [],_ :: _,h,_=>h.elim
 | _ :: _,[],h,_=>h.elim
theorem Av {st cJ:St}:∀ {cs:List (Nat × Nat)} {ds:List (List Tr × Nat)},KD st cs ds->(∀ b∈cs.map (·.1),∀ us,lk st.bx b=some us->lk cJ.bx b=some us)->KD cJ cs ds
 | [],[],_,_=>trivial
 | (b,o) :: cs,(ys,o') :: ds,h,ha=>by
  obtain⟨⟨rfl,h1⟩,h2⟩:=h;refine⟨⟨rfl,?_⟩,Av h2 fun b hb=>ha b (aK _ hb)⟩;split at h1
  ·rename_i us n7;rw[ha b aC us n7];exact h1
  ·exact h1.elim
 | [],_ :: _,h,_=>h.elim
 | _ :: _,[],h,_=>h.elim
theorem Dj {st cJ:St}:∀ {xs:List Operand},(∀ x∈xs,ev cJ x=ev st x)->wQ cJ xs=wQ st xs
 | [],_=>rfl
 | x :: xs,h=>by
  unfold wQ;rw[h x aC,Dj fun y hy=>h y (aK _ hy)]
theorem Ws {st cJ:St}{x y:AV}(h:Fit st x y)(ha:OR st cJ x):Fit cJ x y:=by
 unfold Fit at h;split at h
 ·exact HY h ha.2
 ·exact HT h ha.2
 ·exact h
 ·exact h
 ·exact Av h (fun b hb us n7=>(ha.1 b hb us n7).1)
 ·exact h
 ·exact⟨h.1,Av h.2 (fun b hb us n7=>(ha.1 b hb us n7).1)⟩
 ·exact h.elim
theorem Hz {st cJ:St}:∀ {xs ys:List AV},Fits st xs ys->(∀ x∈xs,OR st cJ x)->Fits cJ xs ys
 | [],[],_,_=>trivial
 | x :: _xs,_y :: _ys,h,ha=>⟨Ws h.1 (ha x aC),Hz h.2 fun z hz=>ha z (aK _ hz)⟩
 | [],_ :: _,h,_=>h.elim
 | _ :: _,[],h,_=>h.elim
theorem Dn {st cJ:St}{as0 vs:List AV}{fv:AV}{g:Nat}(h1:oO as0 fv=some (g,vs))(hf:OR st cJ fv)(hA:∀ v∈as0,OR st cJ v):∀ v∈vs,OR st cJ v:=fun v hv=>by
 unfold oO at h1;split at h1
 ·rename_i g' caps
  cases h1
  rcases aX.1 hv with hv|hv
  ·exact hA v hv
  ·obtain⟨c,hc,rfl⟩:=bA.1 hv
   exact⟨fun b hb=>hf.1 b (by
    obtain rfl:b=c.1:=by simpa [AV.dJ,AV.gA] using hb
    exact bA.2 ⟨c,hc,rfl⟩),fun p hp=>by cases hp⟩
 ·rename_i g' caps
  cases h1
  rcases aX.1 hv with hv|hv
  ·exact hA v hv
  ·obtain⟨c,hc,rfl⟩:=bA.1 hv;exact⟨fun b hb=>(by cases hb),fun p hp=>by cases hp⟩
 ·cases h1
theorem yi {st cJ:St}{pl:Nat->Option (Nat × Nat)}:∀ {parts:List (Nat × Operand)} {cs:List Ce},(∀ p∈parts,ev cJ p.2=ev st p.2)->jA cJ pl parts cs=jA st pl parts cs
 | [],_,_=>rfl
 | (j,x) :: parts,cs,h=>by
  have ih:∀ cs,jA cJ pl parts cs=jA st pl parts cs:=fun cs=>yi fun p hp=>h p (aK _ hp);have hx:ev cJ x=ev st x:=h (j,x) aC;unfold jA;simp only[hx,ih]
theorem yh {st cJ:St}{sz:Nat}:∀ {parts:List (Nat × Operand)} {i:Nat},(∀ p∈parts,ev cJ p.2=ev st p.2)->jb cJ sz i parts=jb st sz i parts
 | [],_,_=>rfl
 | (j,x) :: parts,i,h=>by
  have ih:∀ i,jb cJ sz i parts=jb st sz i parts:=fun i=>yh fun p hp=>h p (aK _ hp);have hx:ev cJ x=ev st x:=h (j,x) aC;unfold jb;simp only[hx,ih]
theorem lP {st cJ:St}{x:Option Operand}{z n:Nat}(h:bound st x z n)(ha:∀ o,x=some o->ev cJ o=ev st o):bound cJ x z n:=by
 cases x with
 | none=>exact h
 | some x=>
  unfold bound at h ⊢;simp only at h ⊢;rw[ha x rfl];exact h
theorem Mg {st cJ:St}{op:Op}{v:AV}(h:dA T st op=some v)(he:∀ x∈op.operands,ev cJ x=ev st x)(ha:kP op=true->∀ x∈op.operands,OR st cJ (ev st x)):dA T cJ op=some v:=by
 cases op with
 | load t x=>
  have h1:=he x (by simp[Op.operands]);have h2:=ha rfl x (by simp[Op.operands]);unfold dA at h ⊢;simp only at h ⊢;rw[h1];split at h
  ·split at h
   ·rename_i y hy b o e;rw[e] at h2;split at h
    ·rename_i cs dL;rw[(h2.1 b aC cs dL).1];exact h
    ·cases h
   ·exact h
   ·cases h
  ·cases h
 | call c=>
  obtain⟨cl,args,qM⟩:=c;unfold dA at h ⊢;simp only at h ⊢;split at h
  ·rename_i x t e1 e2;obtain rfl:args=#[x]:=Array.toList_inj.1 e1;have h1:=he x (by simp[Op.operands,Call.operands]);have h2:=ha rfl x (by simp[Op.operands,Call.operands]);rw[h1];split at h
   ·exact h
   ·split at h
    ·rename_i n e;rw[Q5 e h2];exact h
    ·cases h
   ·cases h
  ·rename_i x y t1 t2 e1 e2;obtain rfl:args=#[x,y]:=Array.toList_inj.1 e1;have h1:=he x (by simp[Op.operands,Call.operands]);have h2:=he y (by simp[Op.operands,Call.operands]);rw[h1,h2];exact h
  ·rename_i x y t1 t2 e1 e2;obtain rfl:args=#[x,y]:=Array.toList_inj.1 e1;have h1:=he x (by simp[Op.operands,Call.operands]);have h2:=he y (by simp[Op.operands,Call.operands]);rw[h1,h2];exact h
  ·cases h
 | build t ps=>
  have h1:∀ p∈ps.toList,ev cJ p.2=ev st p.2:=fun p hp=>he p.2 (by simp only[Op.operands,List.mem_toArray];exact bA.2 ⟨p,hp,rfl⟩);unfold dA at h ⊢;simp only[yi h1] at h ⊢;exact h
 | move x=>
  have h1:=he x (by simp[Op.operands]);unfold dA at h ⊢;simp only[h1] at h ⊢;exact h
 | assign x=>
  have h1:=he x (by simp[Op.operands]);unfold dA at h ⊢;simp only[h1] at h ⊢;exact h
 | nilCheck x=>
  have h1:=he x (by simp[Op.operands]);unfold dA at h ⊢;simp only[h1] at h ⊢;exact h
 | binOp op t x y t'=>
  have h1:=he x (by simp[Op.operands]);have h2:=he y (by simp[Op.operands]);unfold dA at h ⊢;simp only[h1,h2] at h ⊢;exact h
 | unOp op t x=>
  have h1:=he x (by simp[Op.operands]);unfold dA at h ⊢;simp only[h1] at h ⊢;exact h
 | convert s t x=>
  have h1:=he x (by simp[Op.operands]);unfold dA at h ⊢;simp only[h1] at h ⊢;exact h
 | field t x f=>
  have h1:=he x (by simp[Op.operands]);unfold dA at h ⊢;simp only[h1] at h ⊢;exact h
 | fieldAddr t x f=>
  have h1:=he x (by simp[Op.operands]);unfold dA at h ⊢;simp only[h1] at h ⊢;exact h
 | extract x i=>
  have h1:=he x (by simp[Op.operands]);unfold dA at h ⊢;simp only[h1] at h ⊢;exact h
 | makeFunc fn first caps=>
  have h1:∀ x∈caps.toList,ev cJ x=ev st x:=fun x hx=>he x (by simp only[Op.operands];exact Array.mem_append.2 (.inr (Array.mem_toList_iff.1 hx)));unfold dA at h ⊢;simp only[Dj h1] at h ⊢;exact h
 | _=>cases h
theorem Li {st cJ:St}{id:Nat}{op:Op}{d:Dl}(h:lX P T st id op d)(he:∀ x∈op.operands,ev cJ x=ev st x)(ha:kP op=true->∀ x∈op.operands,OR st cJ (ev st x)):lX P T cJ id op d:=by
 cases h with
 | pure h1=>exact .pure (Mg h1 he ha)
 | @pick c a b t h1=>
  rw[<- he a (by simp[Op.operands]),<- he b (by simp[Op.operands])];exact .pick (by rw[he c (by simp[Op.operands])];exact h1)
 | @ZT src dst e x s1 b1 s2 b2 s3 b3 z1 z2 z3 q1 q2 q3 xs bs h1 h2 h3 h4 h5=>
  have g:=he x (by simp[Op.operands]);exact .ZT h1 h2 h3 (by rw[g];exact oa h4 (ha rfl x (by simp[Op.operands]))) h5
 | @cat t t' x y a b h1 h2 h3=>exact .cat (by rw[he x (by simp[Op.operands])];exact h1) (by rw[he y (by simp[Op.operands])];exact h2) h3
 | alloc h1=>exact .alloc h1
 | @box e x cs h1=>exact .box (by rw[he x (by simp[Op.operands])];exact h1)
 | @oW t a x y us b o cs h1 h2 h3 h4 h5 h6=>
  have q:=ha rfl a (by simp[Op.operands]);rw[h4] at q;exact .oW h1 (by rw[he x (by simp[Op.operands])];exact h2) h3 (by rw[he a (by simp[Op.operands])];exact h4) (q.1 b aC cs h5).1 h6
 | @oU t a x y us ts τ bo k i o R xs h1 h2 h3 h4 h5 h6 h7 h8 h9 mw FJ=>
  have q:=ha rfl a (by simp[Op.operands]);rw[h4] at q;exact .oU h1 (by rw[he x (by simp[Op.operands])];exact h2) h3 (by rw[he a (by simp[Op.operands])];exact h4) (q.2 (τ,bo) aC R h5) h6 h7 h8 h9 mw FJ
 | @oV t a x y us ts nl τ bo k i o R d xs h1 h2 h3 h4 h5 h6 h7 h8 h9 mw FJ Al Wf=>
  have q:=ha rfl a (by simp[Op.operands]);rw[h4] at q;have q2:=ha rfl x (by simp[Op.operands]);exact .oV h1 (by rw[he x (by simp[Op.operands])];exact h2) h3 (by rw[he a (by simp[Op.operands])];exact h4) (q.2 (τ,bo) aC R h5) h6 h7 h8 (yI h9 fun p hp=>q2.2 p (Dg h2 p hp)) mw FJ Al Wf
 | @yn t a y τ bo k i o R xs v h1 h2 h3 h4 h5 h6 h7 h8=>
  have q:=ha rfl a (by simp[Op.operands]);rw[h1] at q;exact .yn (by rw[he a (by simp[Op.operands])];exact h1) h2 (q.2 (τ,bo) aC R h3) h4 h5 h6 h7 h8
 | @yo t a y τ bo k i o R d xs v h1 h2 h3 h4 h5 h6 h7 h8 h9 mw=>
  have q:=ha rfl a (by simp[Op.operands]);rw[h1] at q;exact .yo (by rw[he a (by simp[Op.operands])];exact h1) h2 (q.2 (τ,bo) aC R h3) h4 h5 h6 h7 h8 h9 mw
 | @ym t a y τ bo k i o ρ u R d h1 h2 h3 h4 h5 h6 h7 h8 h9 mw=>
  have q:=ha rfl a (by simp[Op.operands]);rw[h1] at q;exact .ym (by rw[he a (by simp[Op.operands])];exact h1) h2 (q.2 (τ,bo) aC R h3) h4 h5 h6 h7 h8 h9 mw
 | @YS t e x ix s b z q kk n y k xs j ts h1 h2 h3 h4 h5 h6 h7=>exact .YS h1 (by rw[he ix (by simp[Op.operands])];exact h2) h3 (by rw[he x (by simp[Op.operands])];exact h4) h5 h6 h7
 | @Rj t e x ix s b z q kk n y τ bo R j h1 h2 h3 h4 h5 h6 h7 h8 h9 mw=>
  have g:=ha rfl x (by simp[Op.operands]);rw[h4] at g;exact .Rj h1 (by rw[he ix (by simp[Op.operands])];exact h2) h3 (by rw[he x (by simp[Op.operands])];exact h4) (g.2 (τ,bo) aC R h5) h6 h7 h8 h9 mw
 | @Na t m e x ix s b z q kk n y g o j h1 h2 h3 h4 h5 h6=>exact .Na h1 (by rw[he ix (by simp[Op.operands])];exact h2) h3 (by rw[he x (by simp[Op.operands])];exact h4) h5 h6
 | @Nc t m e x ix s b z q kk n y xs o j h1 h2 h3 h4 h5 h6=>exact .Nc h1 (by rw[he ix (by simp[Op.operands])];exact h2) h3 (by rw[he x (by simp[Op.operands])];exact h4) h5 h6
 | @Nd t m e x ix s b z q kk n y τ bo k i o j h1 h2 h3 h4 h5 h6=>exact .Nd h1 (by rw[he ix (by simp[Op.operands])];exact h2) h3 (by rw[he x (by simp[Op.operands])];exact h4) h5 h6
 | @Jz t x ix s b z q kk n str j h0 h1 h2 h3 h4=>exact .Jz h0 h1 (by rw[he x (by simp[Op.operands])];exact h2) (by rw[he ix (by simp[Op.operands])];exact h3) h4
 | @YT t m e x ix s b z q kk n y cs j v h1 h2 h3 h4 h5 h6 h7=>exact .YT h1 (by rw[he x (by simp[Op.operands])];exact h2) (by rw[he ix (by simp[Op.operands])];exact h3) h4 h5 h6 h7
 | @XX t x lo hi s b z q str l h h1 h2 h3 h4 h5 h6=>exact .XX h1 (by rw[he x (by simp[Op.operands])];exact h2) (lP h3 fun o e=>he o (by simp[Op.operands,e])) (lP h4 fun o e=>he o (by simp[Op.operands,e])) h5 h6
 | @XW t e x lo hi s b z q y k xs l h h1 h2 h3 h4 h5 h6 h7 h8=>exact .XW h1 (by rw[he x (by simp[Op.operands])];exact h2) h3 h4 (lP h5 fun o e=>he o (by simp[Op.operands,e])) (lP h6 fun o e=>he o (by simp[Op.operands,e])) h7 h8
 | @XY t e x lo s b z q y τ bo R l h1 h2 h3 h4 h5 h6 h7 h8 h9=>
  have g:=ha rfl x (by simp[Op.operands]);rw[h2] at g;exact .XY h1 (by rw[he x (by simp[Op.operands])];exact h2) h3 (g.2 (τ,bo) aC R h4) h5 h6 h7 (lP h8 fun o e=>he o (by simp[Op.operands,e])) h9
 | @XV t e x hi s b z q y τ bo R h h1 h2 h3 h4 h5 h6 h7 h8 h9=>
  have g:=ha rfl x (by simp[Op.operands]);rw[h2] at g;exact .XV h1 (by rw[he x (by simp[Op.operands])];exact h2) h3 (g.2 (τ,bo) aC R h4) h5 h6 h7 (lP h8 fun o e=>he o (by simp[Op.operands,aR e])) h9
 | @ZX x t e s b z q y τ bo k i R zs h1 h2 h3 h4 h5 h6 h7 h8 h9 mw=>
  have g:=ha rfl x (by simp[Op.operands,Call.operands]);rw[h3] at g;exact .ZX h1 h2 (by rw[he x (by simp[Op.operands,Call.operands])];exact h3) (g.2 (τ,bo) aC R h4) h5 h6 h7 h8 h9 mw
 | @YH t e l c s b z q y kl kc n zs h1 h2 h3 h4 h5 h6 h7=>exact .YH h1 h2 (by rw[he l (by simp[Op.operands])];exact h3) (by rw[he c (by simp[Op.operands])];exact h4) h5 h6 h7
 | @ZV s x t t' e sz b z q y k ys τ bo R h1 h2 h3 h4 h5 h6 h7 h8 h9 mw FJ=>
  have g:=ha rfl s (by simp[Op.operands,Call.operands]);rw[h4] at g;exact .ZV h1 h2 (by rw[he x (by simp[Op.operands,Call.operands])];exact h3) (by rw[he s (by simp[Op.operands,Call.operands])];exact h4) (g.2 (τ,bo) aC R h5) h6 h7 h8 h9 mw FJ
 | @ZZ t e len parts s b z q y xs h1 h2 h3 h4 h5 h6=>
  have g:∀ p∈parts.toList,ev cJ p.2=ev st p.2:=fun p hp=>he p.2 (by simp only[Op.operands,List.mem_toArray];exact bA.2 ⟨p,hp,rfl⟩);exact .ZZ h1 h2 (by rw[yh g];exact h3) h4 h5 h6
 | @call f args qM g vs dH r rs fresh h1 h2 h3 h4=>
  have e1:args.toList.map (ev cJ)=args.toList.map (ev st):=List.map_congr_left fun x hx=>he x (by simp only[Op.operands,Call.operands];exact Array.mem_append.2 (.inr (Array.mem_toList_iff.1 hx)));have ef:ev cJ f=ev st f:=he f (by simp[Op.operands,Call.operands]);refine .call (by rw[e1,ef];exact h1) (Hz h2 fun v hv=>?_) h3 h4
  exact Dn h1 (ha rfl f (by simp[Op.operands,Call.operands])) (fun v hv=>by
   obtain⟨x,hx,rfl⟩:=bA.1 hv;exact ha rfl x (by simp only[Op.operands,Call.operands];exact Array.mem_append.2 (.inr (Array.mem_toList_iff.1 hx)))) v hv
 | @wR f args qM g vs dH mb mr ib ir rv ob fa nr h1 h2 h3 h4 h5 h6=>
  have e1:args.toList.map (ev cJ)=args.toList.map (ev st):=List.map_congr_left fun x hx=>he x (by simp only[Op.operands,Call.operands];exact Array.mem_append.2 (.inr (Array.mem_toList_iff.1 hx)));have ef:ev cJ f=ev st f:=he f (by simp[Op.operands,Call.operands])
  have hA:∀ v∈vs,OR st cJ v:=Dn h1 (ha rfl f (by simp[Op.operands,Call.operands])) fun v hv=>by
   obtain⟨x,hx,rfl⟩:=bA.1 hv;exact ha rfl x (by simp only[Op.operands,Call.operands];exact Array.mem_append.2 (.inr (Array.mem_toList_iff.1 hx)))
  obtain⟨k1,k2⟩:=GN h5
  have hB:∀ b∈mb,∀ cs,lk st.bx b=some cs->lk cJ.bx b=some cs/\∀ p∈cs.flatMap Ce.cB,∀ R,lk st.rw p.1=some R->lk cJ.rw p.1=some R:=fun b hb cs dL=>by
   obtain⟨v,hv,V7⟩:=List.mem_flatMap.1 (k1 b hb);exact(hA v hv).1 b V7 cs dL
  have hR:∀ q∈mr,∀ R,lk st.rw q.1=some R->lk cJ.rw q.1=some R:=fun q hq R hR=>by
   rcases aX.1 (k2 q hq) with h|h
   ·obtain⟨p,hp,e⟩:=bA.1 h;obtain⟨v,hv,hpv⟩:=List.mem_flatMap.1 hp;rw[<- e] at hR ⊢;exact(hA v hv).2 p hpv R hR
   ·obtain⟨b,hb,cs,dL,p,hp,e⟩:=vp h;rw[<- e] at hR ⊢;exact(hB b hb cs dL).2 p hp R hR
  have fB:=H3 h3 (fun b hb cs dL=>(hB b hb cs dL).1);exact .wR (by rw[e1,ef];exact h1) h2 fB (HJ h4 hR) (UU h5 h3 (fun b hb cs dL=>(hB b hb cs dL).1) hR) h6
 | @Kv s x t e sz b z q y k ys h1 h2 h3 h4 h5 h6 h7 h8=>exact .Kv h1 h2 (by rw[he x (by simp[Op.operands,Call.operands])];exact oa h3 (ha rfl x (by simp[Op.operands,Call.operands]))) (by rw[he s (by simp[Op.operands,Call.operands])];exact h4) h5 h6 h7 h8
 | @Ku s x t e sz b z q y k ys τ bo R h1 h2 h3 h4 h5 h6 h7 h8 h9 mw FJ Al Wf=>
  have g:=ha rfl s (by simp[Op.operands,Call.operands]);rw[h4] at g;exact .Ku h1 h2 (by rw[he x (by simp[Op.operands,Call.operands])];exact oa h3 (ha rfl x (by simp[Op.operands,Call.operands]))) (by rw[he s (by simp[Op.operands,Call.operands])];exact h4) (g.2 (τ,bo) aC R h5) h6 h7 h8 h9 mw FJ Al Wf
end
section
variable {P:Program}{T:Nat->Option Ty}{O:gD}[GlC O]
structure jV (s s':St):Prop where
 sl:∀ t,s'.get t=s.get t
 bx:∀ b,lk s'.bx b=lk s.bx b
 rw:∀ τ,lk s'.rw τ=lk s.rw τ
theorem jV.refl (s:St):jV s s:=⟨fun _=>rfl,fun _=>rfl,fun _=>rfl⟩
theorem jV.symm {s s':St}(h:jV s s'):jV s' s:=⟨fun t=>(h.sl t).symm,fun t=>(h.bx t).symm,fun t=>(h.rw t).symm⟩
theorem jV.trans {s s' s2:St}(h:jV s s')(k:jV s' s2):jV s s2:=⟨fun t=>(k.sl t).trans (h.sl t),fun t=>(k.bx t).trans (h.bx t),fun t=>(k.rw t).trans (h.rw t)⟩
theorem jV.app {s s':St}(h:jV s s')(t:Option Nat)(d:Dl):jV (s.app t d) (s'.app t d):=by
 refine⟨fun t'=>?_,fun b=>?_,fun τ=>?_⟩
 ·rw[St.gj,St.gj,h.sl]
 ·rw[St.iw,St.iw,cj,cj,h.bx]
 ·rw[St.gC,St.gC,cj,cj,h.rw]
theorem jV.ev {s s':St}(h:jV s s')(x:Operand):ev s' x=ev s x:=by
 cases x with
 | tmp t=>exact h.sl t
 | _=>rfl
theorem jV.stp {s s':St}(h:jV s s'){id:Nat}{op:Op}{d:Dl}(k:lX P T s id op d):lX P T s' id op d:=
 Li k (fun x _=>h.ev x) (fun _ _x _=>⟨fun b _ _cs dL=>⟨(h.bx b).trans dL,fun p _ _R hR=>(h.rw p.1).trans hR⟩,fun p _ _R hR=>(h.rw p.1).trans hR⟩)
omit [GlC O] in
theorem jV.rep {s s':St}(h:jV s s'){E:Env}{w:World}{n0 N m:Nat}{a:Act}(r:ca O E w n0 N m s a):ca O E w n0 N m s' a:=by
 refine⟨r.xc,r.sz,fun t=>by rw[h.sl];exact r.slt t,fun i cs hi=>r.box i cs (by rw[<- h.bx];exact hi),fun τ R hR=>r.row τ R (by rw[<- h.rw];exact hR),⟨fun t b hb=>?_,fun t p hp=>?_,fun b cs dL p hp=>?_,fun b cs dL=>r.sc.fb b cs (by rw[<- h.bx];exact dL),fun τ R hR=>r.sc.fr τ R (by rw[<- h.rw];exact hR),fun τ R d hR hd l hl=>?_⟩,r.hi,r.mi,r.gh,fun j V hj=>by rw[h.rw];exact r.Vf j V hj,fun j b hj=>(by rw[h.bx];exact r.Ju j b hj),r.sn⟩
 ·rw[h.sl] at hb;obtain⟨cs,dL⟩:=r.sc.sb t b hb;exact⟨cs,by rw[h.bx];exact dL⟩
 ·rw[h.sl] at hp;obtain⟨R,hR,hv⟩:=r.sc.sr t p hp;exact⟨R,by rw[h.rw];exact hR,hv⟩
 ·obtain⟨R,hR,hv⟩:=r.sc.br b cs (by rw[<- h.bx];exact dL) p hp;exact⟨R,by rw[h.rw];exact hR,hv⟩
 ·obtain⟨R,hR,hv⟩:=r.sc.rl τ R d (by rw[<- h.rw];exact hR) hd l hl;exact⟨R,by rw[h.rw];exact hR,hv⟩
theorem jV.put {s:St}{t:Nat}{v:AV}(h:s.get t=v):jV s (s.put t v):=by
 refine⟨fun t'=>?_,fun b=>by cases s;rfl,fun τ=>by cases s;rfl⟩;rw[St.Hs];split
 ·rename_i e;rw[<- e,h]
 ·rfl
theorem Qn (s:St)(t:Option Nat)(v:AV):jV (s.app t (.val v)) (s.Qp t v):=by
 cases s
 cases t <;> exact jV.refl _
def bM (s:St)(L:List (Oper × Dl)):St:=L.foldl (fun s p=>s.app p.1.dst p.2) s
theorem ek (s:St)(L:List (Oper × Dl))(o:Oper)(d:Dl):bM s (L++[(o,d)])=(bM s L).app o.dst d:=by simp[bM]
def F3 (ops:Array Oper)(s:St)(o:Oper)(b:Bool):Prop:=match o.guard with
 | none=>b=true
 | some (g,want)=>∃ t,(ops[g]?).bind (·.dst)=some t/\((∃ v,s.get t=.c (.t (.lit (.bool v)))/\b=(v==want))\/(s.get t=.fH []/\b=false))
def lg (P:Program)(T:Nat->Option Ty)(ops:Array Oper)(id j:Nat)(s:St)(o:Oper)(d:Dl):Prop:=∃ b,F3 ops s o b/\(b=true->lX P T s (id+128*j) o.op d)/\(b=false->d=.val (.fH []))
def eL (P:Program)(T:Nat->Option Ty)(ops:Array Oper)(id:Nat)(s0:St)(L:List (Oper × Dl)):Prop:=∀ j o d,L[j]? = some (o,d)->lg P T ops id j (bM s0 (L.take j)) o d
theorem eL.snoc {ops:Array Oper}{id:Nat}{s0:St}{L:List (Oper × Dl)}(h:eL P T ops id s0 L){o:Oper}{d:Dl}(k:lg P T ops id L.length (bM s0 L) o d):eL P T ops id s0 (L++[(o,d)]):=by
 intro j o' d' hj
 by_cases hl:j < L.length
 ·rw[bn hl] at hj;rw[List.take_append_of_le_length (by omega)];exact h j o' d' hj
 ·rw[aY (by omega)] at hj
  have:j - L.length=0:=by
   have:=(an.1 hj).1;simp at this;omega
  rw[this] at hj
  cases hj
  have nE:j=L.length:=by omega
  subst nE;rw[List.take_left']
  ·exact k
  ·rfl
theorem iK {ops:Array Oper}{id:Nat}{s0:St}:∀ (rest:List Oper) (L0:List (Oper × Dl)) (st:St) (K:St->Prop),jV (bM s0 L0) st->eL P T ops id s0 L0->ju P T ops id L0.length rest st K->
  ∃ L1,L1.map (·.1)=rest/\eL P T ops id s0 (L0++L1)/\∃ cJ,K cJ/\jV (bM s0 (L0++L1)) cJ
 | [],L0,st,K,he,hp,h=>⟨[],rfl,by rw[aZ];exact hp,st,h,by rw[aZ];exact he⟩
 | o :: r,L0,st,K,he,hp,h=>by
  have next:∀ d mK,lg P T ops id L0.length (bM s0 L0) o d->jV ((bM s0 L0).app o.dst d) mK->ju P T ops id (L0.length+1) r mK K->∃ L1,L1.map (·.1)=o :: r/\eL P T ops id s0 (L0++L1)/\∃ cJ,K cJ/\jV (bM s0 (L0++L1)) cJ:=fun d mK h1 h2 h3=>by
   obtain⟨L1,h4,h5,h6⟩:=iK r (L0++[(o,d)]) mK K (by rw[ek];exact h2) (hp.snoc h1) (by rw[au];exact h3);refine⟨(o,d) :: L1,by rw[bP,h4],?_,?_⟩
   ·rw[show L0++(o,d) :: L1=L0++[(o,d)]++L1 by simp];exact h5
   ·rw[show L0++(o,d) :: L1=L0++[(o,d)]++L1 by simp];exact h6
  have goW:∀ SU,jV (bM s0 L0) SU->F3 ops (bM s0 L0) o true->Z8 P T SU (id+128*L0.length) o (fun d=>ju P T ops id (L0.length+1) r (SU.app o.dst d) K)->∃ L1,L1.map (·.1)=o :: r/\eL P T ops id s0 (L0++L1)/\∃ cJ,K cJ/\jV (bM s0 (L0++L1)) cJ:=fun SU O7 hw h=>by
   obtain⟨d,h1,h2⟩:=Pg h;exact next d _ ⟨true,hw,fun _=>O7.symm.stp h1,fun h=>by cases h⟩ (O7.app _ _) h2
  have goS:∀ SU,jV (bM s0 L0) SU->F3 ops (bM s0 L0) o false->ju P T ops id (L0.length+1) r (SU.Qp o.dst (.fH [])) K->∃ L1,L1.map (·.1)=o :: r/\eL P T ops id s0 (L0++L1)/\∃ cJ,K cJ/\jV (bM s0 (L0++L1)) cJ:=fun SU O7 hw h=>by
   exact next (.val (.fH [])) _ ⟨false,hw,fun h=>(by cases h),fun _=>rfl⟩ ((O7.app o.dst (.val (.fH []))).trans (Qn _ _ _)) h
  have h:WPg P T ops id L0.length o st (fun cJ=>ju P T ops id (L0.length+1) r cJ K):=h;unfold WPg at h;simp only[WPh,St.nW] at h;split at h
  ·rename_i hg;exact goW st he (by unfold F3;rw[hg]) h
  ·rename_i g want hg;split at h
   ·exact h.elim
   ·rename_i t ht;split at h
    ·rename_i b hb;have eF:(bM s0 L0).get t=.c (.t (.lit (.bool b))):=by rw[<- he.sl];exact hb
     have wn:∀ b',b'=(b==want)->F3 ops (bM s0 L0) o b':=fun b' e=>by
      unfold F3;rw[hg];exact⟨t,ht,.inl ⟨b,eF,e⟩⟩
     cases b with
     | true=>
      simp only[cond_true] at h;have FA:jV (bM s0 L0) (st.put t (aB0 true)):=he.trans (jV.put hb)
      cases want with
      | true=>exact goW _ FA (wn true rfl) h
      | false=>exact goS _ FA (wn false rfl) h
     | false=>
      simp only[cond_false] at h;have FA:jV (bM s0 L0) (st.put t (aB0 false)):=he.trans (jV.put hb)
      cases want with
      | true=>exact goS _ FA (wn false rfl) h
      | false=>exact goW _ FA (wn true rfl) h
    ·rename_i hb;refine goS _ he ?_ h;unfold F3;rw[hg];exact⟨t,ht,.inr ⟨by rw[<- he.sl];exact hb,rfl⟩⟩
    ·exact h.elim
section
variable {E:Env}{w:World}{n0 N m:Nat}{a:Act}
omit [GlC O] in
theorem oP {ops:Array Oper}{s:St}{o:Oper}{b:Bool}(h:F3 ops s o b)(r:ca O E w n0 N m s a):Region.wanted o (yielded ops a.tmps)=b:=by
 unfold F3 at h;unfold Region.wanted;split at h
 ·rename_i hg;simp only[hg];exact h.symm
 ·rename_i g want hg;obtain⟨t,ht,h⟩:=h;simp only[hg];unfold yielded;rw[ht];have hr:=r.slt t;rw[Array.getD_eq_getD_getElem?] at hr;rcases h with⟨v,hv,rfl⟩|⟨hv,rfl⟩
  ·rw[hv] at hr;have hr:=dO hr
   cases hq:a.tmps[t]? with
   | none=>rw[hq] at hr;cases hr
   | some x=>
    rw[hq] at hr;obtain rfl:x=.bool v:=hr;simp only[Option.bind_some,hq]
    cases v <;> cases want <;> rfl
  ·rw[hv] at hr;obtain⟨vs,hr,_⟩:=hr
   cases hq:a.tmps[t]? with
   | none=>simp[hq]
   | some x=>
    rw[hq] at hr;obtain rfl:x=.tuple vs.toArray:=hr;simp[hq]
theorem Bq (hT:dg P T){ops:Array Oper}{s:St}{id j:Nat}{o:Oper}{d:Dl}{K:Act->World->Prop}{Q:Exit->Act->World->Prop}(r:ca O E w n0 N m s a)(hj:ops[j]? = some o)(hd:∀ x,o.dst=some x->x < N)(hf:lS s (id+128*j))(hm:id+128*j+128<=m)(h:lg P T ops id j s o d)
  (hK:∀ E' v w',ca O E' w' n0 N m (s.app o.dst d) (a.put o.dst v)->Below n0 w w'->K (a.put o.dst v) w'):wpOp P ops Q j K a w:=by
 obtain⟨b,h1,h2,h3⟩:=h;unfold wpOp;simp only[hj];rw[oP h1 r]
 cases b with
 | true=>
  rw[if_pos rfl];exact .inl (rK hT r hd hf hm (h2 rfl) K Q hK)
 | false=>
  rw[if_neg (by simp)];rw[h3 rfl] at hK;exact hK E undef w (r.app hd (Mv.refl _ _ _ _ _) (kv ⟨fun b hb=>(by cases hb),fun p hp=>(by cases hp)⟩) ⟨[],rfl,.nil⟩ (fun _ _ h=>by cases h) (fun _ _ h=>by cases h)) (Below.refl _ _)
end
def Kb (s:St)(n:Nat):Prop:=(∀ b cs,lk s.bx b=some cs->b < n)/\∀ τ R,lk s.rw τ=some R->τ < n
theorem Kb.fresh {s:St}{n:Nat}(h:Kb s n):lS s n:=fun i h1 _=>by
 refine⟨?_,?_⟩
 ·cases hq:lk s.bx i with
  | none=>rfl
  | some cs=>have:=h.1 i cs hq;omega
 ·cases hq:lk s.rw i with
  | none=>rfl
  | some cs=>have:=h.2 i cs hq;omega
theorem jn {ops:Array Oper}{id j:Nat}{s:St}{o:Oper}{d:Dl}(h:lg P T ops id j s o d) :
  (∀ b cs,lk d.bs b=some cs->(cA T o.op=true/\∃ c0,lk s.bx b=some c0)\/(id+128*j<=b/\b < id+128*j+128))/\(∀ τ R,lk d.rs τ=some R->(cA T o.op=true/\∃ R0,lk s.rw τ=some R0)\/(id+128*j<=τ/\τ < id+128*j+128))/\(kP o.op=false->d.bs=[]/\d.rs=[]):=by
 obtain⟨b,_,h2,h3⟩:=h
 cases b with
 | true=>exact Lh (h2 rfl)
 | false=>
  rw[h3 rfl];exact⟨fun _ _ h=>(by cases h),fun _ _ h=>(by cases h),fun _=>⟨rfl,rfl⟩⟩
theorem Kb.app {ops:Array Oper}{id j:Nat}{s:St}{o:Oper}{d:Dl}(h:lg P T ops id j s o d)(k:Kb s (id+128*j)):Kb (s.app o.dst d) (id+128*(j+1)):=by
 obtain⟨h1,h2,_⟩:=jn h;refine⟨fun b cs hb=>?_,fun τ R hτ=>?_⟩
 ·rw[St.iw,cj] at hb
  cases hq:lk d.bs b with
  | some x=>
   rcases h1 b x hq with⟨_,c0,hc⟩|h
   ·have:=k.1 b c0 hc;omega
   ·omega
  | none=>
   rw[hq] at hb;have:=k.1 b cs hb;omega
 ·rw[St.gC,cj] at hτ
  cases hq:lk d.rs τ with
  | some x=>
   rcases h2 τ x hq with⟨_,c0,hc⟩|h
   ·have:=k.2 τ c0 hc;omega
   ·omega
  | none=>
   rw[hq] at hτ;have:=k.2 τ R hτ;omega
theorem mg {ops:Array Oper}{id:Nat}{s0:St}{L:List (Oper × Dl)}(h:eL P T ops id s0 L)(k:Kb s0 id):∀ j,j<=L.length->Kb (bM s0 (L.take j)) (id+128*j)
 | 0,_=>by simpa [bM] using k
 | j+1,hj=>by
  have ih:=mg h k j (by omega);obtain⟨o,d,Hr⟩:∃ o d,L[j]? = some (o,d):=⟨(L[j]'(by omega)).1,(L[j]'(by omega)).2,by rw[cD]⟩
  rw[List.take_add_one,Hr,Option.toList_some,ek];exact Kb.app (h j o d Hr) ih
omit [GlC O] in
theorem ca.kb {E:Env}{w:World}{n0 N:Nat}{st:St}{a:Act}(r:ca O E w n0 N st.nx st a):Kb st st.nx:=⟨r.sc.fb,r.sc.fr⟩
theorem Sc.mono {m m':Nat}{st:St}(h:Sc m st)(hm:m<=m'):Sc m' st:=⟨h.sb,h.sr,h.br,fun b cs hb=>cd (h.fb b cs hb) hm,fun τ R hR=>cd (h.fr τ R hR) hm,h.rl⟩
omit [GlC O] in
theorem ca.mono {E:Env}{w:World}{n0 N m m':Nat}{st:St}{a:Act}(r:ca O E w n0 N m st a)(hm:m<=m'):ca O E w n0 N m' st a:=⟨r.xc,r.sz,r.slt,r.box,r.row,r.sc.mono hm,r.hi,r.mi,r.gh,r.Vf,r.Ju,r.sn⟩
theorem jY {N:Nat}{ops:Array Oper}{draw:Bool}(h:jG N ops draw=true){j:Nat}{o:Oper}(hj:ops[j]? = some o):∀ x,o.dst=some x->x < N:=fun x hx=>by
 unfold jG at h;rw[ag] at h;have h1:=aN.1 h.1 o (by rw[<- cp] at hj;exact aU hj);rw[hx] at h1;exact Nb h1
theorem qh (hT:dg P T){ops:Array Oper}{N n0 id m:Nat}{s0:St}{L:List (Oper × Dl)}(il:jG N ops false=true)(hL:L.map (·.1)=ops.toList)(hp:eL P T ops id s0 L)(k:Kb s0 id)(hm:id+128*ops.size<=m){Q:Exit->Act->World->Prop} :
  ∀ (n j:Nat) (E:Env) (w:World) (a:Act),j+n=ops.size->ca O E w n0 N m (bM s0 (L.take j)) a->(∀ E' w' a',ca O E' w' n0 N m (bM s0 L) a'->Below n0 w w'->Q .normal a' w')->wpOps P ops Q (List.range' j n) a w:=by
 have hlen:L.length=ops.size:=by rw[<- Lm (f:=(·.1)),hL,bD]
 intro n
 induction n with
 | zero=>
  intro j E w a hj r hQ;have nE:j=L.length:=by omega
  subst nE;rw[bm] at r;exact hQ E w a r (Below.refl _ _)
 | succ n ih=>
  intro j E w a hj r hQ;have aS:j < L.length:=by omega
  obtain⟨o,d,Hr⟩:∃ o d,L[j]? = some (o,d):=⟨(L[j]'aS).1,(L[j]'aS).2,by rw[cD]⟩
  have sg:ops[j]? = some o:=by
   rw[<- cp,<- hL,bp,Hr];rfl
  rw[List.range'_succ,wpOps_cons];refine Bq hT r sg (jY il sg) (mg hp k j (by omega)).fresh (by omega) (hp j o d Hr) fun E' v w' r' hb=>?_;refine ih (j+1) E' w' _ (by omega) ?_ fun E2 w2 a2 r2 dD=>hQ E2 w2 a2 r2 (hb.trans dD);rw[List.take_add_one,Hr,Option.toList_some,ek];exact r'
end
section
variable {P:Program}{T:Nat->Option Ty}{O:gD}[GlC O]
def pQ {α:Type}(D:Nat->Bool):Nat->List α->List α
  | _,[]=>[]
  | i,p :: r=>bif D i then p :: pQ D (i+1) r else pQ D (i+1) r
theorem abB {α:Type}{D D':Nat->Bool}{f:α->Bool}:∀ {L:List α} {i:Nat},(∀ k p,L[k]? = some p->f p=true->D (i+k)=D' (i+k))->(pQ D i L).filter f=(pQ D' i L).filter f
  | [],_,_=>rfl
  | p :: r,i,h=>by
    have ih:(pQ D (i+1) r).filter f=(pQ D' (i+1) r).filter f:=abB fun k q hk hf=>by
      have:=h (k+1) q (by simpa using hk) hf
      rwa [show i+(k+1)=i+1+k by omega] at this
    unfold pQ
    by_cases hf:f p=true
    · have:=h 0 p rfl hf
      rw[cO] at this;rw[this]
      cases D' i
      · exact ih
      · simp only[cond_true]
        rw[List.filter_cons_of_pos hf,List.filter_cons_of_pos hf,ih]
    · cases D i <;> cases D' i <;> simp only[cond_true,cond_false] <;> simp[hf,ih]
theorem zg {α:Type}{D:Nat->Bool}:∀ {L:List α} {i:Nat},(∀ k,k < L.length->D (i+k)=true)->pQ D i L=L
  | [],_,_=>rfl
  | p :: r,i,h=>by
    unfold pQ;have:=h 0 (by simp);rw[cO] at this
    rw[this,zg fun k hk=>by
      have:=h (k+1) (by simp;omega)
      rwa [show i+(k+1)=i+1+k by omega] at this]
    rfl
theorem nj {α:Type}{D:Nat->Bool}:∀ {L:List α} {i:Nat},(∀ k,k < L.length->D (i+k)=false)->pQ D i L=[]
  | [],_,_=>rfl
  | p :: r,i,h=>by
    unfold pQ;have:=h 0 (by simp);rw[cO] at this
    rw[this,nj fun k hk=>by
      have:=h (k+1) (by simp;omega)
      rwa [show i+(k+1)=i+1+k by omega] at this]
    rfl
theorem o4 {α:Type}{D:Nat->Bool}:∀ {L M:List α} {i:Nat},pQ D i (L++M)=pQ D i L++pQ D (i+L.length) M
  | [],M,i=>by simp[pQ]
  | p :: r,M,i=>by
    show(bif D i then p :: pQ D (i+1) (r++M) else pQ D (i+1) (r++M))=(bif D i then p :: pQ D (i+1) r else pQ D (i+1) r)++pQ D (i+(p :: r).length) M;rw[o4 (L:=r),aq,show i+1+r.length=i+(r.length+1) by omega]
    cases D i <;> rfl
theorem Lu {α:Type}(L:List α)(j:Nat):pQ (fun k=>decide (k < j)) 0 L=L.take j:=by
  rw[<- List.take_append_drop j L,o4,zg,nj]
  · rw[aZ]
    by_cases h:j<=L.length
    · rw[List.take_left']
      rw[aB];omega
    · rw[List.drop_of_length_le (by omega),aZ,List.take_take,Nat.min_self]
  · intro k hk
    rw[aL] at hk;rw[aB];simp;omega
  · intro k hk
    rw[aB] at hk;simp;omega
theorem Lv {α:Type}{D:Nat->Bool}{L:List α}{j:Nat}{p:α}(hj:L[j]? = some p)(h1:D j=true)(h2:∀ k,j < k->D k=false):pQ D 0 L=pQ D 0 (L.take j)++[p]:=by
  have hl:=(an.1 hj).1
  have e:L=L.take j++(p :: L.drop (j+1)):=by
    rw[<- (an.1 hj).2,<- dw hl,List.take_append_drop]
  conv=>lhs;rw[e]
  rw[o4];congr 1;have aS:0+(L.take j).length=j:=by rw[aB];omega
  rw[aS];unfold pQ;rw[h1,nj fun k _=>h2 _ (by omega)];rfl
theorem get_filter (t:Nat):∀ (M:List (Oper × Dl)) (s s':St),s.get t=s'.get t->(bM s M).get t=(bM s' (M.filter fun p=>p.1.dst==some t)).get t
  | [],_,_,h=>h
  | (o,d) :: M,s,s',h=>by
    show(bM (s.app o.dst d) M).get t=_
    by_cases hd:o.dst=some t
    · rw[List.filter_cons_of_pos (by simp[hd])]
      exact get_filter t M _ _ (by rw[St.gj,St.gj,if_pos hd,if_pos hd])
    · rw[List.filter_cons_of_neg (by simp[hd])]
      exact get_filter t M _ _ (by rw[St.gj,if_neg hd,h])
theorem oq (b:Nat):∀ (M:List (Oper × Dl)) (s s':St),lk s.bx b=lk s'.bx b->lk (bM s M).bx b=lk (bM s' (M.filter fun p=>(lk p.2.bs b).isSome)).bx b
  | [],_,_,h=>h
  | (o,d) :: M,s,s',h=>by
    show lk (bM (s.app o.dst d) M).bx b=_
    cases hd:lk d.bs b with
    | some x=>
      rw[List.filter_cons_of_pos (by simp[hd])];exact oq b M _ _ (by rw[St.iw,St.iw,cj,cj,hd])
    | none=>
      rw[List.filter_cons_of_neg (by simp[hd])];exact oq b M _ _ (by rw[St.iw,cj,hd];exact h)
theorem nT (b:Nat):∀ (M:List (Oper × Dl)) (s s':St),lk s.rw b=lk s'.rw b->lk (bM s M).rw b=lk (bM s' (M.filter fun p=>(lk p.2.rs b).isSome)).rw b
  | [],_,_,h=>h
  | (o,d) :: M,s,s',h=>by
    show lk (bM (s.app o.dst d) M).rw b=_
    cases hd:lk d.rs b with
    | some x=>
      rw[List.filter_cons_of_pos (by simp[hd])];exact nT b M _ _ (by rw[St.gC,St.gC,cj,cj,hd])
    | none=>
      rw[List.filter_cons_of_neg (by simp[hd])];exact nT b M _ _ (by rw[St.gC,cj,hd];exact h)
abbrev lT (s0:St)(L:List (Oper × Dl))(D:Nat->Bool):St:=bM s0 (pQ D 0 L)
theorem sk {s0:St}{L:List (Oper × Dl)}{D D':Nat->Bool}{t:Nat}(h:∀ k o d,L[k]? = some (o,d)->o.dst=some t->D k=D' k):(lT s0 L D).get t=(lT s0 L D').get t:=by
  unfold lT;rw[get_filter t _ s0 s0 rfl,get_filter t (pQ D' 0 L) s0 s0 rfl,abB];intro k p hk hf;rw[bu];exact h k p.1 p.2 hk (by simpa using hf)
theorem wS {s0:St}{L:List (Oper × Dl)}{D D':Nat->Bool}{b:Nat}(h:∀ k o d cs,L[k]? = some (o,d)->lk d.bs b=some cs->D k=D' k):lk (lT s0 L D).bx b=lk (lT s0 L D').bx b:=by
  unfold lT;rw[oq b _ s0 s0 rfl,oq b (pQ D' 0 L) s0 s0 rfl,abB];intro k p hk hf;rw[bu];obtain⟨cs,dL⟩:=Option.isSome_iff_exists.1 hf;exact h k p.1 p.2 cs hk dL
theorem vm {s0:St}{L:List (Oper × Dl)}{D D':Nat->Bool}{b:Nat}(h:∀ k o d cs,L[k]? = some (o,d)->lk d.rs b=some cs->D k=D' k):lk (lT s0 L D).rw b=lk (lT s0 L D').rw b:=by
  unfold lT;rw[nT b _ s0 s0 rfl,nT b (pQ D' 0 L) s0 s0 rfl,abB];intro k p hk hf;rw[bu];obtain⟨cs,dL⟩:=Option.isSome_iff_exists.1 hf;exact h k p.1 p.2 cs hk dL
theorem SB {acc:List Nat}{o:Oper}{i:Nat}(h:(anc acc o).testBit i=true):∃ e∈o.after,Region.binds .any e=true/\(e.on=i\/(acc.getD e.on 0).testBit i=true):=by
  have key:∀ (es:List Edge) (s:Nat),(es.foldl (fun s e=>bif Region.binds .any e then s ||| 2 ^ e.on ||| acc.getD e.on 0 else s) s).testBit i=true->s.testBit i=true\/∃ e∈es,Region.binds .any e=true/\(e.on=i\/(acc.getD e.on 0).testBit i=true):=by
    intro es
    induction es with
    | nil=>intro s h;exact .inl h
    | cons e es ih=>
      intro s h;rw[List.foldl_cons] at h;rcases ih _ h with h|⟨e',h1,h2⟩
      · cases hb:Region.binds .any e with
        | false=>rw[hb] at h;exact .inl h
        | true=>
          rw[hb] at h;simp only[cond_true,Nat.testBit_or,cm,Nat.testBit_two_pow,decide_eq_true_eq] at h;rcases h with(h|h)|h
          · exact .inl h
          · exact .inr ⟨e,aC,hb,.inl h⟩
          · exact .inr ⟨e,aC,hb,.inr h⟩
      · exact .inr ⟨e',aK _ h1,h2⟩
  rcases key o.after.toList 0 h with h|⟨e,h1,h2⟩
  · simp at h
  · exact⟨e,Array.mem_toList_iff.1 h1,h2⟩
def Xw (ops:List Oper)(D:Nat->Bool):Prop:=∀ j o,ops[j]? = some o->D j=true->∀ e∈o.after,Region.binds .any e=true->D e.on=true
theorem Dz {ops:List Oper}{D:Nat->Bool}(hc:Xw ops D):∀ (r:List Oper) (acc:List Nat),(∀ k,(r[k]?:Option Oper)=ops[acc.length+k]?)->(∀ j i,D j=true->(acc.getD j 0).testBit i=true->D i=true)->∀ j i,D j=true->((pq r acc).getD j 0).testBit i=true->D i=true
  | [],acc,_,ha=>ha
  | o :: r,acc,hr,ha=>by
    refine Dz hc r (acc++[anc acc o]) (fun k=>?_) (fun j i hj hb=>?_)
    · have:=hr (k+1)
      rw[List.getElem?_cons_succ] at this;rw[this,au];congr 1;simp only[aq,aw];omega
    · rw[List.getD_eq_getElem?_getD] at hb
      by_cases hl:j < acc.length
      · rw[bn hl,<- List.getD_eq_getElem?_getD] at hb
        exact ha j i hj hb
      · rw[aY (by omega)] at hb
        by_cases hz:j=acc.length
        · rw[hz,Nat.sub_self] at hb
          obtain⟨e,he,h1,h2⟩:=SB (o:=o) (acc:=acc) (by simpa using hb)
          have ho:ops[j]? = some o:=by
            have:=hr 0;rw[cO,<- hz] at this;exact this.symm
          have hd:=hc j o ho hj e he h1;rcases h2 with h2|h2
          · rw[<- h2];exact hd
          · exact ha e.on i hd h2
        · rw[dy (by simp only[aq,aw];omega)] at hb
          simp at hb
theorem Ij {ops:List Oper}{D:Nat->Bool}(hc:Xw ops D){j i:Nat}(hj:D j=true)(hb:((pq ops []).getD j 0).testBit i=true):D i=true:=
  Dz hc ops [] (fun k=>by simp) (fun j i _ h=>by simp at h) j i hj hb
def iy (D:Nat->Bool)(j:Nat):Nat->Bool:=fun k=>D k||Nat.beq k j
theorem qa {ops:List Oper}{D:Nat->Bool}{j i:Nat}(hc:Xw ops D)(mZ:Xw ops (iy D j))(hj:D j=false)(gX:i≠j)(ho:ordered (pq ops []) i j=true\/ordered (pq ops []) j i=true):D i=decide (i < j):=by
  have ho:(((pq ops []).getD (max i j) 0).testBit (min i j))=true:=by
    rcases ho with h|h
    · exact h
    · unfold ordered at h
      rwa [Nat.max_comm,Nat.min_comm] at h
  by_cases aS:i < j
  · rw[Nat.max_eq_right (by omega),Nat.min_eq_left (by omega)] at ho
    have h1:=Ij mZ (j:=j) (by simp[iy]) ho;simp only[iy,cm] at h1;rcases h1 with h1|h1
    · rw[h1];simp[aS]
    · exact absurd (ah h1) gX
  · rw[Nat.max_eq_left (by omega),Nat.min_eq_right (by omega)] at ho
    cases hq:D i with
    | false=>simp[aS]
    | true=>
      rw[Ij hc hq ho] at hj
      cases hj
theorem nO {α:Type}{f:α × Nat->Bool}{l:List α}(h:l.zipIdx.all f=true){j:Nat}{x:α}(hj:l[j]? = some x):f (x,j)=true:=by
  refine aN.1 h (x,j) ?_;rw[List.mem_zipIdx_iff_getElem?];exact hj
theorem pk:∀ {ops:List Oper},(Ka ops).Nodup->∀ (i j:Nat) (x y:Oper) t,ops[i]? = some x->ops[j]? = some y->x.dst=some t->y.dst=some t->i=j
  | [],_,i,j,x,y,t,h,_,_,_=>by simp at h
  | o :: r,hn,i,j,x,y,t,hi,hj,hx,hy=>by
    have mem:∀ (k:Nat) (z:Oper),r[k]? = some z->z.dst=some t->t∈Ka r:=fun k z hk hz=>List.mem_filterMap.2 ⟨z,aU hk,hz⟩
    have Ae:(Ka r).Nodup/\(∀ d,o.dst=some d->d∉Ka r):=by
      unfold Ka at hn ⊢
      cases hd:o.dst with
      | none=>
        rw[List.filterMap_cons_none hd] at hn;exact⟨hn,fun _ h=>by cases h⟩
      | some d=>
        rw[List.filterMap_cons_some hd,List.nodup_cons] at hn;exact⟨hn.2,fun _ h=>by cases h;exact hn.1⟩
    rcases i with _|i <;> rcases j with _|j
    · rfl
    · cases hi
      exact absurd (mem j y (by simpa using hj) hy) (Ae.2 t hx)
    · cases hj
      exact absurd (mem i x (by simpa using hi) hx) (Ae.2 t hy)
    · have:=pk Ae.1 i j x y t (by simpa using hi) (by simpa using hj) hx hy
      omega
def KO (D:Nat->Bool):Nat->Nat
  | 0=>0
  | n+1=>KO D n+(bif D n then 0 else 1)
theorem Ig {D:Nat->Bool}{j:Nat}(hj:D j=false):∀ n,KO (iy D j) n+(if j < n then 1 else 0)=KO D n
  | 0=>by simp[KO]
  | n+1=>by
    have ih:=Ig hj n;unfold KO
    by_cases h:j=n
    · subst h
      have e:iy D j j=true:=by simp[iy]
      rw[e,hj];simp at ih ⊢;exact ih
    · have e:iy D j n=D n:=by
        have:Nat.beq n j=false:=by
          cases hb:Nat.beq n j
          · rfl
          · exact absurd (ah hb).symm h
        simp[iy,this]
      rw[e]
      by_cases hl:j < n
      · rw[if_pos hl] at ih
        rw[if_pos (by omega)];omega
      · rw[if_neg hl] at ih
        rw[if_neg (by omega)];omega
theorem Dc {D:Nat->Bool}:∀ n,KO D n=0->∀ i,i < n->D i=true
  | 0,_,i,hi=>by omega
  | n+1,h,i,hi=>by
    unfold KO at h
    cases hd:D n with
    | false=>rw[hd] at h;simp at h
    | true=>
      rw[hd] at h
      by_cases e:i=n
      · rw[e];exact hd
      · exact Dc n (by simpa using h) i (by omega)
section
variable {ops:Array Oper}{N n0 id m:Nat}{s0:St}{L:List (Oper × Dl)}
theorem sK (hL:L.map (·.1)=ops.toList){j:Nat}{o:Oper}{d:Dl}(h:L[j]? = some (o,d)):ops.toList[j]? = some o:=by
  rw[<- hL,bp,h];rfl
theorem vY (hL:L.map (·.1)=ops.toList)(nD:vO T s0 (pq ops.toList []) ops.toList=true){i j:Nat}{oi oj:Oper}{di dj:Dl}(hi:L[i]? = some (oi,di))(hj:L[j]? = some (oj,dj))(mP:i≠j)(hhi:kP oi.op=true)(hhj:kP oj.op=true)(hm:cA T oi.op=true\/cA T oj.op=true) :
    ordered (pq ops.toList []) i j=true\/IJ T s0 ops.toList oi.op i oj.op j=true\/IJ T s0 ops.toList oj.op j oi.op i=true:=by
  have h:=nO nD (sK hL hi);simp only[hhi,Bool.not_true,Bool.false_or] at h;have h2:=nO h (sK hL hj);simp only[hhj,Bool.not_true,Bool.false_or,cm,cb] at h2;rcases h2 with((h2|h2)|h2)|h2
  · rcases hm with hm|hm <;> rw[hm] at h2 <;> simp at h2
  · exact absurd (ah h2) mP
  · exact .inl h2
  · exact .inr h2
theorem lv (hL:L.map (·.1)=ops.toList)(hp:eL P T ops id s0 L):∀ (j:Nat),j<=L.length->∀ (t r b o0:Nat),root (ops.toList.take j).reverse t=some r->s0.get r=.ptr b o0->(∃ o',(bM s0 (L.take j)).get t=.ptr b o')\/(bM s0 (L.take j)).get t=.fH []
  | 0,_,t,r,b,o0,h,hr=>by
    obtain rfl:t=r:=by simpa [root] using h
    exact .inl ⟨o0,hr⟩
  | j+1,hj,t,r,b,o0,h,hr=>by
    obtain⟨o,d,kZ⟩:∃ o d,L[j]? = some (o,d):=⟨(L[j]'(by omega)).1,(L[j]'(by omega)).2,by rw[cD]⟩
    have sg:=sK hL kZ;rw[List.take_add_one,sg] at h;simp only[Option.toList_some,List.reverse_append,List.reverse_cons,List.reverse_nil,bF,List.cons_append] at h;rw[List.take_add_one,kZ];simp only[Option.toList_some];rw[ek,St.gj];have step:=hp j o d kZ;unfold root at h
    by_cases hd:o.dst=some t
    · rw[if_pos hd]
      rw[hd] at h;simp only[isDst,Nat.beq_refl] at h;split at h
      · rename_i ty u f we
        have ih:=lv hL hp j (by omega) u r b o0 h hr;obtain⟨bb,h1,h2,h3⟩:=step
        cases bb with
        | false=>
          rw[h3 rfl];exact .inr rfl
        | true=>
          have hs:=h2 rfl;rw[we] at hs
          cases hs with
          | pure hv=>
            unfold dA at hv;rcases ih with⟨o',ih⟩|ih
            · simp only[ev,ih] at hv
              split at hv
              · split at hv
                · split at hv
                  · rename_i y _
                    cases hb:Nat.blt 0 y.sz with
                    | false=>rw[hb] at hv;cases hv
                    | true=>
                      rw[hb] at hv
                      cases hv
                      exact .inl ⟨_,rfl⟩
                  · cases hv
                · cases hv
              · cases hv
            · simp only[ev,ih] at hv
              split at hv
              · split at hv
                · split at hv
                  · rename_i y _
                    cases hb:Nat.blt 0 y.sz with
                    | false=>rw[hb] at hv;cases hv
                    | true=>rw[hb] at hv;cases hv
                  · cases hv
                · cases hv
              · cases hv
      · cases h
    · rw[if_neg hd]
      have hb:isDst t o.dst=false:=by
        cases hq:o.dst with
        | none=>rfl
        | some t'=>
          cases hb:Nat.beq t' t
          · exact hb
          · exact absurd (by rw[hq,ah hb]) hd
      rw[hb] at h;exact lv hL hp j (by omega) t r b o0 h hr
theorem xN {j:Nat}{s:St}{o:Oper}{d:Dl}{t:Nat}{a x:Operand}(h:lg P T ops id j s o d)(ho:o.op=.store t a x)(ha:ev s a=.fH []):d.bs=[]/\d.rs=[]:=by
  obtain⟨b,_,h2,h3⟩:=h
  cases b with
  | false=>rw[h3 rfl];exact⟨rfl,rfl⟩
  | true=>
    have:=h2 rfl;rw[ho] at this
    cases this with
    | pure hv=>cases hv
    | oW _ _ _ h4=>rw[ha] at h4;cases h4
    | oU _ _ _ h4=>rw[ha] at h4;cases h4
    | oV _ _ _ h4=>rw[ha] at h4;cases h4
theorem nY {j:Nat}{s:St}{o:Oper}{d:Dl}{t:Nat}{x:Operand}(h:lg P T ops id j s o d)(ho:o.op=.load t x):d.bs=[]/\d.rs=[]:=by
  obtain⟨b,_,h2,h3⟩:=h
  cases b with
  | false=>rw[h3 rfl];exact⟨rfl,rfl⟩
  | true=>
    have:=h2 rfl;rw[ho] at this
    cases this with
    | pure _=>exact⟨rfl,rfl⟩
    | yn=>exact⟨rfl,rfl⟩
    | yo=>exact⟨rfl,rfl⟩
    | ym=>exact⟨rfl,rfl⟩
theorem xO {j:Nat}{s:St}{o:Oper}{d:Dl}{t b0 o0:Nat}{a x:Operand}(h:lg P T ops id j s o d)(ho:o.op=.store t a x)(ha:ev s a=.ptr b0 o0):(∀ b cs,lk d.bs b=some cs->b=b0)/\d.rs=[]:=by
  obtain⟨b,_,h2,h3⟩:=h
  cases b with
  | false=>rw[h3 rfl];exact⟨fun _ _ h=>(by cases h),rfl⟩
  | true=>
    have:=h2 rfl;rw[ho] at this
    cases this with
    | pure hv=>cases hv
    | oW _ _ _ h4 _ _=>
      rw[ha] at h4
      cases h4
      refine⟨fun b cs hb=>?_,rfl⟩
      by_cases e:b0=b
      · exact e.symm
      · rw[bZ,if_neg e] at hb
        cases hb
    | oU _ _ _ h4=>rw[ha] at h4;cases h4
    | oV _ _ _ h4=>rw[ha] at h4;cases h4
theorem Ls (hL:L.map (·.1)=ops.toList)(hp:eL P T ops id s0 L){i j:Nat}{oi oj:Oper}{di dj:Dl}(hi:L[i]? = some (oi,di))(hj:L[j]? = some (oj,dj))(h:Ug s0 ops.toList oi.op i oj.op j=true) :
    di.rs=[]/\dj.bs=[]/\dj.rs=[]/\∀ b cs,lk di.bs b=some cs->∀ x∈oj.op.operands,b∉(ev (bM s0 (L.take j)) x).dJ:=by
  unfold Ug at h;split at h
  · rename_i t a x t' c e1 e2
    split at h
    · rename_i r r' hr VD
      split at h
      · rename_i b1 p1 b2 p2 g1 g2
        have lU:=(an.1 hi).1;have nE:=(an.1 hj).1;have k1:=lv hL hp i (by omega) a r b1 p1 hr g1;have k2:=lv hL hp j (by omega) c r' b2 p2 VD g2;obtain⟨l1,l2⟩:=nY (hp j oj dj hj) e2;rcases k1 with⟨q1,k1⟩|k1
        · obtain⟨s1,s2⟩:=xO (hp i oi di hi) e1 (show ev _ (.tmp a)=_ from k1)
          refine⟨s2,l1,l2,fun b cs hb x hx hm=>?_⟩;rw[e2] at hx;have KJ:x=.tmp c:=by simpa [Op.operands] using hx
          subst KJ;rcases k2 with⟨q2,k2⟩|k2
          · rw[show ev (bM s0 (L.take j)) (.tmp c)=.ptr b2 q2 from k2] at hm
            have:b=b2:=by simpa [AV.dJ,AV.gA] using hm
            have h3:=s1 b cs hb;rw[show b1=b2 by omega] at h;simp at h
          · rw[show ev (bM s0 (L.take j)) (.tmp c)=.fH [] from k2] at hm
            simp[AV.dJ] at hm
        · obtain⟨s1,s2⟩:=xN (hp i oi di hi) e1 (show ev _ (.tmp a)=_ from k1)
          refine⟨s2,l1,l2,fun b cs hb=>?_⟩;rw[s1] at hb
          cases hb
      · cases h
    · cases h
  · cases h
theorem nU (hL:L.map (·.1)=ops.toList)(hp:eL P T ops id s0 L):∀ (j:Nat),j<=L.length->∀ (t r:Nat),vq (ops.toList.take j).reverse t=some r->(bM s0 (L.take j)).get t=s0.get r
  | 0,_,t,r,h=>by
    obtain rfl:t=r:=by simpa [vq] using h
    rfl
  | j+1,hj,t,r,h=>by
    obtain⟨o,d,kZ⟩:∃ o d,L[j]? = some (o,d):=⟨(L[j]'(by omega)).1,(L[j]'(by omega)).2,by rw[cD]⟩
    have sg:=sK hL kZ;rw[List.take_add_one,sg] at h;simp only[Option.toList_some,List.reverse_append,List.reverse_cons,List.reverse_nil,bF,List.cons_append] at h;rw[List.take_add_one,kZ];simp only[Option.toList_some];rw[ek,St.gj];have step:=hp j o d kZ;unfold vq at h
    by_cases hd:o.dst=some t
    · rw[if_pos hd]
      rw[hd] at h;simp only[isDst,Nat.beq_refl] at h;split at h
      · rename_i u we uI
        have ih:=nU hL hp j (by omega) u r h;obtain⟨bb,h1,h2,h3⟩:=step;unfold F3 at h1;rw[uI] at h1;have hs:=h2 h1;rw[we] at hs
        cases hs with
        | pure hv=>
          unfold dA at hv;injection hv with hv;rw[<- ih];exact hv.symm
      · cases h
    · rw[if_neg hd]
      have hb:isDst t o.dst=false:=by
        cases hq:o.dst with
        | none=>rfl
        | some t'=>
          cases hb:Nat.beq t' t
          · exact hb
          · exact absurd (by rw[hq,ah hb]) hd
      rw[hb] at h;exact nU hL hp j (by omega) t r h
theorem G0 {n:Nat}:∀ {l:List Nat},n∈l->oC n l=true
  | m :: r,h=>by
    unfold oC
    cases hb:Nat.beq m n with
    | true=>rfl
    | false=>
      rcases List.mem_cons.1 h with h|h
      · subst h
        rw[Nat.beq_refl] at hb
        cases hb
      · exact G0 h
theorem wZ (hL:L.map (·.1)=ops.toList)(hp:eL P T ops id s0 L){i b:Nat}(hi:i<=L.length){x:Operand}(h:apart s0 ops.toList b i x=true):b∉(ev (bM s0 (L.take i)) x).dJ:=fun hm=>by
  cases x with
  | tmp t=>
    simp only[apart] at h;split at h
    · rename_i r hr
      rw[show ev (bM s0 (L.take i)) (.tmp t)=(bM s0 (L.take i)).get t from rfl,nU hL hp i hi t r hr] at hm;rw[G0 hm] at h
      cases h
    · cases h
  | const v=>
    simp only[ev] at hm;split at hm <;> simp[AV.dJ,AV.gA] at hm
  | func f=>simp[ev,AV.dJ,AV.gA] at hm
  | global g=>simp[ev,AV.dJ,AV.gA] at hm
theorem Dk (hL:L.map (·.1)=ops.toList)(hp:eL P T ops id s0 L){i b:Nat}{o:Oper}{d:Dl}(hi:L[i]? = some (o,d))(h:qA s0 ops.toList b i o.op=true):∀ cs,lk d.bs b≠some cs:=fun cs hc=>by
  have lU:i<=L.length:=cG (an.1 hi).1;unfold qA at h;split at h
  · rename_i f args qM we
    rw[ag] at h;obtain⟨bb,_,h2,h3⟩:=hp i o d hi
    cases bb with
    | false=>rw[h3 rfl] at hc;cases hc
    | true=>
      have hs:=h2 rfl;rw[we] at hs
      cases hs with
      | pure hv=>cases hv
      | call=>cases hc
      | @wR f args qM g vs dH mb mr ib ir rv ob fa nr h1 _ _ _ h5 _=>
        obtain⟨k1,_⟩:=GN h5;obtain⟨v,hv,V7⟩:=List.mem_flatMap.1 (k1 b (vD hc));have ha:∀ x∈args.toList,b∉(ev (bM s0 (L.take i)) x).dJ:=fun x hx=>wZ hL hp lU (aN.1 h.2 x hx);have hf:=wZ hL hp lU h.1;unfold oO at h1;split at h1
        · rename_i g' caps e
          rw[e] at hf
          cases h1
          rcases aX.1 hv with hv|hv
          · obtain⟨x,hx,rfl⟩:=bA.1 hv
            exact ha x hx V7
          · obtain⟨c,mZ,rfl⟩:=bA.1 hv
            refine hf ?_;simp only[AV.dJ,AV.gA,aJ] at V7 ⊢;exact bA.2 ⟨c,mZ,V7.symm⟩
        · cases h1
          rcases aX.1 hv with hv|hv
          · obtain⟨x,hx,rfl⟩:=bA.1 hv
            exact ha x hx V7
          · obtain⟨c,mZ,rfl⟩:=bA.1 hv
            simp[AV.dJ,AV.gA] at V7
        · cases h1
  · rename_i we
    obtain⟨bb,_,h2,h3⟩:=hp i o d hi
    cases bb with
    | false=>rw[h3 rfl] at hc;cases hc
    | true=>
      have hs:=h2 rfl;rw[we] at hs
      cases hs with
      | pure hv=>cases hv
      | Kv=>cases hc
      | Ku=>cases hc
  · cases h
theorem Oj (hL:L.map (·.1)=ops.toList)(hp:eL P T ops id s0 L)(k0:Kb s0 id){b:Nat}{DV:List Ce}(h0:lk s0.bx b=some DV):∀ (j:Nat),j<=L.length->(((ops.toList.take j).zipIdx.all fun p=>!cA T p.1.op||qA s0 ops.toList b p.2 p.1.op)=true)->lk (bM s0 (L.take j)).bx b=some DV
  | 0,_,_=>h0
  | j+1,hj,h=>by
    obtain⟨o,d,kZ⟩:∃ o d,L[j]? = some (o,d):=⟨(L[j]'(by omega)).1,(L[j]'(by omega)).2,by rw[cD]⟩
    have sg:=sK hL kZ;have nE:j < ops.toList.length:=(an.1 sg).1;rw[List.take_add_one,sg,Option.toList_some,List.zipIdx_append,List.all_append,ag] at h;have ih:=Oj hL hp k0 h0 j (by omega) h.1;rw[List.take_add_one,kZ,Option.toList_some,ek]
    have e:((bM s0 (L.take j)).app o.dst d).bx=d.bs++(bM s0 (L.take j)).bx:=by
      unfold St.app
      cases o.dst <;> rfl
    rw[e,cj]
    cases hq:lk d.bs b with
    | none=>exact ih
    | some c=>
      have h2:=h.2;simp only[List.zipIdx_cons,List.zipIdx_nil,List.all_cons,List.all_nil,Bool.and_true,aB,Nat.min_eq_left (cG nE),bu,cm,cb] at h2;rcases(jn (hp j o d kZ)).1 b c hq with⟨hm,_⟩|uk
      · rcases h2 with h2|h2
        · rw[hm] at h2;cases h2
        · exact absurd hq (Dk hL hp kZ h2 c)
      · have:=k0.1 b DV h0
        omega
theorem yP (hL:L.map (·.1)=ops.toList)(hp:eL P T ops id s0 L):∀ (j:Nat),j<=L.length->∀ (t:Nat),qH (ops.toList.take j).reverse t=true->(∃ k o',(bM s0 (L.take j)).get t=.ptr (id+128*k) o')\/(bM s0 (L.take j)).get t=.fH []
  | 0,_,t,h=>by simp[qH] at h
  | j+1,hj,t,h=>by
    obtain⟨o,d,kZ⟩:∃ o d,L[j]? = some (o,d):=⟨(L[j]'(by omega)).1,(L[j]'(by omega)).2,by rw[cD]⟩
    have sg:=sK hL kZ;rw[List.take_add_one,sg] at h;simp only[Option.toList_some,List.reverse_append,List.reverse_cons,List.reverse_nil,bF,List.cons_append] at h;rw[List.take_add_one,kZ];simp only[Option.toList_some];rw[ek,St.gj];have step:=hp j o d kZ;unfold qH at h
    by_cases hd:o.dst=some t
    · rw[if_pos hd]
      rw[hd] at h;simp only[isDst,Nat.beq_refl] at h;split at h
      · rename_i ty we _
        obtain⟨bb,h1,h2,h3⟩:=step
        cases bb with
        | false=>
          rw[h3 rfl];exact .inr rfl
        | true=>
          have hs:=h2 rfl;rw[we] at hs
          cases hs with
          | pure hv=>cases hv
          | alloc _=>exact .inl ⟨j,0,rfl⟩
      · cases h
    · rw[if_neg hd]
      have hb:isDst t o.dst=false:=by
        cases hq:o.dst with
        | none=>rfl
        | some t'=>
          cases hb:Nat.beq t' t
          · exact hb
          · exact absurd (by rw[hq,ah hb]) hd
      rw[hb] at h;exact yP hL hp j (by omega) t h
theorem lz (hL:L.map (·.1)=ops.toList)(hp:eL P T ops id s0 L):∀ (j:Nat),j<=L.length->∀ (t r τ bo k i o0:Nat),sP (ops.toList.take j).reverse t=some r->s0.get r=.dF τ bo k i o0->∃ o',(bM s0 (L.take j)).get t=.dF τ bo k i o'
  | 0,_,t,r,τ,bo,k,i,o0,h,hr=>by
    obtain rfl:t=r:=by simpa [sP] using h
    exact⟨o0,hr⟩
  | j+1,hj,t,r,τ,bo,k,i,o0,h,hr=>by
    obtain⟨o,d,kZ⟩:∃ o d,L[j]? = some (o,d):=⟨(L[j]'(by omega)).1,(L[j]'(by omega)).2,by rw[cD]⟩
    have sg:=sK hL kZ;rw[List.take_add_one,sg] at h;simp only[Option.toList_some,List.reverse_append,List.reverse_cons,List.reverse_nil,bF,List.cons_append] at h;rw[List.take_add_one,kZ];simp only[Option.toList_some];rw[ek,St.gj];have step:=hp j o d kZ;unfold sP at h
    by_cases hd:o.dst=some t
    · rw[if_pos hd]
      rw[hd] at h;simp only[isDst,Nat.beq_refl] at h;obtain⟨bb,h1,h2,h3⟩:=step;unfold F3 at h1;split at h
      · rename_i ty u f we uI
        obtain⟨o',ih⟩:=lz hL hp j (by omega) u r τ bo k i o0 h hr;rw[uI] at h1;have hs:=h2 h1;rw[we] at hs
        cases hs with
        | pure hv=>
          unfold dA at hv;simp only[ev,ih] at hv;split at hv
          · split at hv
            · split at hv
              · rename_i y _
                cases hb:Nat.blt 0 y.sz with
                | false=>rw[hb] at hv;cases hv
                | true=>
                  rw[hb] at hv
                  cases hv
                  exact⟨_,rfl⟩
              · cases hv
            · cases hv
          · cases hv
      · rename_i u we uI
        obtain⟨o',ih⟩:=lz hL hp j (by omega) u r τ bo k i o0 h hr;rw[uI] at h1;have hs:=h2 h1;rw[we] at hs
        cases hs with
        | pure hv=>
          unfold dA at hv;simp only[ev,ih] at hv
          cases hv
          exact⟨_,rfl⟩
      · rename_i u we uI
        obtain⟨o',ih⟩:=lz hL hp j (by omega) u r τ bo k i o0 h hr;rw[uI] at h1;have hs:=h2 h1;rw[we] at hs
        cases hs with
        | pure hv=>
          unfold dA at hv;simp only[ev,ih] at hv
          cases hv
          exact⟨_,rfl⟩
      · cases h
    · rw[if_neg hd]
      have hb:isDst t o.dst=false:=by
        cases hq:o.dst with
        | none=>rfl
        | some t'=>
          cases hb:Nat.beq t' t
          · exact hb
          · exact absurd (by rw[hq,ah hb]) hd
      rw[hb] at h;exact lz hL hp j (by omega) t r τ bo k i o0 h hr
theorem II (hL:L.map (·.1)=ops.toList)(hp:eL P T ops id s0 L){j:Nat}{di:Dl}{oj:Oper}{dj:Dl}(hj:L[j]? = some (oj,dj))(h:Uf s0 ops.toList oj.op j=true) :
    dj.bs=[]/\dj.rs=[]/\(∀ b cs,lk di.bs b=some cs->∀ x∈oj.op.operands,b∉(ev (bM s0 (L.take j)) x).dJ)/\∀ τ R,lk di.rs τ=some R->∀ x∈oj.op.operands,(∀ p∈(ev (bM s0 (L.take j)) x).cB,p.1≠τ)/\∀ b∈(ev (bM s0 (L.take j)) x).dJ,∀ cs,lk (bM s0 (L.take j)).bx b=some cs->∀ p∈cs.flatMap Ce.cB,p.1≠τ:=by
  unfold Uf at h;split at h
  · rename_i t m y ok p e1 e2
    rw[sK hL hj] at e2
    cases e2
    simp only[ag,Option.isNone_iff_eq_none] at h;obtain⟨hg,h⟩:=h;split at h
    · rename_i r hr
      split at h
      · rename_i z JR
        have nE:=(an.1 hj).1;have k2:=nU hL hp j (by omega) m r hr;rw[JR] at k2;obtain⟨bb,h1,h2,h3⟩:=hp j oj dj hj;unfold F3 at h1;rw[hg] at h1;have hs:=h2 h1;rw[e1] at hs;have hm:ev (bM s0 (L.take j)) (.tmp m)=.c (.t z):=k2
        have fin:∀ v:Value,ev (bM s0 (L.take j)) y=.c (.t (.lit v))->∀ x∈oj.op.operands,(ev (bM s0 (L.take j)) x).dJ=[]/\(ev (bM s0 (L.take j)) x).cB=[]:=fun v hv x hx=>by
          rw[e1] at hx;have:x=.tmp m\/x=y:=by simpa [Op.operands] using hx
          rcases this with rfl|rfl
          · rw[hm];exact⟨rfl,rfl⟩
          · rw[hv];exact⟨rfl,rfl⟩
        cases hs with
        | pure hv=>cases hv
      · cases h
    · cases h
  · cases h
theorem Ly (hL:L.map (·.1)=ops.toList)(hp:eL P T ops id s0 L)(k0:Kb s0 id){τ:Nat}{R:Row}(h0:lk s0.rw τ=some R):∀ (j:Nat),j<=L.length->(((ops.toList.take j).all fun p=>!cA T p.op)=true)->lk (bM s0 (L.take j)).rw τ=some R
  | 0,_,_=>h0
  | j+1,hj,h=>by
    obtain⟨o,d,kZ⟩:∃ o d,L[j]? = some (o,d):=⟨(L[j]'(by omega)).1,(L[j]'(by omega)).2,by rw[cD]⟩
    have sg:=sK hL kZ;rw[List.take_add_one,sg,Option.toList_some,List.all_append,ag] at h;have ih:=Ly hL hp k0 h0 j (by omega) h.1;rw[List.take_add_one,kZ,Option.toList_some,ek,St.gC,cj]
    cases hq:lk d.rs τ with
    | none=>exact ih
    | some c=>
      have h2:=h.2;simp only[List.all_cons,List.all_nil,Bool.and_true,cb] at h2;rcases(jn (hp j o d kZ)).2.1 τ c hq with⟨hm,_⟩|uk
      · rw[hm] at h2;cases h2
      · have:=k0.2 τ R h0
        omega
theorem jX (hL:L.map (·.1)=ops.toList)(hp:eL P T ops id s0 L)(k0:Kb s0 id){i j:Nat}{oi oj:Oper}{di dj:Dl}(hi:L[i]? = some (oi,di))(hj:L[j]? = some (oj,dj))(h:IJ T s0 ops.toList oi.op i oj.op j=true) :
    dj.bs=[]/\dj.rs=[]/\(∀ b cs,lk di.bs b=some cs->∀ x∈oj.op.operands,b∉(ev (bM s0 (L.take j)) x).dJ)/\∀ τ R,lk di.rs τ=some R->∀ x∈oj.op.operands,(∀ p∈(ev (bM s0 (L.take j)) x).cB,p.1≠τ)/\∀ b∈(ev (bM s0 (L.take j)) x).dJ,∀ cs,lk (bM s0 (L.take j)).bx b=some cs->∀ p∈cs.flatMap Ce.cB,p.1≠τ:=by
  unfold IJ at h;rcases cm _ _▸h with h|h
  · obtain⟨h1,h2,h3,h4⟩:=Ls hL hp hi hj h
    exact⟨h2,h3,h4,fun τ R hR=>by rw[h1] at hR;cases hR⟩
  rcases cm _ _▸h with h|h
  case inr=>
   rcases cm _ _▸h with h|h
   case inr=>
    rcases cm _ _▸h with h|h
    case inr=>exact II hL hp hj h
    unfold X0 at h;split at h
    · rename_i g args qM ty c e1 e2
      simp only[ag] at h;obtain⟨hg,eZ,h⟩:=h;split at h
      · rename_i r hr
        split at h
        · rename_i τ bo k p0 o0 JR
          split at h
          · rename_i R hR
            have lU:=(an.1 hi).1;have nE:=(an.1 hj).1;have hτ:=k0.2 τ R hR;have hRi:=Ly hL hp k0 hR i (by omega) eZ;obtain⟨o',k2⟩:=lz hL hp j (by omega) c r τ bo k p0 o0 hr JR;obtain⟨l1,l2⟩:=nY (hp j oj dj hj) e2
            have we:∀ x∈oj.op.operands,x=.tmp c:=fun x hx=>by
              rw[e2] at hx;simpa [Op.operands] using hx
            have aeR:lk di.rs τ=none:=by
              cases hq:lk di.rs τ with
              | none=>rfl
              | some R'=>
                exfalso;obtain⟨bb,_,h2,h3⟩:=hp i oi di hi
                cases bb with
                | false=>rw[h3 rfl] at hq;cases hq
                | true=>
                  have hs:=h2 rfl;rw[e1] at hs
                  cases hs with
                  | pure hv=>cases hv
                  | call q1 q2 q3 q4=>
                    rw[eG] at hq;split at hq
                    · omega
                    · cases hq
                  | wR q1 q2 q3 q4 q5 q6=>
                    rw[cj] at hq;split at hq
                    · rename_i x hx
                      obtain⟨p,hpm,hpe⟩:=bA.1 (vC hx);obtain⟨R0,g1,g2⟩:=UT q5 hg p hpm;rw[hpe,hRi] at g1
                      cases g1
                      rw[g2] at h;simp at h
                    · rw[eG] at hq
                      split at hq
                      · omega
                      · cases hq
            refine⟨l1,l2,fun b2 cs hb x hx hm=>?_,fun τ2 R2 TG x hx=>?_⟩
            · rw[we x hx,show ev (bM s0 (L.take j)) (.tmp c)=_ from k2] at hm
              simp[AV.dJ,AV.gA] at hm
            · rw[we x hx,show ev (bM s0 (L.take j)) (.tmp c)=_ from k2]
              refine⟨fun p hp e=>?_,fun b2 dD=>by simp[AV.dJ,AV.gA] at dD⟩;have:p=(τ,bo):=by simpa [AV.cB,AV.gu] using hp
              subst this;have e:τ=τ2:=e;rw[<- e,aeR] at TG
              cases TG
          · cases h
        · cases h
      · cases h
    · cases h
   case inl=>
    unfold X2 at h;split at h
    · rename_i t a x t' c e1 e2
      simp only[ag] at h;obtain⟨ha,h⟩:=h;split at h
      · rename_i r hr
        split at h
        · rename_i b q hg
          split at h
          · rename_i DV VZ
            have lU:=(an.1 hi).1;have nE:=(an.1 hj).1;have O9:=k0.1 b DV VZ;have k1:=yP hL hp i (by omega) a ha;have k2:=lv hL hp j (by omega) c r b q hr hg;obtain⟨l1,l2⟩:=nY (hp j oj dj hj) e2
            have we:∀ x∈oj.op.operands,x=.tmp c:=fun x hx=>by
              rw[e2] at hx;simpa [Op.operands] using hx
            rcases k1 with⟨k,q1,k1⟩|k1
            · obtain⟨s1,s2⟩:=xO (hp i oi di hi) e1 (show ev _ (.tmp a)=_ from k1)
              refine⟨l1,l2,fun b2 cs hb x hx hm=>?_,fun τ R hR=>by rw[s2] at hR;cases hR⟩;rw[we x hx] at hm;rcases k2 with⟨q2,k2⟩|k2
              · rw[show ev (bM s0 (L.take j)) (.tmp c)=.ptr b q2 from k2] at hm
                have:b2=b:=by simpa [AV.dJ,AV.gA] using hm
                have:=s1 b2 cs hb;omega
              · rw[show ev (bM s0 (L.take j)) (.tmp c)=.fH [] from k2] at hm
                simp[AV.dJ] at hm
            · obtain⟨s1,s2⟩:=xN (hp i oi di hi) e1 (show ev _ (.tmp a)=_ from k1)
              exact⟨l1,l2,(fun b2 cs hb=>by rw[s1] at hb;cases hb),(fun τ R hR=>by rw[s2] at hR;cases hR)⟩
          · cases h
        · cases h
      · cases h
    · cases h
  unfold X1 at h;split at h
  · rename_i t c e2
    split at h
    · rename_i r hr
      split at h
      · rename_i b q hg
        have nE:j<=L.length:=cG (an.1 hj).1;have k2:=lv hL hp j nE c r b q hr hg;obtain⟨l1,l2⟩:=nY (hp j oj dj hj) e2;simp only[ag] at h;obtain⟨h1,h2,h3⟩:=h;split at h2
        · rename_i DV VZ
          have hbx:=Oj hL hp k0 VZ j nE h3
          have we:∀ x∈oj.op.operands,x=.tmp c:=fun x hx=>by
            rw[e2] at hx;simpa [Op.operands] using hx
          refine⟨l1,l2,fun b2 cs hb x hx hm=>?_,fun τ R hR x hx=>?_⟩
          · rw[we x hx] at hm
            rcases k2 with⟨q2,k2⟩|k2
            · rw[show ev (bM s0 (L.take j)) (.tmp c)=.ptr b q2 from k2] at hm
              have:b2=b:=by simpa [AV.dJ,AV.gA] using hm
              subst this;exact Dk hL hp hi h1 cs hb
            · rw[show ev (bM s0 (L.take j)) (.tmp c)=.fH [] from k2] at hm
              simp[AV.dJ] at hm
          · rw[we x hx]
            rcases k2 with⟨q2,k2⟩|k2
            · rw[show ev (bM s0 (L.take j)) (.tmp c)=.ptr b q2 from k2]
              refine⟨fun p hp=>by simp[AV.cB,AV.gu] at hp,fun b2 dD cs dL p hp=>?_⟩;have:b2=b:=by simpa [AV.dJ,AV.gA] using dD
              subst this;rw[hbx] at dL
              cases dL
              rw[List.isEmpty_iff.1 h2] at hp
              cases hp
            · rw[show ev (bM s0 (L.take j)) (.tmp c)=.fH [] from k2]
              exact⟨fun p hp=>by simp[AV.cB] at hp,fun b2 dD=>by simp[AV.dJ] at dD⟩
        · cases h2
      · cases h
    · cases h
  · cases h
structure SN (P:Program)(T:Nat->Option Ty)(O:gD)(ops:Array Oper)(N n0 id m:Nat)(s0:St)(L:List (Oper × Dl))(D:Nat->Bool)(E:Env)(w:World)(a:Act):Prop where
  rep:ca O E w n0 N m (lT s0 L D) a
  ZY:Xw ops.toList D
  bx:∀ b cs,lk (lT s0 L D).bx b=some cs->b < id\/∃ i,D i=true/\id+128*i<=b/\b < id+128*i+128
  rw:∀ b cs,lk (lT s0 L D).rw b=some cs->b < id\/∃ i,D i=true/\id+128*i<=b/\b < id+128*i+128
theorem Wv (hT:dg P T)(il:jG N ops true=true)(nD:vO T s0 (pq ops.toList []) ops.toList=true)(hL:L.map (·.1)=ops.toList)(hp:eL P T ops id s0 L)(k0:Kb s0 id)(hm:id+128*ops.size<=m){Q:Exit->Act->World->Prop}{D:Nat->Bool}{E:Env}{w:World}{a:Act}(inv:SN P T O ops N n0 id m s0 L D E w a){j:Nat}{o:Oper}(sg:ops[j]? = some o)(KM:D j=false)(Ad:∀ e∈o.after,Region.binds .any e=true->D e.on=true){K:Act->World->Prop}
    (hK:∀ E' w' a',SN P T O ops N n0 id m s0 L (iy D j) E' w' a'->Below n0 w w'->K a' w'):wpOp P ops Q j K a w:=by
  have hlen:L.length=ops.size:=by rw[<- Lm (f:=(·.1)),hL,bD]
  have nE:j < ops.size:=(Array.getElem?_eq_some_iff.1 sg).1;unfold jG at il;simp only[Bool.not_true,Bool.false_or,ag,decide_eq_true_eq] at il;obtain⟨hN,⟨⟨adW,NA⟩,afJ⟩,n9⟩:=il;obtain⟨o',d,kZ⟩:∃ o d,L[j]? = some (o,d):=⟨(L[j]'(by omega)).1,(L[j]'(by omega)).2,by rw[cD]⟩
  have Fw:ops.toList[j]? = some o:=by rw[cp];exact sg
  obtain rfl:o'=o:=by
    have:=sK hL kZ;rw[Fw] at this;exact(aR this).symm
  have Y7:=hp j o' d kZ
  have CC:Xw ops.toList (iy D j):=fun i x hx RF e he hb=>by
    simp only[iy,cm] at RF ⊢;rcases RF with RF|RF
    · exact .inl (inv.ZY i x hx RF e he hb)
    · obtain rfl:=ah RF
      rw[Fw] at hx
      cases hx
      exact .inl (Ad e he hb)
  have sj:bM s0 (L.take j)=lT s0 L (fun k=>decide (k < j)):=by unfold lT;rw[Lu]
  -- slots that are used
  have JR:∀ t,(∀ i oi di,L[i]? = some (oi,di)->oi.dst=some t->D i=decide (i < j))->(lT s0 L D).get t=(bM s0 (L.take j)).get t:=fun t h=>by
    rw[sj];exact sk h
  have dZ:∀ x∈o'.op.operands,ev (lT s0 L D) x=ev (bM s0 (L.take j)) x:=fun x hx=>by
    cases x with
    | tmp t=>
      refine JR t fun i oi di hi hd=>?_
      by_cases mP:i=j
      · subst mP
        rw[KM];simp
      · have h:=nO adW (sK hL hi)
        simp only[hd] at h;have h2:=nO h Fw;have afT:o'.op.operands.toList.any (Ng t)=true:=List.any_eq_true.2 ⟨.tmp t,Array.mem_toList_iff.2 hx,by simp[Ng]⟩;simp only[afT,Bool.not_true,Bool.false_or,cm] at h2;rcases h2 with h2|h2
        · exact absurd (ah h2) mP
        · exact qa inv.ZY CC KM mP (.inl h2)
    | _=>rfl
  have adR:∀ b,F3 ops (bM s0 (L.take j)) o' b->F3 ops (lT s0 L D) o' b:=fun b h=>by
    unfold F3 at h ⊢;split
    · rename_i hg
      rw[hg] at h;exact h
    · rename_i g want hg
      rw[hg] at h;obtain⟨t,ht,h⟩:=h;refine⟨t,ht,?_⟩;rw[JR t fun i oi di hi hd=>?_]
      · exact h
      · have h1:=aN.1 afJ o' (aU Fw)
        rw[hg] at h1;obtain⟨e,he,hb⟩:=List.any_eq_true.1 h1;simp only[ag] at hb;have heg:=ah hb.1;have hDg:=Ad e (Array.mem_toList_iff.1 he) hb.2;have aS:=aN.1 (nO NA Fw) e he;rw[hb.2,Bool.not_true,Bool.false_or] at aS;have aS:e.on < j:=Nb aS
        cases hog:ops[g]? with
        | none=>rw[hog] at ht;cases ht
        | some og=>
          rw[hog] at ht;have aeM:ops.toList[g]? = some og:=by rw[cp];exact hog
          have:i=g:=pk n9 i g oi og t (sK hL hi) aeM hd ht;rw[this,<- heg,hDg];simp[aS]
  -- what the operation touches in memory
  have wh:=fun i oi di hi=>jn (hp i oi di hi)
  have Hn:∀ (i:Nat) (oi:Oper) (di:Dl),L[i]? = some (oi,di)->((∃ b cs,lk di.bs b=some cs)\/(∃ b R,lk di.rs b=some R))->kP oi.op=true:=fun i oi di hi h=>by
    cases hh:kP oi.op with
    | true=>rfl
    | false=>
      obtain⟨h1,h2⟩:=(wh i oi di hi).2.2 hh;rcases h with⟨b,cs,h⟩|⟨b,cs,h⟩
      · rw[h1] at h;cases h
      · rw[h2] at h;cases h
  have kbj:=mg hp k0 j (by omega)
  have agB:kP o'.op=true->∀ x∈o'.op.operands,∀ b∈(ev (bM s0 (L.take j)) x).dJ,(lT s0 L D).hasB b->∀ cs,lk (bM s0 (L.take j)).bx b=some cs->lk (lT s0 L D).bx b=some cs:=fun hh x hx b hbx hb cs dL=>by
    rw[<- dL,sj];refine wS fun i oi di gQ hi hc=>?_
    by_cases mP:i=j
    · subst mP
      rw[KM];simp
    · rcases(wh i oi di hi).1 b gQ hc with⟨Zi,_⟩|uk
      · rcases vY hL nD hi kZ mP (Hn i oi di hi (.inl ⟨b,gQ,hc⟩)) hh (.inl Zi) with ho|ho|ho
        · exact qa inv.ZY CC KM mP (.inl ho)
        · exact absurd hbx ((jX hL hp k0 hi kZ ho).2.2.1 b gQ hc x hx)
        · rw[(jX hL hp k0 kZ hi ho).1] at hc
          cases hc
      · have h1:=kbj.1 b cs dL
        obtain⟨c2,mZ⟩:=hb;rcases inv.bx b c2 mZ with h2|⟨i2,h2,h3,h4⟩
        · omega
        · obtain rfl:i2=i:=by omega
          rw[h2];simp;omega
  have agR:kP o'.op=true->∀ x∈o'.op.operands,∀ b,((∃ p∈(ev (bM s0 (L.take j)) x).cB,p.1=b)\/∃ b2∈(ev (bM s0 (L.take j)) x).dJ,∃ cs2,lk (bM s0 (L.take j)).bx b2=some cs2/\∃ p∈cs2.flatMap Ce.cB,p.1=b)->(∃ R0,lk (lT s0 L D).rw b=some R0)->∀ cs,lk (bM s0 (L.take j)).rw b=some cs->lk (lT s0 L D).rw b=some cs:=fun hh x hx b VC hb cs dL=>by
    rw[<- dL,sj];refine vm fun i oi di gQ hi hc=>?_
    by_cases mP:i=j
    · subst mP
      rw[KM];simp
    · rcases(wh i oi di hi).2.1 b gQ hc with⟨Zi,_⟩|uk
      · rcases vY hL nD hi kZ mP (Hn i oi di hi (.inr ⟨b,gQ,hc⟩)) hh (.inl Zi) with ho|ho|ho
        · exact qa inv.ZY CC KM mP (.inl ho)
        · have s:=(jX hL hp k0 hi kZ ho).2.2.2 b gQ hc x hx
          rcases VC with⟨p,pw,sf⟩|⟨b2,dD,cs2,afQ,p,pw,sf⟩
          · exact absurd sf (s.1 p pw)
          · exact absurd sf (s.2 b2 dD cs2 afQ p pw)
        · rw[(jX hL hp k0 kZ hi ho).2.1] at hc
          cases hc
      · have h1:=kbj.2 b cs dL
        obtain⟨c2,mZ⟩:=hb;rcases inv.rw b c2 mZ with h2|⟨i2,h2,h3,h4⟩
        · omega
        · obtain rfl:i2=i:=by omega
          rw[h2];simp;omega
  have Nq:lg P T ops id j (lT s0 L D) o' d:=by
    obtain⟨b,h1,h2,h3⟩:=Y7;refine⟨b,adR b h1,fun hb=>Li (h2 hb) dZ (fun hh x hx=>?_),h3⟩;have hn:=iO inv.rep.sc x;rw[dZ x hx] at hn
    refine⟨fun b hb cs dL=>?_,fun p hp R hR=>agR hh x hx p.1 (.inl ⟨p,hp,rfl⟩) (by
      obtain⟨R0,h,_⟩:=hn.2 p hp;exact⟨R0,h⟩) R hR⟩
    have dD:=agB hh x hx b hb (hn.1 b hb) cs dL;refine⟨dD,fun p hp R hR=>agR hh x hx p.1 (.inr ⟨b,hb,cs,dL,p,hp,rfl⟩) ?_ R hR⟩;obtain⟨R0,h,_⟩:=inv.rep.sc.br b cs dD p hp;exact⟨R0,h⟩
  have VR:lS (lT s0 L D) (id+128*j):=fun i h1 h2=>by
    refine⟨?_,?_⟩
    · cases hq:lk (lT s0 L D).bx i with
      | none=>rfl
      | some cs=>
        rcases inv.bx i cs hq with h|⟨i2,h3,h4,h5⟩
        · omega
        · obtain rfl:i2=j:=by omega
          rw[KM] at h3;cases h3
    · cases hq:lk (lT s0 L D).rw i with
      | none=>rfl
      | some cs=>
        rcases inv.rw i cs hq with h|⟨i2,h3,h4,h5⟩
        · omega
        · obtain rfl:i2=j:=by omega
          rw[KM] at h3;cases h3
  have hd:∀ x,o'.dst=some x->x < N:=fun x hx=>by
    have h1:=aN.1 hN o' (aU Fw);rw[hx] at h1;exact Nb h1
  -- the state behind the operation
  have Oz:iy D j j=true:=by simp[iy]
  have SD:∀ k,k≠j->iy D j k=D k:=fun k hk=>by
    have:Nat.beq k j=false:=by
      cases hb:Nat.beq k j
      · rfl
      · exact absurd (ah hb) hk
    simp[iy,this]
  -- who writes the same key comes in front
  have before:∀ (b:Nat),(∃ x,lk d.bs b=some x)\/(∃ x,lk d.rs b=some x)->∀ (i:Nat) (oi:Oper) (di:Dl),L[i]? = some (oi,di)->((∃ x,lk d.bs b=some x)/\(∃ x,lk di.bs b=some x))\/((∃ x,lk d.rs b=some x)/\(∃ x,lk di.rs b=some x))->iy D j i=true->i<=j:=fun b hb i oi di hi Ny RF=>by
    by_cases mP:i=j
    · omega
    · rw[SD i mP] at RF
      have hhj:kP o'.op=true:=Hn j o' d kZ (by
        rcases hb with⟨x,hx⟩|⟨x,hx⟩
        · exact .inl ⟨b,x,hx⟩
        · exact .inr ⟨b,x,hx⟩)
      have hhi:kP oi.op=true:=Hn i oi di hi (by
        rcases Ny with⟨_,x,hx⟩|⟨_,x,hx⟩
        · exact .inl ⟨b,x,hx⟩
        · exact .inr ⟨b,x,hx⟩)
      have go:cA T oi.op=true\/cA T o'.op=true->i<=j:=fun Zi=>by
        rcases vY hL nD hi kZ mP hhi hhj Zi with ho|ho|ho
        · have:=qa inv.ZY CC KM mP (.inl ho)
          rw[RF] at this;have:=of_decide_eq_true this.symm;omega
        · have s:=jX hL hp k0 hi kZ ho
          rcases hb with⟨x,hx⟩|⟨x,hx⟩
          · rw[s.1] at hx;cases hx
          · rw[s.2.1] at hx;cases hx
        · have s:=jX hL hp k0 kZ hi ho
          rcases Ny with⟨_,x,hx⟩|⟨_,x,hx⟩
          · rw[s.1] at hx;cases hx
          · rw[s.2.1] at hx;cases hx
      rcases Ny with⟨⟨x,hx⟩,y,hy⟩|⟨⟨x,hx⟩,y,hy⟩
      · rcases(wh i oi di hi).1 b y hy with⟨h,_⟩|h1
        · exact go (.inl h)
        · rcases(wh j o' d kZ).1 b x hx with⟨h,_⟩|h2
          · exact go (.inr h)
          · exact absurd (by omega:i=j) mP
      · rcases(wh i oi di hi).2.1 b y hy with⟨h,_⟩|h1
        · exact go (.inl h)
        · rcases(wh j o' d kZ).2.1 b x hx with⟨h,_⟩|h2
          · exact go (.inr h)
          · exact absurd (by omega:i=j) mP
  have last:∀ (D2:Nat->Bool),D2 j=true->(∀ k,j < k->D2 k=false)->lT s0 L D2=(bM s0 (pQ D2 0 (L.take j))).app o'.dst d:=fun D2 h1 h2=>by
    unfold lT;rw[Lv kZ h1 h2,ek]
  have VW:jV ((lT s0 L D).app o'.dst d) (lT s0 L (iy D j)):=by
    refine⟨fun t=>?_,fun b=>?_,fun τ=>?_⟩
    · rw[St.gj]
      by_cases ht:o'.dst=some t
      · rw[if_pos ht]
        have:(lT s0 L (iy D j)).get t=(lT s0 L (fun k=>Nat.beq k j)).get t:=sk fun k ok dk hk hdk=>by
          have:k=j:=pk n9 k j ok o' t (sK hL hk) Fw hdk ht;rw[this,Oz];simp
        rw[this,last _ (by simp) (fun k hk=>by
          cases hb:Nat.beq k j
          · rfl
          · have:=ah hb;omega),St.gj,if_pos ht]
      · rw[if_neg ht]
        exact sk fun k ok dk hk hdk=>by
          by_cases Tu:k=j
          · subst Tu
            rw[kZ] at hk
            cases hk
            exact absurd hdk ht
          · rw[SD k Tu]
    · rw[St.iw,cj]
      cases hq:lk d.bs b with
      | some x=>
        have:lk (lT s0 L (iy D j)).bx b=lk (lT s0 L (fun k=>iy D j k&&decide (k<=j))).bx b:=wS fun k ok dk cs hk hc=>by
          cases hDk:iy D j k with
          | false=>rfl
          | true=>
            have:=before b (.inl ⟨x,hq⟩) k ok dk hk (.inl ⟨⟨x,hq⟩,cs,hc⟩) hDk;simp[this]
        rw[this,last _ (by simp[Oz]) (fun k hk=>by simp;intro;omega),St.iw,cj,hq]
      | none=>
        exact wS fun k ok dk cs hk hc=>by
          by_cases Tu:k=j
          · subst Tu
            rw[kZ] at hk
            cases hk
            rw[hq] at hc
            cases hc
          · rw[SD k Tu]
    · rw[St.gC,cj]
      cases hq:lk d.rs τ with
      | some x=>
        have:lk (lT s0 L (iy D j)).rw τ=lk (lT s0 L (fun k=>iy D j k&&decide (k<=j))).rw τ:=vm fun k ok dk cs hk hc=>by
          cases hDk:iy D j k with
          | false=>rfl
          | true=>
            have:=before τ (.inr ⟨x,hq⟩) k ok dk hk (.inr ⟨⟨x,hq⟩,cs,hc⟩) hDk;simp[this]
        rw[this,last _ (by simp[Oz]) (fun k hk=>by simp;intro;omega),St.gC,cj,hq]
      | none=>
        exact vm fun k ok dk cs hk hc=>by
          by_cases Tu:k=j
          · subst Tu
            rw[kZ] at hk
            cases hk
            rw[hq] at hc
            cases hc
          · rw[SD k Tu]
  obtain⟨ky1,ky2,_⟩:=jn Nq;refine Bq hT inv.rep sg hd VR (by omega) Nq fun E' v w' r' hb=>hK E' w' _ ⟨VW.rep r',CC,fun b cs dL=>?_,fun b cs dL=>?_⟩ hb
  · rw[VW.bx,St.iw,cj] at dL
    cases hq:lk d.bs b with
    | some x=>
      rcases ky1 b x hq with⟨_,c0,FD⟩|h
      · rcases inv.bx b c0 FD with h|⟨i,h1,h2⟩
        · exact .inl h
        · exact .inr ⟨i,by simp[iy,h1],h2⟩
      · exact .inr ⟨j,Oz,h⟩
    | none=>
      rw[hq] at dL;rcases inv.bx b cs dL with h|⟨i,h1,h2⟩
      · exact .inl h
      · exact .inr ⟨i,by simp[iy,h1],h2⟩
  · rw[VW.rw,St.gC,cj] at dL
    cases hq:lk d.rs b with
    | some x=>
      rcases ky2 b x hq with⟨_,c0,FD⟩|h
      · rcases inv.rw b c0 FD with h|⟨i,h1,h2⟩
        · exact .inl h
        · exact .inr ⟨i,by simp[iy,h1],h2⟩
      · exact .inr ⟨j,Oz,h⟩
    | none=>
      rw[hq] at dL;rcases inv.rw b cs dL with h|⟨i,h1,h2⟩
      · exact .inl h
      · exact .inr ⟨i,by simp[iy,h1],h2⟩
theorem th (hT:dg P T)(il:jG N ops true=true)(nD:vO T s0 (pq ops.toList []) ops.toList=true)(hL:L.map (·.1)=ops.toList)(hp:eL P T ops id s0 L)(k0:Kb s0 id)(hm:id+128*ops.size<=m){Q:Exit->Act->World->Prop} :
    ∀ (fuel:Nat) (fe:Array Bool) (E:Env) (w:World) (a:Act),fe.size=ops.size->KO (fun i=>fe.getD i false) ops.size<=fuel->SN P T O ops N n0 id m s0 L (fun i=>fe.getD i false) E w a->(∀ E' w' a',ca O E' w' n0 N m (bM s0 L) a'->Below n0 w w'->Q .normal a' w')->wpAny P .any ops Q fuel fe a w:=by
  have hlen:L.length=ops.size:=by rw[<- Lm (f:=(·.1)),hL,bD]
  have NA:H8 ops.toList=true:=by
    unfold jG at il;simp only[Bool.not_true,Bool.false_or,ag,decide_eq_true_eq] at il;exact il.2.1.1.2
  have fin:∀ (fe:Array Bool) (E:Env) (w:World) (a:Act),(∀ i,i < ops.size->fe.getD i false=true)->SN P T O ops N n0 id m s0 L (fun i=>fe.getD i false) E w a->ca O E w n0 N m (bM s0 L) a:=fun fe E w a h inv=>by
    have:=inv.rep;unfold lT at this
    rwa [zg fun k hk=>by rw[bu];exact h k (by omega)] at this
  intro fuel
  induction fuel with
  | zero=>
    intro fe E w a hs hc inv hQ;have iU:=Dc ops.size (Nat.le_zero.1 hc);refine⟨?_,hQ E w a (fin fe E w a iU inv) (Below.refl _ _)⟩
    cases hr:Region.ready .any ops fe with
    | nil=>rfl
    | cons j r=>
      have hj:j∈Region.ready .any ops fe:=by rw[hr];exact aC
      obtain⟨h1,o,ho,_⟩:=mem_ready.1 hj;have nE:=(Array.getElem?_eq_some_iff.1 ho).1;have:=iU j nE;rw[Array.getD_eq_getD_getElem?,Array.getElem?_eq_getElem (by omega)] at h1 this;simp at h1 this;rw[h1] at this
      cases this
  | succ fuel ih=>
    intro fe E w a hs hc inv hQ;refine⟨fun hr=>?_,fun j hj=>?_⟩
    · -- nothing may come: all have come
      have iU:∀ n,n<=ops.size->∀ i,i < n->fe.getD i false=true:=by
        intro n
        induction n with
        | zero=>intro _ i hi;omega
        | succ n ihn=>
          intro hn i hi
          by_cases h:i=n
          · subst h
            cases hd:fe.getD i false with
            | true=>rfl
            | false=>
              exfalso;obtain⟨o,ho⟩:∃ o,ops[i]? = some o:=⟨_,Array.getElem?_eq_getElem (by omega)⟩
              have:i∈Region.ready .any ops fe:=by
                refine mem_ready.2 ⟨?_,o,ho,fun e he hb=>?_⟩
                · rw[Array.getD_eq_getD_getElem?,Array.getElem?_eq_getElem (by omega)] at hd ⊢
                  exact hd
                · have aS:=aN.1 (nO NA (show ops.toList[i]? = some o by rw[cp];exact ho)) e (Array.mem_toList_iff.2 he)
                  rw[hb,Bool.not_true,Bool.false_or] at aS;exact ihn (by omega) e.on (Nb aS)
              rw[hr] at this
              cases this
          · exact ihn (by omega) i (by omega)
      exact hQ E w a (fin fe E w a (iU ops.size (al _)) inv) (Below.refl _ _)
    · obtain⟨h1,o,ho,Ad⟩:=mem_ready.1 hj
      have nE:=(Array.getElem?_eq_some_iff.1 ho).1
      have KM:(fun i=>fe.getD i false) j=false:=by
        show fe.getD j false=false;rw[Array.getD_eq_getD_getElem?,Array.getElem?_eq_getElem (by omega)] at h1 ⊢;exact h1
      have Zp:(fun i=>(fe.setIfInBounds j true).getD i false)=iy (fun i=>fe.getD i false) j:=by
        funext i
        by_cases hi:i=j
        · subst hi
          simp[iy,hs,nE]
        · have:Nat.beq i j=false:=by
            cases hb:Nat.beq i j
            · rfl
            · exact absurd (ah hb) hi
          rw[getD_set_ne false (fun e=>hi e.symm)];simp[iy,this]
      refine Wv hT il nD hL hp k0 hm inv ho KM Ad fun E' w' a' adK hb=>?_;refine ih _ E' w' a' (by simp[hs]) ?_ (by rw[Zp];exact adK) fun E2 w2 a2 r2 dD=>hQ E2 w2 a2 r2 (hb.trans dD);rw[Zp];have:=Ig (D:=fun i=>fe.getD i false) KM ops.size;rw[if_pos nE] at this;omega
end
end
section
variable {P:Program}{T:Nat->Option Ty}{O:gD}[GlC O]
omit [GlC O] in
theorem ca.mv {E E':Env}{w w':World}{n0 N m:Nat}{st:St}{a:Act}(h:ca O E w n0 N m st a)(mv:Mv st E w E' w' (fun _=>False) (fun _=>False)):ca O E' w' n0 N m st a:=
  ⟨h.xc,h.sz,fun t=>mv.slt h.sc t (h.slt t),fun i cs hi=>mv.box h.sc hi (fun h=>h) (h.box i cs hi),fun τ R hR=>mv.row h.sc hR (fun h=>h) (h.row τ R hR),h.sc,bd h.hi mv.size,Mk mv h.hi h.mi,TH mv h.gh,fun j V hj=>by
    obtain⟨h1,R,h2⟩:=h.Vf j V hj;exact⟨(mv.vl j R 0 h2 (aD _)).trans h1,R,h2⟩,fun j b hj=>by
    obtain⟨h1,cs,h2⟩:=h.Ju j b hj;exact⟨(mv.bk j cs h2).trans h1,cs,h2⟩,bd h.sn mv.size⟩
omit [GlC O] in
theorem ca.heap {E:Env}{w w':World}{n0 N m:Nat}{st:St}{a:Act}(h:ca O E w n0 N m st a)(hw:w'.heap=w.heap):ca O E w' n0 N m st a:=
  h.mv ⟨by rw[hw];exact al _,fun _ _ _=>rfl,fun _ hb _=>⟨by rw[hw],hb⟩,fun _ _ _=>rfl,fun _ _ _ _ _ hr=>⟨by rw[hw],hr⟩,fun _ _ _ _ _=>rfl,fun _ _ _ _ _ _ _ hr=>⟨by rw[hw],hr⟩,fun _ _ _=>by rw[hw],fun _ _ _ _ _ _ _ _ hr=>⟨by rw[hw],hr⟩⟩
section
variable {N:Nat}{w0:World}
theorem Tp.region (id:Nat)(ops:Array Oper)(d:Bool)(st:St)(Q:Ex->St->Prop)(nD:(!d||vO T st (pq ops.toList []) ops.toList)=true)(h:ju P T ops st.nx 0 ops.toList st fun cJ=>match cJ with
    | ⟨sl,bx,rw,_⟩=>mA (st.nx+128*ops.size) fun nx=>Q .ic ⟨sl,bx,rw,nx⟩):Tp P T N w0 O (.region id ops d) st Q:=by
  intro hT hc E a w r hb;obtain⟨L,hL,hp,cJ,hK,he⟩:=iK ops.toList [] st _ (jV.refl _) (fun j o d hj=>by simp at hj) h;rw[bF] at hp he;have il:jG N ops d=true:=hc;have k0:=r.kb;have r0:ca O E w w0.heap.size N (st.nx+128*ops.size) st a:=r.mono (by omega)
  have fin:∀ E' w' a',ca O E' w' w0.heap.size N (st.nx+128*ops.size) (bM st L) a'->Below w0.heap.size w0 w'->kR w0 N O Q .normal a' w':=fun E' w' a' r' eF=>by
    obtain⟨sl,bx,dB,nx⟩:=cJ;simp only[jZ] at hK;refine⟨_,E',hK,?_,eF⟩;have VY:jV (bM st L) ⟨sl,bx,dB,st.nx+128*ops.size⟩:=⟨he.sl,he.bx,he.rw⟩
    exact VY.rep r'
  cases d with
  | false=>
    refine wp_region ?_;rw[List.range_eq_range'];exact qh hT il hL hp k0 (al _) ops.size 0 E w a (by omega) (by simpa [bM] using r0) fun E' w' a' r' eF=>fin E' w' a' r' (hb.trans eF)
  | true=>
    refine wp_region_any hT.mixed ?_
    have xu:∀ i,(Array.replicate ops.size false).getD i false=false:=fun i=>by
      rw[Array.getD_eq_getD_getElem?]
      cases hq:(Array.replicate ops.size false)[i]? with
      | none=>rfl
      | some x=>
        rw[Array.getElem?_replicate] at hq;split at hq
        · cases hq;rfl
        · cases hq
    have Fu:lT st L (fun i=>(Array.replicate ops.size false).getD i false)=st:=by
      unfold lT;rw[nj fun k _=>xu _];rfl
    have hw:({ w with drawn:=w.drawn+1 }:World).heap=w.heap:=rfl;refine th hT il (by simpa using nD) hL hp k0 (al _) ops.size _ E _ a (by simp) ?_ ⟨?_,?_,?_,?_⟩ fun E' w' a' r' eF=>fin E' w' a' r' (hb.trans ⟨eF.os,eF.tape,eF.output,eF.size,eF.block⟩)
    · have:∀ n,KO (fun i=>(Array.replicate ops.size false).getD i false) n<=n:=fun n=>by
        induction n with
        | zero=>exact al _
        | succ n ih=>
          unfold KO;rw[xu n];simp only[cond_false];omega
      exact this _
    · rw[Fu]
      exact r0.heap hw
    · intro j o hj hD
      have hD:(Array.replicate ops.size false).getD j false=true:=hD;rw[xu] at hD
      cases hD
    · intro b cs dL
      rw[Fu] at dL;exact .inl (k0.1 b cs dL)
    · intro b cs dL
      rw[Fu] at dL;exact .inl (k0.2 b cs dL)
omit [GlC O] in
theorem Kk {Q Q':Ex->St->Prop}{e:Exit}{a:Act}{w:World}(h:kR w0 N O Q e a w)(hq:∀ e st,Q e st->Q' e st):kR w0 N O Q' e a w:=by
  cases e <;> first
    | exact h.elim
    | (obtain⟨st,E,h1,h2⟩:=h;exact⟨st,E,hq _ _ h1,h2⟩)
omit [GlC O] in
theorem Tp.mono {c:Code}{st:St}{Q Q':Ex->St->Prop}(h:Tp P T N w0 O c st Q)(hq:∀ e st,Q e st->Q' e st):Tp P T N w0 O c st Q':=fun hT hc E a w r hb=>wp_mono (h hT hc E a w r hb) fun _e _a _w hp=>Kk hp hq
theorem Tp.run (cs:List Nat):∀ {c:Code} {st:St} {Q:Ex->St->Prop},WP P T N w0 O cs c st Q->Tp P T N w0 O c st Q
  | .skip,st,Q,h=>fun _ _ E a w r hb=>wp_skip ⟨st,E,h,r,hb⟩
  | .region id ops d,⟨IG,Kr,IL,BY⟩,Q,h=>by
    have h:WPr P T N w0 O cs id ops d ⟨IG,Kr,IL,BY⟩ Q:=h;unfold WPr at h;simp only at h
    cases hc:cs.contains id with
    | true=>rw[hc] at h;exact h
    | false=>
      rw[hc] at h;simp only at h;split at h
      · rename_i hm
        exact Tp.region id ops d ⟨IG,Kr,IL,BY⟩ Q hm h
      · exact h.elim
  | .seq x y,st,Q,h=>fun hT hc E a w r hb=>by
    unfold aaV at hc;rw[ag] at hc;have h:WP P T N w0 O cs x st (vL (fun cJ=>WP P T N w0 O cs y cJ Q) Q):=h;refine wp_seq (wp_mono (Tp.run cs h hT hc.1 E a w r hb) fun e a' w' hp=>?_)
    cases e with
    | normal=>
      obtain⟨cJ,E',hq,r',eF⟩:=hp;exact Tp.run cs hq hT hc.2 E' a' w' r' eF
    | exit id=>
      obtain⟨cJ,E',hq,r',eF⟩:=hp;exact⟨cJ,E',hq,r',eF⟩
    | ret=>
      obtain⟨cJ,E',hq,r',eF⟩:=hp;exact⟨cJ,E',hq,r',eF⟩
    | goto l=>exact hp.elim
    | panic ch=>exact hp.elim
    | outgrown=>exact hp.elim
  | .cond c x y,st,Q,h=>fun hT hc E a w r hb=>by
    unfold aaV at hc;rw[ag] at hc;have h:OF c st (WP P T N w0 O cs x st Q) (WP P T N w0 O cs y st Q):=h;unfold OF at h;have hv:=df r c;split at h
    · rename_i t ht
      rw[ht] at hv;refine wp_cond_split (dO hv) (fun e=>?_) (fun e=>?_)
      · subst e
        exact Tp.run cs h hT hc.1 E a w r hb
      · subst e
        exact Tp.run cs h hT hc.2 E a w r hb
    · exact h.elim
  | .block id c,st,Q,h=>fun hT hc E a w r hb=>by
    unfold aaV at hc;have h:WP P T N w0 O cs c st (qC id Q):=h;refine wp_block (wp_mono (Tp.run cs h hT hc E a w r hb) fun e a' w' hp=>?_)
    cases e with
    | normal=>
      obtain⟨cJ,E',hq,r',eF⟩:=hp;exact⟨cJ,E',hq,r',eF⟩
    | exit i=>
      obtain⟨cJ,E',hq,r',eF⟩:=hp;unfold qC at hq;simp only at hq;show(if i=id then kR w0 N O Q .normal a' w' else kR w0 N O Q (.exit i) a' w')
      by_cases e:i=id
      · subst e
        rw[show Nat.beq i i=true by simp] at hq;rw[if_pos rfl];exact⟨cJ,E',hq,r',eF⟩
      · have:Nat.beq i id=false:=by
          cases hb:Nat.beq i id
          · rfl
          · exact absurd (ah hb) e
        rw[this] at hq;rw[if_neg e];exact⟨cJ,E',hq,r',eF⟩
    | ret=>
      obtain⟨cJ,E',hq,r',eF⟩:=hp;exact⟨cJ,E',hq,r',eF⟩
    | goto l=>exact hp.elim
    | panic ch=>exact hp.elim
    | outgrown=>exact hp.elim
  | .loop c,st,Q,h=>h
  | .exit id,st,Q,h=>fun _ _ E a w r hb=>wp_exit ⟨st,E,h,r,hb⟩
  | .ret,st,Q,h=>fun _ _ E a w r hb=>wp_ret ⟨st,E,h,r,hb⟩
  | .label _,_,_,h=>h.elim
  | .goto _,_,_,h=>h.elim
  | .rangeFunc ..,_,_,h=>h.elim
  | .refuse _,_,_,h=>h.elim
def Wk (st cJ:St):Prop:=∀ (O:gD) [en O] (E:Env) (w:World) (n0 N:Nat) (a:Act),aaP O E w n0 N st a->∃ E',aaP O E' w n0 N cJ a
theorem Wk.refl (st:St):Wk st st:=fun _ _ E _ _ _ _ r=>⟨E,r⟩
omit [GlC O] in
theorem Tp.wk [en O]{c:Code}{st cJ:St}{Q:Ex->St->Prop}(hw:Wk st cJ)(h:Tp P T N w0 O c cJ Q):Tp P T N w0 O c st Q:=fun hT hc E a w r hb=>by
  obtain⟨E',r'⟩:=hw O E w _ N a r;exact h hT hc E' a w r' hb
theorem nP {c:Code}{Q:Exit->Act->World->Prop}(I:Nat->Act->World->Prop){n:Nat}{a:Act}{w:World}(h0:I n a w)
    (round:∀ n a w,I n a w->c.wp P (Exit.then (fun a' w'=>∃ n',n' < n/\I n' a' w') Q) a w):(Code.loop c).wp P Q a w:=by
  intro b k cs
  have key:∀ n a w,I n a w->∃ e a' w',Q e a' w'/\Arrives P (lone (b.at a (.code c :: .inLoop c :: k)) cs w) b k cs e a' w':=by
    intro n
    induction n using Nat.strongRecOn with
    | _ n ih=>
      intro a w hI;obtain⟨e,a₁,w₁,hq,CG⟩:=round n a w hI b (.inLoop c :: k) cs
      cases e with
      | normal=>
        obtain⟨n',aS,hI₁⟩:=hq;obtain⟨e₂,a₂,w₂,hq₂,harr₂⟩:=ih n' aS a₁ w₁ hI₁;exact⟨e₂,a₂,w₂,hq₂,.of_steps (Steps.trans CG (.one step_inLoop)) harr₂⟩
      | exit id=>exact⟨_,a₁,w₁,hq,.pass (x:=.inLoop c) rfl (fun _ _=>.inl (by simp)) CG⟩
      | goto l=>exact⟨_,a₁,w₁,hq,.pass (x:=.inLoop c) rfl (fun _ _=>.inl (by simp)) CG⟩
      | ret=>exact⟨_,a₁,w₁,hq,.pass (x:=.inLoop c) rfl (fun _ _=>.inl (by simp)) CG⟩
      | panic ch=>exact⟨_,a₁,w₁,hq,.pass (x:=.inLoop c) rfl (fun _ _=>.inl (by simp)) CG⟩
      | outgrown=>exact⟨_,a₁,w₁,hq,.pass (x:=.inLoop c) rfl (fun _ _=>.inl (by simp)) CG⟩
  obtain⟨e,a',w',hq,CG⟩:=key n a w h0;exact⟨e,a',w',hq,.of_steps (.one step_loop) CG⟩
omit [GlC O] in
theorem Tp.loop [en O]{c:Code}{st:St}{Q:Ex->St->Prop}{α:Type}(I:α->St)(ok:α->Prop)(μ:α->Nat)(x0:α)(h0:Wk st (I x0))(s8:ok x0)
   (round:∀ x,ok x->Tp P T N w0 O c (I x) (fun e cJ=>match e with
     | .ic=>∃ y,ok y/\μ y < μ x/\Wk cJ (I y)
     | e=>Q e cJ)):Tp P T N w0 O (.loop c) st Q:=fun hT hc E a w r hb=>by
  unfold aaV at hc;obtain⟨E0,r0⟩:=h0 O E w _ N a r;refine nP (fun n a w=>∃ x E,ok x/\μ x=n/\aaP O E w w0.heap.size N (I x) a/\Below w0.heap.size w0 w) (n:=μ x0) ⟨x0,E0,s8,rfl,r0,hb⟩ ?_;rintro n a w ⟨x,E,hx,rfl,r,hb⟩;refine wp_mono (round x hx hT hc E a w r hb) fun e a' w' hp=>?_
  cases e with
  | normal=>
    obtain⟨cJ,E',⟨y,h1,h2,h3⟩,r',eF⟩:=hp;obtain⟨E2,r2⟩:=h3 O E' w' _ N a' r';exact⟨μ y,h2,y,E2,h1,rfl,r2,eF⟩
  | exit id=>
    obtain⟨cJ,E',hq,r',eF⟩:=hp;exact⟨cJ,E',hq,r',eF⟩
  | ret=>
    obtain⟨cJ,E',hq,r',eF⟩:=hp;exact⟨cJ,E',hq,r',eF⟩
  | goto l=>exact hp.elim
  | panic ch=>exact hp.elim
  | outgrown=>exact hp.elim
end
end
section
variable {P:Program}{T:Nat->Option Ty}{O:gD}
def sw (m:List (Nat × Nat)):List (Nat × Nat):=m.map fun p=>(p.2,p.1)
def OV (m:List (Nat × Nat)):Bool:=m.all fun p=>(match lk m p.1 with
 | some x=>Nat.beq x p.2
 | none=>false)&&(match lk (sw m) p.2 with
 | some x=>Nat.beq x p.1
 | none=>false)
section
variable (st:St)(m:List (Nat × Nat))(dB:List (Nat × Row))(fc:List (Nat × List Ce))
def TV (c c':Ce):Prop:=match c' with
 | .bot=>True
 | .nil=>(match c with
  | .nil=>True
  | _=>False)
 | .t y=>(match c with
  | .t x=>x=y
  | .nil=>∃ k,y=.sl k []
  | .row τ bo=>(match lk st.rw τ with
   | some R=>R.bo=bo/\lk (sw m) τ=none/\bi R.shut (y=R.tr)
   | none=>False)
  | .bot=>False)
 | .row τ' ua=>(match lk dB τ' with
  | some R'=>R'.bo=ua/\(match c with
   | .nil=>lk m τ'=none
   | .row τ bo=>lk m τ'=some τ/\(match lk st.rw τ with
    | some R=>R.bo=bo
    | none=>False)
   | _=>False)
  | none=>False)
def DM:List Ce->List Ce->Prop
 | [],[]=>True
 | c :: cs,c' :: gQ=>TV st m dB c c'/\DM cs gQ
 | _,_=>False
def mW (b:Nat):Bool:=match lk fc b with
 | some _=>true
 | none=>false
def F8 (v v':AV):Prop:=match v' with
 | .bot=>True
 | .c c'=>(match v with
  | .c c=>TV st m dB c c'
  | _=>False)
 | .agg gQ=>(match v with
  | .agg cs=>DM st m dB cs gQ
  | _=>False)
 | .ptr b' o'=>(match v with
  | .ptr b o=>b=b'/\o=o'/\mW fc b'=true
  | _=>False)
 | .dv qR o'=>(match v with
  | .dv xs o=>xs=qR/\o=o'
  | _=>False)
 | .eE=>(match v with
  | .eE=>True
  | _=>False)
 | .fn f' qz=>(match v with
  | .fn f caps=>f=f'/\caps=qz/\qz.all (fun p=>mW fc p.1)=true
  | _=>False)
 | .kp f' qz=>(match v with
  | .kp f caps=>f=f'/\caps=qz
  | _=>False)
 | .dF _ _ _ _ _=>False
 | .sub _ _ _ _=>False
 | .fH _=>False
def Xv:List (Nat × AV)->Prop
 | []=>True
 | (t,v') :: r=>F8 st m dB fc (st.get t) v'/\Xv r
def WW:List (Nat × List Ce)->Prop
 | []=>True
 | (b,gQ) :: r=>(match lk st.bx b with
  | some cs=>DM st m dB cs gQ
  | none=>False)/\WW r
def TQ:List (Nat × Row)->Prop
 | []=>True
 | (τ',R') :: r=>(match lk m τ' with
  | some τ=>(match lk st.rw τ with
   | some R=>R.ty=R'.ty/\R.k=R'.k/\R.MS R'
   | none=>False)
  | none=>bi R'.shut (R'.xs=[]))/\TQ r
end
def below (n:Nat)(fc:List (Nat × List Ce))(dB:List (Nat × Row)):Bool:=fc.all (fun p=>Nat.blt p.1 n)&&dB.all fun p=>Nat.blt p.1 n
def Env.ma (E:Env)(st:St)(m:List (Nat × Nat)):Env:=⟨fun b=>match E.rl b with
 | .rw τ=>(match lk (sw m) τ with
  | some τ'=>.rw τ'
  | none=>.bz)
 | .iE τ j o=>(match lk (sw m) τ with
  | some τ'=>.iE τ' j o
  | none=>.bz)
 | x=>x,E.bk,fun τ' _=>match lk m τ' with
 | some τ=>(match lk st.rw τ with
  | some R=>E.vl τ R.bo
  | none=>.slice none 0 0)
 | none=>.slice none 0 0⟩
theorem dP {α:Type}:∀ {l:List (Nat × α)} {n:Nat} {x:α},lk l n=some x->(n,x)∈l
 | (m,y) :: r,n,x,h=>by
  rw[bZ] at h;split at h
  ·rename_i e
   cases h
   rw[e];exact aC
  ·exact aK _ (dP h)
 | [],_,_,h=>by cases h
theorem MK {m:List (Nat × Nat)}(h:OV m=true){a b:Nat}(hl:lk m a=some b):lk (sw m) b=some a:=by
 have h1:=aN.1 h (a,b) (dP hl);simp only[ag] at h1;have h2:=h1.2;split at h2
 ·rename_i x hx;rw[hx,ah h2]
 ·cases h2
theorem yB {fc:List (Nat × List Ce)}{b:Nat}(h:mW fc b=true):∃ cs,lk fc b=some cs:=by
 unfold mW at h;split at h
 ·rename_i cs dL;exact⟨cs,dL⟩
 ·cases h
section
variable {E:Env}{w:World}{n0 N n:Nat}{st:St}{a:Act}{m:List (Nat × Nat)}{dB:List (Nat × Row)}{fc:List (Nat × List Ce)}
theorem aaO (b:Nat)(h:E.rl b=.bz):(E.ma st m).rl b=.bz:=by
 unfold Env.ma;simp only[h]
theorem abE (b:Nat)(h:E.rl b=.dX):(E.ma st m).rl b=.dX:=by
 unfold Env.ma;simp only[h]
theorem YM {v:Value}{t:Tr}(h:RT E.F w v t):RT (E.ma st m).F w v t:=h.frame (al _) (fun _ _ _=>rfl) (fun b hb _=>aaO b hb)
theorem MI {v:List Value}{t:List Tr}(h:iR E.F w v t):iR (E.ma st m).F w v t:=h.frame (al _) (fun _ _ _=>rfl) (fun b hb _=>aaO b hb)
theorem Oh (r:ca O E w n0 N n st a){v:Value}{c c':Ce}(h:TV st m dB c c')(hv:RC E w v c):RC (E.ma st m) w v c':=by
 cases c' with
 | bot=>exact hv.one
 | nil=>
  cases c with
  | nil=>exact hv
  | _=>exact h.elim
 | t y=>
  cases c with
  | t x=>
   obtain rfl:x=y:=h;exact YM hv
  | nil=>
   obtain⟨k,rfl⟩:=h;rw[show v=_ from hv];exact .gi fun _=>rfl
  | row τ bo=>
   have h:(match lk st.rw τ with
    | some R=>R.bo=bo/\lk (sw m) τ=none/\bi R.shut (y=R.tr)
    | none=>False):=h
   split at h
   ·rename_i R hR;obtain⟨rfl,h1,h⟩:=h;obtain⟨se,rfl⟩:=qE h;rw[hv.1];refine LC (r.row τ R hR) se fun b _ hb=>?_;rcases hb with hb|hb|⟨j,o,hb⟩
    ·exact aaO b hb
    ·show(E.ma st m).rl b=.bz;unfold Env.ma;simp only[hb,h1]
    ·show(E.ma st m).rl b=.bz;unfold Env.ma;simp only[hb,h1]
   ·exact h.elim
  | bot=>exact h.elim
 | row τ' ua=>
  unfold TV at h;simp only at h;split at h
  ·rename_i R' CI;obtain⟨_,h⟩:=h
   cases c with
   | nil=>
    have h:lk m τ'=none:=h;refine⟨?_,by rw[show v=_ from hv];rfl⟩;unfold Env.ma;simp only[h];exact hv
   | row τ bo=>
    obtain⟨h1,h2⟩:=h;refine⟨?_,hv.2⟩;unfold Env.ma;simp only[h1];split at h2
    ·rename_i R hR;subst h2;exact hv.1
    ·exact h2.elim
   | _=>exact h.elim
  ·exact h.elim
theorem oe (r:ca O E w n0 N n st a):∀ {vs:List Value} {cs gQ:List Ce},DM st m dB cs gQ->A2 (RC E w) vs cs->A2 (RC (E.ma st m) w) vs gQ
 | _,[],[],_,.nil=>.nil
 | _,_c :: _cs,_c' :: _cs',h,.cons h1 h2=>.cons (Oh r h.1 h1) (oe r h.2 h2)
 | _,[],_ :: _,h,_=>h.elim
 | _,_ :: _,[],h,_=>h.elim
theorem iQ (r:ca O E w n0 N n st a){u:Value}{v v':AV}(h:F8 st m dB fc v v')(hv:RV E w u v):R1 (E.ma st m) w u v':=by
 cases v' with
 | bot=>exact⟨⟩
 | c c'=>
  cases v with
  | c c=>exact Oh r h hv
  | _=>exact h.elim
 | agg gQ=>
  cases v with
  | agg cs=>
   obtain⟨vs,rfl,ha⟩:=hv;exact⟨vs,rfl,oe r h ha⟩
  | _=>exact h.elim
 | ptr b' o'=>
  cases v with
  | ptr b o=>
   obtain⟨rfl,rfl,_⟩:=h;exact hv
  | _=>exact h.elim
 | dv qR o'=>
  cases v with
  | dv xs o=>
   obtain⟨rfl,rfl⟩:=h;obtain⟨g,p,vs,rfl,h1,h2,h3,h4⟩:=hv;exact⟨g,p,vs,rfl,aaO g h1,h2,h3,MI h4⟩
  | _=>exact h.elim
 | eE=>
  cases v with
  | eE=>exact hv
  | _=>exact h.elim
 | fn f' qz=>
  cases v with
  | fn f caps=>
   obtain⟨rfl,rfl,_⟩:=h;exact hv
  | _=>exact h.elim
 | kp f' qz=>
  cases v with
  | kp f caps=>
   obtain⟨rfl,rfl⟩:=h;obtain⟨us,rfl,h⟩:=hv;refine⟨us,rfl,h.imp fun u c _ h=>?_⟩;obtain⟨g,p,vs,rfl,h1,h2,h3,h4⟩:=h;exact⟨g,p,vs,rfl,aaO g h1,h2,h3,MI h4⟩
  | _=>exact h.elim
 | dF _ _ _ _ _=>exact h.elim
 | sub _ _ _ _=>exact h.elim
 | fH _=>exact h.elim
theorem Oi {c c':Ce}(h:TV st m dB c c'):∀ p∈c'.cB,∃ R,lk dB p.1=some R/\R.bo=p.2:=fun p hp=>by
 cases c' with
 | row τ' ua=>
  have h:(match lk dB τ' with
   | some R'=>R'.bo=ua/\_
   | none=>False):=h
  obtain rfl:p=(τ',ua):=by simpa [Ce.cB] using hp
  split at h
  ·rename_i R' CI;exact⟨R',CI,h.1⟩
  ·exact h.elim
 | _=>cases hp
theorem od:∀ {cs gQ:List Ce},DM st m dB cs gQ->∀ p∈gQ.flatMap Ce.cB,∃ R,lk dB p.1=some R/\R.bo=p.2
 | [],[],_,p,hp=>by cases hp
 | c :: cs,c' :: gQ,h,p,hp=>by
  rw[bK] at hp;rcases aX.1 hp with hp|hp
  ·exact Oi h.1 p hp
  ·exact od h.2 p hp
 | [],_ :: _,h,_,_=>h.elim
 | _ :: _,[],h,_,_=>h.elim
theorem iu {v v':AV}(h:F8 st m dB fc v v'):(∀ b∈v'.dJ,∃ cs,lk fc b=some cs)/\∀ p∈v'.cB,∃ R,lk dB p.1=some R/\R.bo=p.2:=by
 cases v' with
 | bot=>exact⟨fun _ h=>(by cases h),fun _ h=>by cases h⟩
 | c c'=>
  cases v with
  | c c=>exact⟨fun _ h=>(by cases h),Oi h⟩
  | _=>exact h.elim
 | agg gQ=>
  cases v with
  | agg cs=>exact⟨fun _ h=>(by cases h),od h⟩
  | _=>exact h.elim
 | ptr b' o'=>
  cases v with
  | ptr b o=>
   refine⟨fun x hx=>?_,fun _ h=>by cases h⟩;obtain rfl:x=b':=by simpa [AV.dJ,AV.gA] using hx
   exact yB h.2.2
  | _=>exact h.elim
 | dv qR o'=>exact⟨fun _ h=>(by cases h),fun _ h=>by cases h⟩
 | eE=>exact⟨fun _ h=>(by cases h),fun _ h=>by cases h⟩
 | fn f' qz=>
  cases v with
  | fn f caps=>
   refine⟨fun x hx=>?_,fun _ h=>by cases h⟩;obtain⟨p,hp,rfl⟩:=bA.1 (show x∈qz.map (·.1) from hx);exact yB (aN.1 h.2.2 p hp)
  | _=>exact h.elim
 | kp f' qz=>exact⟨fun _ h=>(by cases h),fun _ h=>by cases h⟩
 | dF _ _ _ _ _=>exact h.elim
 | sub _ _ _ _=>exact h.elim
 | fH _=>exact h.elim
theorem zd:∀ {l:List (Nat × AV)},Xv st m dB fc l->∀ t v',(t,v')∈l->F8 st m dB fc (st.get t) v'
 | (t,v) :: r,h,t',v',hm=>by
  rcases List.mem_cons.1 hm with e|hm
  ·cases e;exact h.1
  ·exact zd h.2 t' v' hm
 | [],_,_,_,hm=>by cases hm
theorem ou:∀ {l:List (Nat × List Ce)},WW st m dB l->∀ b gQ,(b,gQ)∈l->∃ cs,lk st.bx b=some cs/\DM st m dB cs gQ
 | (b,cs) :: r,h,b',gQ,hm=>by
  rcases List.mem_cons.1 hm with e|hm
  ·cases e
   have h:=h.1;split at h
   ·rename_i cs dL;exact⟨cs,dL,h⟩
   ·exact h.elim
  ·exact ou h.2 b' gQ hm
 | [],_,_,_,hm=>by cases hm
theorem l8:∀ {l:List (Nat × Row)},TQ st m l->∀ τ' R',(τ',R')∈l->(∃ τ R,lk m τ'=some τ/\lk st.rw τ=some R/\R.ty=R'.ty/\R.k=R'.k/\R.xs=R'.xs/\R.dp=R'.dp/\R.shut=true)\/(lk m τ'=none/\R'.xs=[]/\R'.shut=true)
 | (τ,R) :: r,h,τ',R',hm=>by
  rcases List.mem_cons.1 hm with e|hm
  ·cases e
   have h:=h.1;split at h
   ·rename_i τ0 h1;split at h
    ·rename_i R0 h2;exact .inl ⟨τ0,R0,h1,h2,h.1,h.2.1,h.2.2.to⟩
    ·exact h.elim
   ·rename_i h1;exact .inr ⟨h1,(qE h).2,(qE h).1⟩
  ·exact l8 h.2 τ' R' hm
 | [],_,_,_,hm=>by cases hm
theorem rN (r:ca O E w n0 N n st a)(hm:OV m=true){τ':Nat}{R':Row}(h:(∃ τ R,lk m τ'=some τ/\lk st.rw τ=some R/\R.ty=R'.ty/\R.k=R'.k/\R.xs=R'.xs/\R.dp=R'.dp/\R.shut=true)\/(lk m τ'=none/\R'.xs=[]/\R'.shut=true)):RR (E.ma st m) w n0 τ' R':=by
 rcases h with⟨τ,R,h1,h2,h3,h4,h5,h6,h7⟩|⟨h1,h2,h3⟩
 ·refine RR.to (R:=R) (h:=r.row τ R h2) (al _) h3 h4 h5 h6 h7 ?_ (fun b hb _=>aaO b hb) (fun b _ _ hb=>?_) fun b j o _ _ hb=>?_
  ·unfold Env.ma;simp only[h1,h2]
  ·unfold Env.ma;simp only[hb,MK hm h1]
  ·unfold Env.ma;simp only[hb,MK hm h1]
 ·obtain⟨ID,k',ua,qR,dp'⟩:=R';simp only at h2;subst h2
  have hv:(E.ma st m).vl τ' ua=.slice none 0 0:=by
   unfold Env.ma;simp only[h1]
  unfold RR;simp only[hv]
  cases dp' with
  | none=>exact⟨[],World.ownsRow_nil _ _ _ _,⟨rfl,fun j vs ts h=>by simp at h⟩,fun g hg=>by cases hg⟩
  | some d=>
   cases hm:d.kh with
   | true=>
    simp only[hm];exact Or.inl ⟨rfl,rfl⟩
   | false=>
    simp only[hm];exact⟨[],World.ownsRow_nil _ _ _ _,⟨rfl,fun j vs ts h=>(by simp at h),fun j vs h=>(by simp at h),fun j vs ts h=>by simp at h⟩,fun g hg=>by cases hg⟩
theorem vn:∀ {l:List (Nat × Row)},TQ st m l->∀ τ' R',(τ',R')∈l->R'.shut=true:=fun h τ' R' hm=>by
 rcases l8 h τ' R' hm with⟨τ,R,_,_,_,_,_,h6,h7⟩|⟨_,_,h3⟩
 ·unfold Row.shut at h7 ⊢;rw[<- h6];exact h7
 ·exact h3
end
theorem bh {st:St}(m:List (Nat × Nat)){mS:List (Nat × AV)}{fc:List (Nat × List Ce)}{dB:List (Nat × Row)}{vI:Nat}(hm:OV m=true)(hn:below vI fc dB=true)(hs:Xv st m dB fc mS)(hb:WW st m dB fc)(hr:TQ st m dB):Wk st ⟨mS,fc,dB,vI⟩:=by
 intro O _ E w n0 N a r
 have get:∀ t,(St.get ⟨mS,fc,dB,vI⟩ t)=.bot\/F8 st m dB fc (st.get t) (St.get ⟨mS,fc,dB,vI⟩ t):=fun t=>by
  show(match lk mS t with|some v=>v|none=>.bot)=.bot\/F8 st m dB fc (st.get t) (match lk mS t with|some v=>v|none=>.bot)
  cases hq:lk mS t with
  | none=>exact .inl rfl
  | some v=>exact .inr (zd hs t v (dP hq))
 have uF:=hn;unfold below at uF;rw[ag] at uF;refine⟨E.ma st m,⟨r.xc,r.sz,fun t=>?_,fun i gQ hi=>?_,fun τ' R' hR=>rN r hm (l8 hr τ' R' (dP hR)),⟨fun t b hb=>?_,fun t p hp=>?_,fun b cs dL p hp=>?_,fun b cs dL=>?_,fun τ R hR=>?_,fun τ R d hR hd l hl=>(by rw[jO (vn hr τ R (dP hR)) hd] at hl;cases hl)⟩,r.hi,fun b hb=>?_,fun b x hx=>?_,fun j V hj=>(by rw[en.v] at hj;cases hj),fun j V hj=>(by rw[en.b] at hj;cases hj),r.sn⟩⟩
 ·rcases get t with h|h
  ·rw[h];exact⟨⟩
  ·exact(iQ r h (r.slt t)).rv
 ·obtain⟨cs,h1,h2⟩:=ou hb i gQ (dP hi);obtain⟨vs,t,g1,g2,g3,g4⟩:=r.box i cs h1;refine⟨vs,t,g1,g2,?_,oe r h2 g4⟩;unfold Env.ma;simp only[g3]
 ·rcases get t with h|h
  ·rw[h] at hb;cases hb
  ·exact(iu h).1 b hb
 ·rcases get t with h|h
  ·rw[h] at hp;cases hp
  ·obtain⟨R,h1,h2⟩:=(iu h).2 p hp;exact⟨R,h1,Nat.le_of_eq h2.symm⟩
 ·obtain⟨DV,h1,h2⟩:=ou hb b cs (dP dL);obtain⟨R,h3,h4⟩:=od h2 p hp;exact⟨R,h3,Nat.le_of_eq h4.symm⟩
 ·exact Nb (aN.1 uF.1 (b,cs) (dP dL))
 ·exact Nb (aN.1 uF.2 (τ,R) (dP hR))
 ·rcases r.mi b hb with⟨h1,h2⟩|h1
  ·exact .inl ⟨aaO b h1,h2⟩
  ·exact .inr (abE b h1)
 ·obtain⟨h1,h2⟩:=r.gh b x hx;exact⟨h1,h2.elim (fun h=>.inl ⟨aaO b h.1,h.2⟩) (fun h=>.inr ⟨abE b h.1,h.2⟩)⟩
def ka:Nat->List AV->List (Nat × AV)
 | _,[]=>[]
 | i,a :: dH=>(i,a) :: ka (i+1) dH
theorem jm:∀ (dH:List AV) (i t:Nat),lk (ka i dH) t=if i<=t then dH[t - i]? else none
 | [],i,t=>by simp[ka,lk]
 | a :: dH,i,t=>by
  rw[ka,bZ,jm dH (i+1) t]
  by_cases h:i=t
  ·subst h;simp
  ·rw[if_neg h]
   by_cases h2:i<=t
   ·rw[if_pos h2,if_pos (by omega),show t - i=t - (i+1)+1 by omega,List.getElem?_cons_succ]
   ·rw[if_neg h2,if_neg (by omega)]
def zo (T:Nat->Option Ty)(st:St):ResultVar->Option AV
 | .tmp t=>some (st.get t)
 | .cell a t=>match T t,st.get a with
  | some y,.ptr b o=>(match lk st.bx b with
   | some cs=>cut y cs o
   | none=>none)
  | _,_=>none
def SJ (T:Nat->Option Ty)(st:St)(m:List (Nat × Nat))(dB:List (Nat × Row)):List ResultVar->List AV->Prop
 | [],[]=>True
 | x :: xs,r :: rs=>(match zo T st x with
  | some v=>F8 st m dB [] v r
  | none=>False)/\SJ T st m dB xs rs
 | _,_=>False
def Fin (T:Nat->Option Ty)(fn:Func)(st:St)(m:List (Nat × Nat))(r:AV)(rs:List Row):Prop:=OV m=true/\TQ st m (jc 0 0 rs)/\(match fn.results.toList with
 | [x]=>(match zo T st x with
  | some v=>F8 st m (jc 0 0 rs) [] v r
  | none=>False)
 | xs=>(match r with
  | .fH ys=>SJ T st m (jc 0 0 rs) xs ys
  | _=>False))
def DK (T:Nat->Option Ty)(fn:Func)(r:AV)(rs:List Row)(e:Ex)(st:St):Prop:=match e with
 | .exit _=>False
 | _=>∃ m,Fin T fn st m r rs
end
section
variable {P:Program}{T:Nat->Option Ty}
theorem nu {a:AV}(h:a.plain=true):a.dJ=[]/\a.cB=[]:=by
 cases a with
 | c x=>cases x <;> first | exact⟨rfl,rfl⟩ | (cases h;done)
 | agg xs=>
  refine⟨rfl,?_⟩;show xs.flatMap Ce.cB=[];have h:xs.all Ce.plain=true:=h;rw[List.flatMap_eq_nil_iff];intro c hc;have:=aN.1 h c hc
  cases c <;> first|rfl|(cases this;done)
 | eE=>exact⟨rfl,rfl⟩
 | dv xs o=>exact⟨rfl,rfl⟩
 | kp f cs=>exact⟨rfl,rfl⟩
 | _=>cases h
def j7 (a:Act):ResultVar->Sem Value
 | .tmp t=>Pure.pure (a.tmps.getD t undef)
 | .cell b t=>do loadVar t (<- asAddr (a.tmps.getD b undef))
theorem j6 {E:Env}{w:World}{n0 N n:Nat}{O:gD}{st:St}{a:Act}(hT:dg P T)(r:ca O E w n0 N n st a){x:ResultVar}{v:AV}(h:zo T st x=some v):∃ u,(j7 a x).run P w=.ok u w/\RV E w u v:=by
 cases x with
 | tmp t=>
  cases h
  exact⟨_,rfl,r.slt t⟩
 | cell b t=>
  unfold zo at h;simp only at h;split at h
  ·rename_i y b' o hy hb;split at h
   ·rename_i cs dL;have hv:=r.slt b;rw[hb] at hv;have hv:a.tmps.getD b undef=.pointer (some ⟨E.bk b',o,none⟩):=hv;obtain⟨vs,h1,h2⟩:=(r.box b' cs dL).cells;obtain⟨u,hu,hr⟩:=nX (P:=P) (hT.ty t y hy) h1 h2 h;refine⟨u,?_,hr.rv⟩;rw[bu] at hu;simp only[j7,hv,asAddr,Sem.run_bind,Sem.run_pure,Result.andThen_ok];simpa [Instr.loadAt,Instr.sureAddr] using hu
   ·cases h
  ·cases h
theorem Bx {E:Env}{w:World}{n0 N n:Nat}{O:gD}{st:St}{a:Act}{m:List (Nat × Nat)}{dB:List (Nat × Row)}(hT:dg P T)(r:ca O E w n0 N n st a):∀ {xs:List ResultVar} {rs:List AV},SJ T st m dB xs rs->∃ us:List Value,(xs.mapM (j7 a)).run P w=.ok us w/\A2 (R1 (E.ma st m) w) us rs
 | [],[],_=>⟨[],by simp,.nil⟩
 | x :: xs,y :: ys,h=>by
  obtain⟨h1,h2⟩:=h;split at h1
  ·rename_i v hv;obtain⟨u,hu,hr⟩:=j6 hT r hv;obtain⟨us,n7,ha⟩:=Bx hT r h2;refine⟨u :: us,?_,.cons (iQ r h1 hr) ha⟩;rw[List.mapM_cons,Sem.run_bind,hu];simp only[Result.andThen_ok,Sem.run_bind,n7,Sem.run_pure]
  ·exact h1.elim
 | [],_ :: _,h=>h.elim
 | _ :: _,[],h=>h.elim
theorem By {st:St}{m:List (Nat × Nat)}{dB:List (Nat × Row)}:∀ {xs:List ResultVar} {rs:List AV},SJ T st m dB xs rs->xs.length=rs.length
 | [],[],_=>rfl
 | _ :: _,_ :: _,h=>by simp[By h.2]
 | [],_ :: _,h=>h.elim
 | _ :: _,[],h=>h.elim
theorem Aw {E:Env}{w:World}{n0 N n:Nat}{O:gD}{st:St}{a:Act}{m:List (Nat × Nat)}{fn:Func}{rv:AV}{rs:List Row}(hT:dg P T)(r:ca O E w n0 N n st a)(h:Fin T fn st m rv rs):∃ u,(results fn a.tmps).run P w=.ok u w/\RV (E.ma st m) w u rv:=by
 obtain⟨_,_,h⟩:=h
 have e:(results fn a.tmps).run P w=((fn.results.toList.mapM (j7 a)).run P w).andThen fun vs w'=>.ok (if h:vs.toArray.size=1 then vs.toArray[0] else .tuple vs.toArray) w':=by
  have e3:results fn a.tmps=(do
    let vs <- fn.results.mapM (j7 a)
    Pure.pure (if h:vs.size=1 then vs[0] else .tuple vs)):=by
   unfold results
   exact congrArg (fun g:ResultVar->Sem Value=>(do
    let vs <- fn.results.mapM g
    Pure.pure (if h:vs.size=1 then vs[0] else .tuple vs):Sem Value)) (funext fun x=>by cases x <;> rfl)
  rw[e3,Array.mapM_eq_mapM_toList];simp only[Sem.run_bind,Sem.run_map,Sem.run_pure]
  cases ((fn.results.toList.mapM (j7 a)).run P w) <;> rfl
 rw[e];split at h
 ·rename_i x hx;rw[hx];split at h
  ·rename_i v hv;obtain⟨u,hu,hr⟩:=j6 hT r hv;refine⟨u,?_,(iQ r h hr).rv⟩;rw[List.mapM_cons,List.mapM_nil,Sem.run_bind,hu];simp
  ·exact h.elim
 ·rename_i xs gX;split at h
  ·rename_i ys;obtain⟨us,n7,ha⟩:=Bx hT r h;have hl:=By h;refine⟨.tuple us.toArray,?_,⟨us,rfl,ha⟩⟩;rw[n7]
   have:¬ us.toArray.size=1:=fun h1=>by
    have h2:=ha.len;rw[List.size_toArray] at h1;rw[h1,<- hl] at h2
    cases hq:fn.results.toList with
    | nil=>rw[hq] at h2;cases h2
    | cons x l=>
     cases l with
     | nil=>exact gX x hq
     | cons _ _=>rw[hq] at h2;simp at h2
   simp only[Result.andThen_ok,dif_neg this]
  ·exact h.elim
def Bz (rv:AV)(rs:List Row):Bool:=rv.dJ.isEmpty&&(rs.all Row.shut&&rv.cB.all fun p=>match rs[p.1]? with
 | some R=>Nat.ble p.2 R.bo
 | none=>false)
theorem zn {rv:AV}{rs:List Row}(h:Bz rv rs=true):(∀ x∈rv.dJ,False)/\(∀ x∈rv.cB,∃ R,rs[x.1]? = some R/\x.2<=R.bo)/\∀ R∈rs,R.shut=true:=by
 unfold Bz at h;rw[ag,ag,List.isEmpty_iff] at h;refine⟨fun x hx=>(by rw[h.1] at hx;cases hx),fun x hx=>?_,fun R hR=>aN.1 h.2.1 R hR⟩;have h2:=aN.1 h.2.2 x hx;split at h2
 ·rename_i R hR;exact⟨R,hR,Nb h2⟩
 ·cases h2
theorem bT {f:FuncId}{fn:Func}{c:Code}{dH:List AV}{rv:AV}{rs:List Row}(hf:P.funcs[f]? = some fn)(hb:fn.body=some c)(he:KP P f)(hT:dg P T)(hc:aaV fn.ntmps c=true)(hn:Nat.ble dH.length fn.ntmps=true)(mq:dH.all AV.plain=true)(VT:Nat.ble rs.length 128=true)(mU:Bz rv rs=true)
  (h:∀ w0 O [en O],Tp P T fn.ntmps w0 O c ⟨ka 0 dH,[],[],0⟩ (DK T fn rv rs)):Ct P f dH rv rs false:=by
 have mU:=zn mU;refine⟨he,Nb VT,mU.2.2,mq,mU.1,mU.2.1,fun w vs E0 lJ ha=>?_⟩;have hlen:=ha.len;have hn:=Nb hn;refine calls_of_wp hf hb ?_
 obtain⟨E,FI,Ak,NH⟩:∃ E:Env,(∀ b,b < w.heap.size->E0.rl b=.bz->E.rl b=.bz)/\(∀ b,E.rl b=.bz->E0.rl b=.bz)/\(∀ b,E.rl b=.bz\/E.rl b=.dX):=by
  refine⟨⟨fun b=>match E0.rl b with
   | .bz=>.bz
   | _=>.dX,fun _=>0,fun _ _=>undef⟩,fun b _ h=>by simp only[h],fun b h=>?_,fun b=>?_⟩
  ·simp only at h;split at h
   ·rename_i e;exact e
   ·cases h
  ·simp only;split
   ·exact .inl rfl
   ·exact .inr rfl
 have rt:∀ {v t},RT E0.F w v t->RT E.F w v t:=fun h=>by
  refine h.frame (al _) (fun _ _ _=>rfl) (fun b hb aS=>FI b aS hb)
 have Uj:∀ {v t},iR E0.F w v t->iR E.F w v t:=fun h=>by
  refine h.frame (al _) (fun _ _ _=>rfl) (fun b hb aS=>FI b aS hb)
 have rc:∀ {v c},Ce.plain c=true->RC E0 w v c->RC E w v c:=fun {v c} hp h=>by
  cases c with
  | t x=>exact rt h
  | nil=>exact h
  | _=>cases hp
 have a2:∀ {vs cs},cs.all Ce.plain=true->A2 (RC E0 w) vs cs->A2 (RC E w) vs cs:=fun {vs cs} hp h=>by
  induction h with
  | nil=>exact .nil
  | cons h1 _ ih=>
   rw[List.all_cons,ag] at hp;exact .cons (rc hp.1 h1) (ih hp.2)
 have ri:∀ {v:Value} {xs:List Tr} {o:Nat},RI E0 w v xs o->RI E w v xs o:=fun h=>by
  obtain⟨g,p,vs,rfl,h1,h2,h3,h4⟩:=h;exact⟨g,p,vs,rfl,FI g h2 h1,h2,h3,Uj h4⟩
 have r1:∀ {v a},AV.plain a=true->R1 E0 w v a->R1 E w v a:=fun {v a} hp h=>by
  cases a with
  | c x=>exact rc hp h
  | agg xs=>
   obtain⟨vs,rfl,h⟩:=h;exact⟨vs,rfl,a2 hp h⟩
  | eE=>exact h
  | dv xs o=>exact ri h
  | kp f cs=>
   obtain⟨us,rfl,h⟩:=h;exact⟨us,rfl,h.imp fun _ _ _ h=>ri h⟩
  | _=>cases hp
 have iX:aaP ⟨fun b=>E0.rl b=.bz,fun b=>if b=0 then w.heap[0]? else none,fun _=>none,fun _=>none,0,[]⟩ E w w.heap.size fn.ntmps ⟨ka 0 dH,[],[],0⟩ { tmps:=vs.toArray++Array.replicate (fn.ntmps - vs.toArray.size) undef,defers:=[] }:=by
  have slot:∀ t,∀ a,dH[t]? = some a->AV.plain a=true:=fun t a ht=>aN.1 mq a (aU ht)
  refine⟨rfl,by simp only[Array.size_append,List.size_toArray,Array.size_replicate];omega,fun t=>?_,fun _ _ h=>(by cases h),fun _ _ h=>(by cases h),⟨fun t b hb=>?_,fun t p hp=>?_,fun _ _ h=>(by cases h),fun _ _ h=>(by cases h),fun _ _ h=>(by cases h),fun _ _ _ h=>(by cases h)⟩,al _,fun b _=>(NH b).elim (fun h=>.inl ⟨h,Ak b h⟩) .inr,fun b x hb=>(by
   have hb:(if b=0 then w.heap[0]? else none)=some x:=hb;split at hb
   ·rename_i h0;subst h0;exact⟨hb,(NH 0).elim (fun h=>.inl ⟨h,Ak 0 h⟩) fun h=>.inr ⟨h,fun hc=>by rw[FI 0 lJ.lt hc] at h;cases h⟩⟩
   ·cases hb),fun _ _ h=>(by cases h),fun _ _ h=>(by cases h),aD _⟩
  ·show RV E w _ (match lk (ka 0 dH) t with|some v=>v|none=>.bot);rw[jm,if_pos (aD _),Nat.sub_zero]
   cases ht:dH[t]? with
   | none=>exact⟨⟩
   | some a=>
    obtain⟨u,hu,hr⟩:=ha.get t a ht;have aS:=(an.1 hu).1;rw[Array.getD_eq_getD_getElem?,Array.getElem?_append_left (by simpa using aS),List.getElem?_toArray,hu];exact(r1 (slot t a ht) hr).rv
  ·have hb:b∈(match lk (ka 0 dH) t with|some v=>v|none=>AV.bot).dJ:=hb;rw[jm,if_pos (aD _),Nat.sub_zero] at hb
   cases ht:dH[t]? with
   | none=>rw[ht] at hb;cases hb
   | some a=>
    rw[ht] at hb;have hb:b∈a.dJ:=hb;rw[(nu (slot t a ht)).1] at hb
    cases hb
  ·have hp:p∈(match lk (ka 0 dH) t with|some v=>v|none=>AV.bot).cB:=hp;rw[jm,if_pos (aD _),Nat.sub_zero] at hp
   cases ht:dH[t]? with
   | none=>rw[ht] at hp;cases hp
   | some a=>
    rw[ht] at hp;have hp:p∈a.cB:=hp;rw[(nu (slot t a ht)).2] at hp
    cases hp
 haveI:en ⟨fun b=>E0.rl b=.bz,fun b=>if b=0 then w.heap[0]? else none,fun _=>none,fun _=>none,0,[]⟩:=qb (fun _=>rfl) (fun _=>rfl) lJ rfl
 refine wp_mono (h w ⟨fun b=>E0.rl b=.bz,fun b=>if b=0 then w.heap[0]? else none,fun _=>none,fun _=>none,0,[]⟩ hT hc E _ w iX (Below.refl _ _)) fun e a' w' hp=>?_
 have fin:∀ st E',(∃ m,Fin T fn st m rv rs)->aaP ⟨fun b=>E0.rl b=.bz,fun b=>if b=0 then w.heap[0]? else none,fun _=>none,fun _=>none,0,[]⟩ E' w' w.heap.size fn.ntmps st a'->Below w.heap.size w w'->a'.defers=[]/\∃ v,(results fn a'.tmps).run P w'=.ok v w'/\∃ v',Ending.returned v=.returned v'/\Below w.heap.size w w'/\∃ E,RV E w' v' rv/\(∀ j R,rs[j]? = some R->RR E w' w.heap.size j R)/\(∀ b,b < w.heap.size->E.rl b=.bz->false=false/\E0.rl b=.bz):=fun st E' hm r hb=>by
  obtain⟨m,pg⟩:=hm;obtain⟨u,hu,hr⟩:=Aw hT r pg;refine⟨r.xc,u,hu,u,rfl,hb,E'.ma st m,hr,fun j R hj=>?_,fun b hb hc=>⟨rfl,?_⟩⟩
  ·refine rN r pg.1 (l8 pg.2.1 j R (dP ?_));rw[eG,if_pos (by omega)];simpa using hj
  ·rcases r.mi b hb with⟨_,h2⟩|h1
   ·exact h2
   ·rw[abE b h1] at hc
    cases hc
 cases e with
 | normal=>
  obtain⟨st,E',hq,r,eF⟩:=hp;exact fin st E' hq r eF
 | ret=>
  obtain⟨st,E',hq,r,eF⟩:=hp;exact fin st E' hq r eF
 | exit id=>
  obtain⟨st,E',hq,r,eF⟩:=hp;exact hq.elim
 | goto l=>exact hp.elim
 | panic ch=>exact hp.elim
 | outgrown=>exact hp.elim
theorem Le (P:Program)(XS:List (Nat × Ty))(h1:XS.all (fun p=>gg P p.1 p.2)=true)(h2:P.follows .mixedOrders=true):dg P (lk XS):=
 ⟨fun t y h=>aN.1 h1 (t,y) (dP h),h2⟩
theorem cS {t:Bool}{A B:Prop}(h1:t=true->A)(h2:t=false->B):cond t A B:=by
 cases t
 ·exact h2 rfl
 ·exact h1 rfl
theorem eu {t:Bool}{A B:Prop}(ht:t=true)(h:A):cond t A B:=by rw[ht];exact h
theorem cQ {t:Bool}{A B:Prop}(ht:t=false)(h:B):cond t A B:=by rw[ht];exact h
theorem aV {st:St}{m:List (Nat × Nat)}{dB:List (Nat × Row)}:∀ (cs:List Ce),cs.all Ce.plain=true->DM st m dB cs cs
 | [],_=>trivial
 | c :: cs,h=>by
  rw[List.all_cons,ag] at h;refine⟨?_,aV cs h.2⟩
  cases c with
  | t x=>exact rfl
  | nil=>exact⟨⟩
  | row _ _=>cases h.1
  | bot=>cases h.1
theorem fU (n:Nat)(h:n+1 < 9223372036854775808):IntKind.i64.wrap ((n:Int)+1)=((n+1:Nat):Int):=by rw[ak];omega
end
def ba:Nat:=140737488352256
mutual
def xC:K->Tr->Prop
 | .lit .int,t=>∃ n,t=iv n
 | .lit .u64,t=>∃ n,t=.lit (.int .u64 n)
 | .lit .bool,t=>∃ b,t=bv b
 | .lit .str,t=>∃ s,t=sv s
 | .sl e ky,t=>∃ xs,t=.sl e.length xs/\xs.length*ky<=ba/\∀ ts∈xs,mH e ts
def mH:List K->List Tr->Prop
 | [],ts=>ts=[]
 | k :: ks,ts=>∃ t r,ts=t :: r/\xC k t/\mH ks r
end
mutual
def Tr.d:Tr->D
 | .lit v=>.lit v
 | .sl _ xs=>.sl (W0 xs)
 | .mp xs=>.sl (W0 xs)
def XR:List Tr->List D
 | []=>[]
 | t :: ts=>t.d :: XR ts
def W0:List (List Tr)->List (List D)
 | []=>[]
 | ts :: xs=>XR ts :: W0 xs
end
theorem Pn (ts:List Tr):XR ts=ts.map Tr.d:=by
 induction ts with
 | nil=>simp[XR]
 | cons t ts ih=>simp[XR,ih]
theorem Po (xs:List (List Tr)):W0 xs=xs.map (fun ts=>ts.map Tr.d):=by
 induction xs with
 | nil=>simp[W0]
 | cons t ts ih=>simp[W0,ih,Pn]
theorem Tr.ZR (k:Nat)(xs:List (List Tr)):(Tr.sl k xs).d=.sl (xs.map fun ts=>ts.map Tr.d):=by rw[Tr.d,Po]
theorem Tr.ZS (v:Value):(Tr.lit v).d=.lit v:=by rw[Tr.d]
theorem NR {k:Lk}{t:Tr}:xC (.lit k) t↔∃ v,isLit k v/\t=.lit v:=by
 cases k <;> rw[xC] <;> constructor
 ·rintro⟨n,rfl⟩;exact⟨_,⟨n,rfl⟩,rfl⟩
 ·rintro⟨v,⟨n,rfl⟩,rfl⟩;exact⟨n,rfl⟩
 ·rintro⟨n,rfl⟩;exact⟨_,⟨n,rfl⟩,rfl⟩
 ·rintro⟨v,⟨n,rfl⟩,rfl⟩;exact⟨n,rfl⟩
 ·rintro⟨n,rfl⟩;exact⟨_,⟨n,rfl⟩,rfl⟩
 ·rintro⟨v,⟨n,rfl⟩,rfl⟩;exact⟨n,rfl⟩
 ·rintro⟨n,rfl⟩;exact⟨_,⟨n,rfl⟩,rfl⟩
 ·rintro⟨v,⟨n,rfl⟩,rfl⟩;exact⟨n,rfl⟩
theorem HV {e:List K}{ky:Nat}{t:Tr}:xC (.sl e ky) t↔∃ xs,t=.sl e.length xs/\xs.length*ky<=ba/\∀ ts∈xs,mH e ts:=by rw[xC]
theorem Fm {k:Lk}{v:Value}(h:isLit k v):Fc v=true:=by cases k <;> obtain⟨n,rfl⟩:=h <;> rfl
theorem CU:∀ {ks:List K} {ts:List Tr},mH ks ts->ts.length=ks.length
 | [],ts,h=>by
  rw[mH] at h;rw[h];rfl
 | k :: ks,ts,h=>by
  rw[mH] at h;obtain⟨t,r,rfl,_,h⟩:=h;simp[CU h]
theorem lK {k:K}{ks:List K}{ts:List Tr}:mH (k :: ks) ts↔∃ t r,ts=t :: r/\xC k t/\mH ks r:=by rw[mH]
theorem NQ {ts:List Tr}:mH [] ts↔ts=[]:=by rw[mH]
theorem nH {t:Tr}:xC (.lit .int) t↔∃ n,t=iv n:=by rw[xC]
theorem aiI {t:Tr}:xC (.lit .u64) t↔∃ n,t=.lit (.int .u64 n):=by rw[xC]
theorem aeF {t:Tr}:xC (.lit .bool) t↔∃ b,t=bv b:=by rw[xC]
theorem fI {ks:List K}{ts:List Tr}(h:mH (.lit .int::ks) ts):∃ a us,ts=iv a::us/\mH ks us:=by
 obtain⟨_,us,rfl,k,q⟩:=lK.1 h;obtain⟨a,rfl⟩:=nH.1 k;exact⟨a,us,rfl,q⟩
theorem fB {ks:List K}{ts:List Tr}(h:mH (.lit .bool::ks) ts):∃ a us,ts=bv a::us/\mH ks us:=by
 obtain⟨_,us,rfl,k,q⟩:=lK.1 h;obtain⟨a,rfl⟩:=aeF.1 k;exact⟨a,us,rfl,q⟩
theorem gI {ks:List K}{a:Int}{us:List Tr}(h:mH ks us):mH (.lit .int::ks) (iv a::us):=lK.2 ⟨_,_,rfl,nH.2 ⟨_,rfl⟩,h⟩
theorem gB {ks:List K}{a:Bool}{us:List Tr}(h:mH ks us):mH (.lit .bool::ks) (bv a::us):=lK.2 ⟨_,_,rfl,aeF.2 ⟨_,rfl⟩,h⟩
theorem gN:mH [] []:=NQ.2 rfl
theorem abK {t:Tr}:xC (.lit .str) t↔∃ s,t=sv s:=by rw[xC]
theorem da:∀ {a b:List K} {ts:List Tr},mH (a++b) ts↔∃ t1 t2,ts=t1++t2/\mH a t1/\mH b t2
 | [],b,ts=>by
  rw[bF]
  exact⟨fun h=>⟨[],ts,rfl,NQ.2 rfl,h⟩,fun ⟨t1,t2,h1,h2,h3⟩=>by
   rw[NQ.1 h2] at h1;rw[h1];exact h3⟩
 | k :: a,b,ts=>by
  rw[List.cons_append,lK];constructor
  ·rintro⟨t,r,rfl,h1,h2⟩;obtain⟨t1,t2,rfl,h3,h4⟩:=da.1 h2;exact⟨t :: t1,t2,rfl,lK.2 ⟨t,t1,rfl,h1,h3⟩,h4⟩
  ·rintro⟨t1,t2,rfl,h1,h2⟩;obtain⟨t,r,rfl,h3,h4⟩:=lK.1 h1;exact⟨t,r++t2,rfl,h3,da.2 ⟨r,t2,rfl,h4,h2⟩⟩
theorem Ya {F:Nat->Prop}{w:World}{k:K}{v:Value}{d:D}(h:OL F ba w k v d):∃ t,xC k t/\t.d=d/\RT F w v t:=by
 refine OL.rec (motive_1:=fun k v d _=>∃ t,xC k t/\t.d=d/\RT F w v t) (motive_2:=fun ks vs ds _=>∃ ts,mH ks ts/\ts.map Tr.d=ds/\iR F w vs ts) (motive_3:=fun e b o xs _=>∃ ys,(∀ ts∈ys,mH e ts)/\ys.map (fun ts=>ts.map Tr.d)=xs/\qP F w e.length b o ys) ?_ ?_ ?_ ?_ ?_ ?_ ?_ h
 ·intro k v hl;exact⟨.lit v,NR.2 ⟨v,hl,rfl⟩,Tr.ZS v,.lit (Fm hl)⟩
 ·intro e ky ao cap hc;exact⟨.sl e.length [],HV.2 ⟨[],rfl,by simp,fun ts h=>by cases h⟩,by rw[Tr.ZR];rfl,.gi hc⟩
 ·intro e ky b o cap n xs h1 h2 h3 h4 h5 _ ih;obtain⟨ys,g1,g2,g3⟩:=ih;have hl:ys.length=xs.length:=by rw[<- g2,Lm]
  exact⟨.sl e.length ys,HV.2 ⟨ys,rfl,by rw[hl,<- h1];exact h3,g1⟩,by rw[Tr.ZR,g2],.iZ (by rw[hl];exact h1) h2 h4 h5 g3⟩
 ·exact⟨[],by rw[mH],rfl,.nil⟩
 ·intro k v d ks vs ds _ _ Fq Fp;obtain⟨t,g1,g2,g3⟩:=Fq;obtain⟨ts,g4,g5,g6⟩:=Fp;exact⟨t :: ts,by rw[mH];exact⟨t,ts,rfl,g1,g4⟩,by rw[bP,g2,g5],.cons g3 g6⟩
 ·intro e b o;exact⟨[],fun ts h=>(by cases h),rfl,.nil⟩
 ·intro e b o vs ds xs hc hL _ Fq Fp;obtain⟨ts,g1,g2,g3⟩:=Fq;obtain⟨ys,g4,g5,g6⟩:=Fp;refine⟨ts :: ys,fun x hx=>?_,by rw[bP,g2,g5],.cons (g3.len.trans (CU g1)) hc g3 g6⟩;rcases List.mem_cons.1 hx with rfl|hx
  ·exact g1
  ·exact g4 x hx
theorem LH {F:Nat->Prop}{w:World}:∀ {ks:List K} {vs:List Value} {ds:List D},xB F ba w ks vs ds->∃ ts,mH ks ts/\ts.map Tr.d=ds/\iR F w vs ts
 | _,_,_,.nil=>⟨[],by rw[mH],rfl,.nil⟩
 | _,_,_,.cons h1 h2=>by
  obtain⟨t,g1,g2,g3⟩:=Ya h1;obtain⟨ts,g4,g5,g6⟩:=LH h2;exact⟨t :: ts,by rw[mH];exact⟨t,ts,rfl,g1,g4⟩,by rw[bP,g2,g5],.cons g3 g6⟩
theorem fX {α:Type}{enc:α->List Tr}{ok:α->Prop}{e:List K}(h:∀ ts,mH e ts->∃ x,ok x/\ts=enc x):∀ {xs:List (List Tr)},(∀ ts∈xs,mH e ts)->∃ l:List α,xs=l.map enc/\∀ y∈l,ok y
 | [],_=>⟨[],rfl,fun y h=>by cases h⟩
 | ts :: xs,hx=>by
  obtain⟨x,h1,rfl⟩:=h ts (hx ts aC);obtain⟨l,rfl,h3⟩:=fX h (xs:=xs) fun t ht=>hx t (aK _ ht)
  exact⟨x :: l,rfl,fun y hy=>by
   rcases List.mem_cons.1 hy with rfl|hy
   ·exact h1
   ·exact h3 y hy⟩
def eI (i:Int):List Tr:=[iv i]
theorem aaQ (ts:List Tr)(h:mH [.lit .int] ts):∃ x:Int,True/\ts=eI x:=by
 rw[mH] at h;obtain⟨t,r,rfl,h1,h2⟩:=h;rw[xC] at h1;rw[mH] at h2;obtain⟨n,rfl⟩:=h1;exact⟨n,trivial,by rw[h2];rfl⟩
def eS (s:ByteArray):List Tr:=[sv s]
theorem agG (ts:List Tr)(h:mH [.lit .str] ts):∃ x:ByteArray,True/\ts=eS x:=by
 rw[mH] at h;obtain⟨t,r,rfl,h1,h2⟩:=h;rw[xC] at h1;rw[mH] at h2;obtain⟨n,rfl⟩:=h1;exact⟨n,trivial,by rw[h2];rfl⟩
end
section
open Go
structure cq where
 je:Int
 kH:Int
 Cm:Int
 ye:Int
 yd:Int
 yc:Int
 yb:Int
 ya:Int
 x9:Int
 failed:Bool
 lost:Bool
 cW:List Int
 hand:List Int
 dI:List Int
def cq.enc (x:cq):List Tr:=[iv x.je,iv x.kH,iv x.Cm,iv x.ye,iv x.yd,iv x.yc,iv x.yb,iv x.ya,iv x.x9,bv x.failed,bv x.lost,.sl 1 (x.cW.map eI),.sl 1 (x.hand.map eI),.sl 1 (x.dI.map eI)]
def cq.ks:List K:=[.lit .int,.lit .int,.lit .int,.lit .int,.lit .int,.lit .int,.lit .int,.lit .int,.lit .int,.lit .bool,.lit .bool,.sl [.lit .int] 8,.sl [.lit .int] 8,.sl [.lit .int] 8]
def cq.ok (x:cq):Prop:=(x.cW.length*8<=ba)/\(x.hand.length*8<=ba)/\(x.dI.length*8<=ba)
theorem cq.abH {x:cq}(h:x.ok):x.cW.length*8<=ba:=h.1
theorem cq.aeV {x:cq}(h:x.ok):x.hand.length*8<=ba:=h.2.1
theorem cq.abC {x:cq}(h:x.ok):x.dI.length*8<=ba:=h.2.2
theorem cq.UW (ts:List Tr)(h:mH cq.ks ts):∃ x:cq,x.ok/\ts=x.enc:=by
 unfold cq.ks at h;obtain⟨a1,_,rfl,q1⟩:=fI h;obtain⟨a2,_,rfl,q2⟩:=fI q1;obtain⟨a3,_,rfl,q3⟩:=fI q2;obtain⟨a4,_,rfl,q4⟩:=fI q3;obtain⟨a5,_,rfl,q5⟩:=fI q4;obtain⟨a6,_,rfl,q6⟩:=fI q5;obtain⟨a7,_,rfl,q7⟩:=fI q6;obtain⟨a8,_,rfl,q8⟩:=fI q7;obtain⟨a9,_,rfl,q9⟩:=fI q8;obtain⟨a10,_,rfl,q10⟩:=fB q9;obtain⟨a11,_,rfl,q11⟩:=fB q10;obtain⟨_,_,rfl,YP,q12⟩:=lK.1 q11;obtain⟨_,rfl,anJ,asM⟩:=HV.1 YP;obtain⟨l12,rfl,aAa⟩:=fX aaQ asM;rw[Lm] at anJ;obtain⟨_,_,rfl,YO,q13⟩:=lK.1 q12;obtain⟨_,rfl,anH,asL⟩:=HV.1 YO;obtain⟨l13,rfl,azZ⟩:=fX aaQ asL;rw[Lm] at anH;obtain⟨_,_,rfl,k14,q14⟩:=lK.1 q13;obtain⟨_,rfl,anG,asK⟩:=HV.1 k14;obtain⟨l14,rfl,azY⟩:=fX aaQ asK;rw[Lm] at anG;obtain rfl:=NQ.1 q14;exact⟨⟨a1,a2,a3,a4,a5,a6,a7,a8,a9,a10,a11,l12,l13,l14⟩,⟨anJ,anH,anG⟩,rfl⟩
structure aE where
 id:Int
 dK:Int
 fG:Int
 aaB:Int
 cg:Int
 token:Bool
 eR:Bool
 oY:Bool
 jj:Bool
 fD:Int
 cL:Int
 cK:Int
 dh:Int
 du:Int
 copy:Int
 jD:Int
 blocked:Bool
 blocks:Int
 nh:Int
def aE.enc (x:aE):List Tr:=[iv x.id,iv x.dK,iv x.fG,iv x.aaB,iv x.cg,bv x.token,bv x.eR,bv x.oY,bv x.jj,iv x.fD,iv x.cL,iv x.cK,iv x.dh,iv x.du,iv x.copy,iv x.jD,bv x.blocked,iv x.blocks,iv x.nh]
def aE.ks:List K:=[.lit .int,.lit .int,.lit .int,.lit .int,.lit .int,.lit .bool,.lit .bool,.lit .bool,.lit .bool,.lit .int,.lit .int,.lit .int,.lit .int,.lit .int,.lit .int,.lit .int,.lit .bool,.lit .int,.lit .int]
def aE.ok (_:aE):Prop:=True
theorem aE.UW (ts:List Tr)(h:mH aE.ks ts):∃ x:aE,x.ok/\ts=x.enc:=by
 unfold aE.ks at h;obtain⟨a1,_,rfl,q1⟩:=fI h;obtain⟨a2,_,rfl,q2⟩:=fI q1;obtain⟨a3,_,rfl,q3⟩:=fI q2;obtain⟨a4,_,rfl,q4⟩:=fI q3;obtain⟨a5,_,rfl,q5⟩:=fI q4;obtain⟨a6,_,rfl,q6⟩:=fB q5;obtain⟨a7,_,rfl,q7⟩:=fB q6;obtain⟨a8,_,rfl,q8⟩:=fB q7;obtain⟨a9,_,rfl,q9⟩:=fB q8;obtain⟨a10,_,rfl,q10⟩:=fI q9;obtain⟨a11,_,rfl,q11⟩:=fI q10;obtain⟨a12,_,rfl,q12⟩:=fI q11;obtain⟨a13,_,rfl,q13⟩:=fI q12;obtain⟨a14,_,rfl,q14⟩:=fI q13;obtain⟨a15,_,rfl,q15⟩:=fI q14;obtain⟨a16,_,rfl,q16⟩:=fI q15;obtain⟨a17,_,rfl,q17⟩:=fB q16;obtain⟨a18,_,rfl,q18⟩:=fI q17;obtain⟨a19,_,rfl,q19⟩:=fI q18;obtain rfl:=NQ.1 q19;exact⟨⟨a1,a2,a3,a4,a5,a6,a7,a8,a9,a10,a11,a12,a13,a14,a15,a16,a17,a18,a19⟩,trivial,rfl⟩
structure ej where
 kind:Int
 n:Int
def ej.enc (x:ej):List Tr:=[iv x.kind,iv x.n]
def ej.ks:List K:=[.lit .int,.lit .int]
def ej.ok (_:ej):Prop:=True
theorem ej.UW (ts:List Tr)(h:mH ej.ks ts):∃ x:ej,x.ok/\ts=x.enc:=by
 unfold ej.ks at h;obtain⟨a1,_,rfl,q1⟩:=fI h;obtain⟨a2,_,rfl,q2⟩:=fI q1;obtain rfl:=NQ.1 q2;exact⟨⟨a1,a2⟩,trivial,rfl⟩
structure cC where
 cg:Int
 who:Int
 self:Int
 types:Int
 dC:Int
 dQ:Int
 dq:Int
 sub:ByteArray
 keys:Int
 mY:Int
 cV:ej
 cU:ej
 value:ej
def cC.enc (x:cC):List Tr:=[iv x.cg,iv x.who,iv x.self,iv x.types,iv x.dC,iv x.dQ,iv x.dq,sv x.sub,iv x.keys,iv x.mY,iv x.cV.kind,iv x.cV.n,iv x.cU.kind,iv x.cU.n,iv x.value.kind,iv x.value.n]
def cC.ks:List K:=[.lit .int,.lit .int,.lit .int,.lit .int,.lit .int,.lit .int,.lit .int,.lit .str,.lit .int,.lit .int]++(ej.ks++(ej.ks++(ej.ks)))
def cC.ok (x:cC):Prop:=(x.cV.ok)/\(x.cU.ok)/\(x.value.ok)
theorem cC.UW (ts:List Tr)(h:mH cC.ks ts):∃ x:cC,x.ok/\ts=x.enc:=by
 unfold cC.ks at h;obtain⟨_,_,rfl,g0,h1⟩:=da.1 h;obtain⟨a1,_,rfl,q1⟩:=fI g0;obtain⟨a2,_,rfl,q2⟩:=fI q1;obtain⟨a3,_,rfl,q3⟩:=fI q2;obtain⟨a4,_,rfl,q4⟩:=fI q3;obtain⟨a5,_,rfl,q5⟩:=fI q4;obtain⟨a6,_,rfl,q6⟩:=fI q5;obtain⟨a7,_,rfl,q7⟩:=fI q6;obtain⟨_,_,rfl,k8,q8⟩:=lK.1 q7;obtain⟨a8,rfl⟩:=abK.1 k8;obtain⟨a9,_,rfl,q9⟩:=fI q8;obtain⟨a10,_,rfl,q10⟩:=fI q9;obtain rfl:=NQ.1 q10;obtain⟨_,_,rfl,g1,h2⟩:=da.1 h1;obtain⟨y1,oy1,rfl⟩:=ej.UW _ g1;obtain⟨_,_,rfl,g2,h3⟩:=da.1 h2;obtain⟨y2,oy2,rfl⟩:=ej.UW _ g2;obtain⟨y3,oy3,rfl⟩:=ej.UW _ h3;exact⟨⟨a1,a2,a3,a4,a5,a6,a7,a8,a9,a10,y1,y2,y3⟩,⟨oy1,oy2,oy3⟩,rfl⟩
structure eb where
 kind:Int
 n:Int
 m:Int
 sub:ByteArray
 filter:cC
def eb.enc (x:eb):List Tr:=[iv x.kind,iv x.n,iv x.m,sv x.sub,iv x.filter.cg,iv x.filter.who,iv x.filter.self,iv x.filter.types,iv x.filter.dC,iv x.filter.dQ,iv x.filter.dq,sv x.filter.sub,iv x.filter.keys,iv x.filter.mY,iv x.filter.cV.kind,iv x.filter.cV.n,iv x.filter.cU.kind,iv x.filter.cU.n,iv x.filter.value.kind,iv x.filter.value.n]
def eb.ks:List K:=[.lit .int,.lit .int,.lit .int,.lit .str]++(cC.ks)
def eb.ok (x:eb):Prop:=(x.filter.ok)
theorem eb.UW (ts:List Tr)(h:mH eb.ks ts):∃ x:eb,x.ok/\ts=x.enc:=by
 unfold eb.ks at h;obtain⟨_,_,rfl,g0,h1⟩:=da.1 h;obtain⟨a1,_,rfl,q1⟩:=fI g0;obtain⟨a2,_,rfl,q2⟩:=fI q1;obtain⟨a3,_,rfl,q3⟩:=fI q2;obtain⟨_,_,rfl,k4,q4⟩:=lK.1 q3;obtain⟨a4,rfl⟩:=abK.1 k4;obtain rfl:=NQ.1 q4;obtain⟨y1,oy1,rfl⟩:=cC.UW _ h1;exact⟨⟨a1,a2,a3,a4,y1⟩,oy1,rfl⟩
structure eB where
 generic:Int
 x:Int
 fZ:Int
 fP:Int
 fO:Int
 fN:Int
 fM:Int
def eB.enc (x:eB):List Tr:=[iv x.generic,iv x.x,iv x.fZ,iv x.fP,iv x.fO,iv x.fN,iv x.fM]
def eB.ks:List K:=[.lit .int,.lit .int,.lit .int,.lit .int,.lit .int,.lit .int,.lit .int]
def eB.ok (_:eB):Prop:=True
theorem eB.UW (ts:List Tr)(h:mH eB.ks ts):∃ x:eB,x.ok/\ts=x.enc:=by
 unfold eB.ks at h;obtain⟨a1,_,rfl,q1⟩:=fI h;obtain⟨a2,_,rfl,q2⟩:=fI q1;obtain⟨a3,_,rfl,q3⟩:=fI q2;obtain⟨a4,_,rfl,q4⟩:=fI q3;obtain⟨a5,_,rfl,q5⟩:=fI q4;obtain⟨a6,_,rfl,q6⟩:=fI q5;obtain⟨a7,_,rfl,q7⟩:=fI q6;obtain rfl:=NQ.1 q7;exact⟨⟨a1,a2,a3,a4,a5,a6,a7⟩,trivial,rfl⟩
structure pv where
 gv:eB
 mY:Bool
 lu:Bool
 je:Int
def pv.enc (x:pv):List Tr:=[iv x.gv.generic,iv x.gv.x,iv x.gv.fZ,iv x.gv.fP,iv x.gv.fO,iv x.gv.fN,iv x.gv.fM,bv x.mY,bv x.lu,iv x.je]
def pv.ks:List K:=eB.ks++([.lit .bool,.lit .bool,.lit .int])
def pv.ok (x:pv):Prop:=(x.gv.ok)
theorem pv.UW (ts:List Tr)(h:mH pv.ks ts):∃ x:pv,x.ok/\ts=x.enc:=by
 unfold pv.ks at h;obtain⟨_,_,rfl,g0,h1⟩:=da.1 h;obtain⟨y0,oy0,rfl⟩:=eB.UW _ g0;obtain⟨a1,_,rfl,q1⟩:=fB h1;obtain⟨a2,_,rfl,q2⟩:=fB q1;obtain⟨a3,_,rfl,q3⟩:=fI q2;obtain rfl:=NQ.1 q3;exact⟨⟨y0,a1,a2,a3⟩,oy0,rfl⟩
structure eh where
 when:Int
 who:Int
 filter:cC
def eh.enc (x:eh):List Tr:=[iv x.when,iv x.who,iv x.filter.cg,iv x.filter.who,iv x.filter.self,iv x.filter.types,iv x.filter.dC,iv x.filter.dQ,iv x.filter.dq,sv x.filter.sub,iv x.filter.keys,iv x.filter.mY,iv x.filter.cV.kind,iv x.filter.cV.n,iv x.filter.cU.kind,iv x.filter.cU.n,iv x.filter.value.kind,iv x.filter.value.n]
def eh.ks:List K:=[.lit .int,.lit .int]++(cC.ks)
def eh.ok (x:eh):Prop:=(x.filter.ok)
theorem eh.UW (ts:List Tr)(h:mH eh.ks ts):∃ x:eh,x.ok/\ts=x.enc:=by
 unfold eh.ks at h;obtain⟨_,_,rfl,g0,h1⟩:=da.1 h;obtain⟨a1,_,rfl,q1⟩:=fI g0;obtain⟨a2,_,rfl,q2⟩:=fI q1;obtain rfl:=NQ.1 q2;obtain⟨y1,oy1,rfl⟩:=cC.UW _ h1;exact⟨⟨a1,a2,y1⟩,oy1,rfl⟩
structure jL where
 bC:Bool
 aO:Bool
 filter:cC
def jL.enc (x:jL):List Tr:=[bv x.bC,bv x.aO,iv x.filter.cg,iv x.filter.who,iv x.filter.self,iv x.filter.types,iv x.filter.dC,iv x.filter.dQ,iv x.filter.dq,sv x.filter.sub,iv x.filter.keys,iv x.filter.mY,iv x.filter.cV.kind,iv x.filter.cV.n,iv x.filter.cU.kind,iv x.filter.cU.n,iv x.filter.value.kind,iv x.filter.value.n]
def jL.ks:List K:=[.lit .bool,.lit .bool]++(cC.ks)
def jL.ok (x:jL):Prop:=(x.filter.ok)
theorem jL.UW (ts:List Tr)(h:mH jL.ks ts):∃ x:jL,x.ok/\ts=x.enc:=by
 unfold jL.ks at h;obtain⟨_,_,rfl,g0,h1⟩:=da.1 h;obtain⟨a1,_,rfl,q1⟩:=fB g0;obtain⟨a2,_,rfl,q2⟩:=fB q1;obtain rfl:=NQ.1 q2;obtain⟨y1,oy1,rfl⟩:=cC.UW _ h1;exact⟨⟨a1,a2,y1⟩,oy1,rfl⟩
structure F5 where
 kind:Int
 n:Int
 filter:cC
def F5.enc (x:F5):List Tr:=[iv x.kind,iv x.n,iv x.filter.cg,iv x.filter.who,iv x.filter.self,iv x.filter.types,iv x.filter.dC,iv x.filter.dQ,iv x.filter.dq,sv x.filter.sub,iv x.filter.keys,iv x.filter.mY,iv x.filter.cV.kind,iv x.filter.cV.n,iv x.filter.cU.kind,iv x.filter.cU.n,iv x.filter.value.kind,iv x.filter.value.n]
def F5.ks:List K:=[.lit .int,.lit .int]++(cC.ks)
def F5.ok (x:F5):Prop:=(x.filter.ok)
theorem F5.UW (ts:List Tr)(h:mH F5.ks ts):∃ x:F5,x.ok/\ts=x.enc:=by
 unfold F5.ks at h;obtain⟨_,_,rfl,g0,h1⟩:=da.1 h;obtain⟨a1,_,rfl,q1⟩:=fI g0;obtain⟨a2,_,rfl,q2⟩:=fI q1;obtain rfl:=NQ.1 q2;obtain⟨y1,oy1,rfl⟩:=cC.UW _ h1;exact⟨⟨a1,a2,y1⟩,oy1,rfl⟩
structure mG where
 kind:Int
 n:Int
 aaD:Int
 filter:cC
def mG.enc (x:mG):List Tr:=[iv x.kind,iv x.n,iv x.aaD,iv x.filter.cg,iv x.filter.who,iv x.filter.self,iv x.filter.types,iv x.filter.dC,iv x.filter.dQ,iv x.filter.dq,sv x.filter.sub,iv x.filter.keys,iv x.filter.mY,iv x.filter.cV.kind,iv x.filter.cV.n,iv x.filter.cU.kind,iv x.filter.cU.n,iv x.filter.value.kind,iv x.filter.value.n]
def mG.ks:List K:=[.lit .int,.lit .int,.lit .int]++(cC.ks)
def mG.ok (x:mG):Prop:=(x.filter.ok)
theorem mG.UW (ts:List Tr)(h:mH mG.ks ts):∃ x:mG,x.ok/\ts=x.enc:=by
 unfold mG.ks at h;obtain⟨_,_,rfl,g0,h1⟩:=da.1 h;obtain⟨a1,_,rfl,q1⟩:=fI g0;obtain⟨a2,_,rfl,q2⟩:=fI q1;obtain⟨a3,_,rfl,q3⟩:=fI q2;obtain rfl:=NQ.1 q3;obtain⟨y1,oy1,rfl⟩:=cC.UW _ h1;exact⟨⟨a1,a2,a3,y1⟩,oy1,rfl⟩
structure cZ where
 op:Int
 ref:F5
 bq:mG
 aaD:Int
 cg:Int
 dK:ByteArray
 filter:cC
 ye:Int
 yd:Int
 yc:Int
 yb:Int
 ya:Int
 x9:Int
 cA:List eb
def cZ.enc (x:cZ):List Tr:=[iv x.op,iv x.ref.kind,iv x.ref.n,iv x.ref.filter.cg,iv x.ref.filter.who,iv x.ref.filter.self,iv x.ref.filter.types,iv x.ref.filter.dC,iv x.ref.filter.dQ,iv x.ref.filter.dq,sv x.ref.filter.sub,iv x.ref.filter.keys,iv x.ref.filter.mY,iv x.ref.filter.cV.kind,iv x.ref.filter.cV.n,iv x.ref.filter.cU.kind,iv x.ref.filter.cU.n,iv x.ref.filter.value.kind,iv x.ref.filter.value.n,iv x.bq.kind,iv x.bq.n,iv x.bq.aaD,iv x.bq.filter.cg,iv x.bq.filter.who,iv x.bq.filter.self,iv x.bq.filter.types,iv x.bq.filter.dC,iv x.bq.filter.dQ,iv x.bq.filter.dq,sv x.bq.filter.sub,iv x.bq.filter.keys,iv x.bq.filter.mY,iv x.bq.filter.cV.kind,iv x.bq.filter.cV.n,iv x.bq.filter.cU.kind,iv x.bq.filter.cU.n,iv x.bq.filter.value.kind,iv x.bq.filter.value.n,iv x.aaD,iv x.cg,sv x.dK,iv x.filter.cg,iv x.filter.who,iv x.filter.self,iv x.filter.types,iv x.filter.dC,iv x.filter.dQ,iv x.filter.dq,sv x.filter.sub,iv x.filter.keys,iv x.filter.mY,iv x.filter.cV.kind,iv x.filter.cV.n,iv x.filter.cU.kind,iv x.filter.cU.n,iv x.filter.value.kind,iv x.filter.value.n,iv x.ye,iv x.yd,iv x.yc,iv x.yb,iv x.ya,iv x.x9,.sl 20 (x.cA.map eb.enc)]
def cZ.ks:List K:=[.lit .int]++(F5.ks++(mG.ks++([.lit .int,.lit .int,.lit .str]++(cC.ks++([.lit .int,.lit .int,.lit .int,.lit .int,.lit .int,.lit .int,.sl eb.ks 176])))))
def cZ.ok (x:cZ):Prop:=(x.ref.ok)/\(x.bq.ok)/\(x.filter.ok)/\(x.cA.length*176<=ba)/\(∀ y∈x.cA,eb.ok y)
theorem cZ.UW (ts:List Tr)(h:mH cZ.ks ts):∃ x:cZ,x.ok/\ts=x.enc:=by
 unfold cZ.ks at h;obtain⟨_,_,rfl,g0,h1⟩:=da.1 h;obtain⟨a1,_,rfl,q1⟩:=fI g0;obtain rfl:=NQ.1 q1;obtain⟨_,_,rfl,g1,h2⟩:=da.1 h1;obtain⟨y1,oy1,rfl⟩:=F5.UW _ g1;obtain⟨_,_,rfl,g2,h3⟩:=da.1 h2;obtain⟨y2,oy2,rfl⟩:=mG.UW _ g2;obtain⟨_,_,rfl,g3,h4⟩:=da.1 h3;obtain⟨a2,_,rfl,q2⟩:=fI g3;obtain⟨a3,_,rfl,q3⟩:=fI q2;obtain⟨_,_,rfl,k4,q4⟩:=lK.1 q3;obtain⟨a4,rfl⟩:=abK.1 k4;obtain rfl:=NQ.1 q4;obtain⟨_,_,rfl,g4,h5⟩:=da.1 h4;obtain⟨y4,oy4,rfl⟩:=cC.UW _ g4;obtain⟨a5,_,rfl,q5⟩:=fI h5;obtain⟨a6,_,rfl,q6⟩:=fI q5;obtain⟨a7,_,rfl,q7⟩:=fI q6;obtain⟨a8,_,rfl,q8⟩:=fI q7;obtain⟨a9,_,rfl,q9⟩:=fI q8;obtain⟨a10,_,rfl,q10⟩:=fI q9;obtain⟨_,_,rfl,k11,q11⟩:=lK.1 q10;obtain⟨_,rfl,anK,asN⟩:=HV.1 k11;obtain⟨l11,rfl,arO⟩:=fX eb.UW asN;rw[Lm] at anK;obtain rfl:=NQ.1 q11;exact⟨⟨a1,y1,y2,a2,a3,a4,y4,a5,a6,a7,a8,a9,a10,l11⟩,⟨oy1,oy2,oy4,anK,arO⟩,rfl⟩
structure gE where
 on:Int
 who:Int
 filter:cC
 ZQ:Int
 n:Int
 cg:Int
 aaD:Int
def gE.enc (x:gE):List Tr:=[iv x.on,iv x.who,iv x.filter.cg,iv x.filter.who,iv x.filter.self,iv x.filter.types,iv x.filter.dC,iv x.filter.dQ,iv x.filter.dq,sv x.filter.sub,iv x.filter.keys,iv x.filter.mY,iv x.filter.cV.kind,iv x.filter.cV.n,iv x.filter.cU.kind,iv x.filter.cU.n,iv x.filter.value.kind,iv x.filter.value.n,iv x.ZQ,iv x.n,iv x.cg,iv x.aaD]
def gE.ks:List K:=[.lit .int,.lit .int]++(cC.ks++([.lit .int,.lit .int,.lit .int,.lit .int]))
def gE.ok (x:gE):Prop:=(x.filter.ok)
theorem gE.UW (ts:List Tr)(h:mH gE.ks ts):∃ x:gE,x.ok/\ts=x.enc:=by
 unfold gE.ks at h;obtain⟨_,_,rfl,g0,h1⟩:=da.1 h;obtain⟨a1,_,rfl,q1⟩:=fI g0;obtain⟨a2,_,rfl,q2⟩:=fI q1;obtain rfl:=NQ.1 q2;obtain⟨_,_,rfl,g1,h2⟩:=da.1 h1;obtain⟨y1,oy1,rfl⟩:=cC.UW _ g1;obtain⟨a3,_,rfl,q3⟩:=fI h2;obtain⟨a4,_,rfl,q4⟩:=fI q3;obtain⟨a5,_,rfl,q5⟩:=fI q4;obtain⟨a6,_,rfl,q6⟩:=fI q5;obtain rfl:=NQ.1 q6;exact⟨⟨a1,a2,y1,a3,a4,a5,a6⟩,oy1,rfl⟩
structure cz where
 kind:Int
 filter:cC
 cA:List eb
 dW:pv
 Py:Bool
 aM:eh
 may:Bool
 specs:List jL
 dm:List cZ
 replace:gE
def cz.enc (x:cz):List Tr:=[iv x.kind,iv x.filter.cg,iv x.filter.who,iv x.filter.self,iv x.filter.types,iv x.filter.dC,iv x.filter.dQ,iv x.filter.dq,sv x.filter.sub,iv x.filter.keys,iv x.filter.mY,iv x.filter.cV.kind,iv x.filter.cV.n,iv x.filter.cU.kind,iv x.filter.cU.n,iv x.filter.value.kind,iv x.filter.value.n,.sl 20 (x.cA.map eb.enc),iv x.dW.gv.generic,iv x.dW.gv.x,iv x.dW.gv.fZ,iv x.dW.gv.fP,iv x.dW.gv.fO,iv x.dW.gv.fN,iv x.dW.gv.fM,bv x.dW.mY,bv x.dW.lu,iv x.dW.je,bv x.Py,iv x.aM.when,iv x.aM.who,iv x.aM.filter.cg,iv x.aM.filter.who,iv x.aM.filter.self,iv x.aM.filter.types,iv x.aM.filter.dC,iv x.aM.filter.dQ,iv x.aM.filter.dq,sv x.aM.filter.sub,iv x.aM.filter.keys,iv x.aM.filter.mY,iv x.aM.filter.cV.kind,iv x.aM.filter.cV.n,iv x.aM.filter.cU.kind,iv x.aM.filter.cU.n,iv x.aM.filter.value.kind,iv x.aM.filter.value.n,bv x.may,.sl 18 (x.specs.map jL.enc),.sl 64 (x.dm.map cZ.enc),iv x.replace.on,iv x.replace.who,iv x.replace.filter.cg,iv x.replace.filter.who,iv x.replace.filter.self,iv x.replace.filter.types,iv x.replace.filter.dC,iv x.replace.filter.dQ,iv x.replace.filter.dq,sv x.replace.filter.sub,iv x.replace.filter.keys,iv x.replace.filter.mY,iv x.replace.filter.cV.kind,iv x.replace.filter.cV.n,iv x.replace.filter.cU.kind,iv x.replace.filter.cU.n,iv x.replace.filter.value.kind,iv x.replace.filter.value.n,iv x.replace.ZQ,iv x.replace.n,iv x.replace.cg,iv x.replace.aaD]
def cz.ks:List K:=[.lit .int]++(cC.ks++([.sl eb.ks 176]++(pv.ks++([.lit .bool]++(eh.ks++([.lit .bool,.sl jL.ks 144,.sl cZ.ks 560]++(gE.ks)))))))
def cz.ok (x:cz):Prop:=(x.filter.ok)/\(x.cA.length*176<=ba)/\(∀ y∈x.cA,eb.ok y)/\(x.dW.ok)/\(x.aM.ok)/\(x.specs.length*144<=ba)/\(∀ y∈x.specs,jL.ok y)/\(x.dm.length*560<=ba)/\(∀ y∈x.dm,cZ.ok y)/\(x.replace.ok)
theorem cz.abD {x:cz}(h:x.ok):x.dm.length*560<=ba:=h.2.2.2.2.2.2.2.1
theorem cz.UW (ts:List Tr)(h:mH cz.ks ts):∃ x:cz,x.ok/\ts=x.enc:=by
 unfold cz.ks at h;obtain⟨_,_,rfl,g0,h1⟩:=da.1 h;obtain⟨a1,_,rfl,q1⟩:=fI g0;obtain rfl:=NQ.1 q1;obtain⟨_,_,rfl,g1,h2⟩:=da.1 h1;obtain⟨y1,oy1,rfl⟩:=cC.UW _ g1;obtain⟨_,_,rfl,g2,h3⟩:=da.1 h2;obtain⟨_,_,rfl,k2,q2⟩:=lK.1 g2;obtain⟨_,rfl,dD,mZ⟩:=HV.1 k2;obtain⟨l2,rfl,VH⟩:=fX eb.UW mZ;rw[Lm] at dD;obtain rfl:=NQ.1 q2;obtain⟨_,_,rfl,g3,h4⟩:=da.1 h3;obtain⟨y3,oy3,rfl⟩:=pv.UW _ g3;obtain⟨_,_,rfl,g4,h5⟩:=da.1 h4;obtain⟨a3,_,rfl,q3⟩:=fB g4;obtain rfl:=NQ.1 q3;obtain⟨_,_,rfl,g5,h6⟩:=da.1 h5;obtain⟨y5,oy5,rfl⟩:=eh.UW _ g5;obtain⟨_,_,rfl,g6,h7⟩:=da.1 h6;obtain⟨a4,_,rfl,q4⟩:=fB g6;obtain⟨_,_,rfl,k5,q5⟩:=lK.1 q4;obtain⟨_,rfl,hb5,hc5⟩:=HV.1 k5;obtain⟨l5,rfl,ho5⟩:=fX jL.UW hc5;rw[Lm] at hb5;obtain⟨_,_,rfl,k6,q6⟩:=lK.1 q5;obtain⟨_,rfl,hb6,hc6⟩:=HV.1 k6;obtain⟨l6,rfl,ho6⟩:=fX cZ.UW hc6;rw[Lm] at hb6;obtain rfl:=NQ.1 q6;obtain⟨y7,oy7,rfl⟩:=gE.UW _ h7;exact⟨⟨a1,y1,l2,y3,a3,y5,a4,l5,l6,y7⟩,⟨oy1,dD,VH,oy3,oy5,hb5,ho5,hb6,ho6,oy7⟩,rfl⟩
structure mF where
 aO:Int
 bC:Int
def mF.enc (x:mF):List Tr:=[iv x.aO,iv x.bC]
def mF.ks:List K:=[.lit .int,.lit .int]
def mF.ok (_:mF):Prop:=True
theorem mF.UW (ts:List Tr)(h:mH mF.ks ts):∃ x:mF,x.ok/\ts=x.enc:=by
 unfold mF.ks at h;obtain⟨a1,_,rfl,q1⟩:=fI h;obtain⟨a2,_,rfl,q2⟩:=fI q1;obtain rfl:=NQ.1 q2;exact⟨⟨a1,a2⟩,trivial,rfl⟩
structure bV where
 kind:Int
 fp:Int
 aO:Int
 bC:Int
 bq:Int
 from_:Int
 nQ:Int
 Ik:Int
 aaD:Int
 dK:Int
 AE:Bool
 eR:Bool
 sA:Int
 su:Int
 ss:Int
def bV.enc (x:bV):List Tr:=[iv x.kind,iv x.fp,iv x.aO,iv x.bC,iv x.bq,iv x.from_,iv x.nQ,iv x.Ik,iv x.aaD,iv x.dK,bv x.AE,bv x.eR,iv x.sA,iv x.su,iv x.ss]
def bV.ks:List K:=[.lit .int,.lit .int,.lit .int,.lit .int,.lit .int,.lit .int,.lit .int,.lit .int,.lit .int,.lit .int,.lit .bool,.lit .bool,.lit .int,.lit .int,.lit .int]
def bV.ok (_:bV):Prop:=True
theorem bV.UW (ts:List Tr)(h:mH bV.ks ts):∃ x:bV,x.ok/\ts=x.enc:=by
 unfold bV.ks at h;obtain⟨a1,_,rfl,q1⟩:=fI h;obtain⟨a2,_,rfl,q2⟩:=fI q1;obtain⟨a3,_,rfl,q3⟩:=fI q2;obtain⟨a4,_,rfl,q4⟩:=fI q3;obtain⟨a5,_,rfl,q5⟩:=fI q4;obtain⟨a6,_,rfl,q6⟩:=fI q5;obtain⟨a7,_,rfl,q7⟩:=fI q6;obtain⟨a8,_,rfl,q8⟩:=fI q7;obtain⟨a9,_,rfl,q9⟩:=fI q8;obtain⟨a10,_,rfl,q10⟩:=fI q9;obtain⟨a11,_,rfl,q11⟩:=fB q10;obtain⟨a12,_,rfl,q12⟩:=fB q11;obtain⟨a13,_,rfl,q13⟩:=fI q12;obtain⟨a14,_,rfl,q14⟩:=fI q13;obtain⟨a15,_,rfl,q15⟩:=fI q14;obtain rfl:=NQ.1 q15;exact⟨⟨a1,a2,a3,a4,a5,a6,a7,a8,a9,a10,a11,a12,a13,a14,a15⟩,trivial,rfl⟩
structure fq where
 id:Int
 kind:Int
 fp:Int
 aaB:Int
 x:Int
 copy:Bool
 ai:cz
 targets:List mF
 aeN:bV
def fq.enc (x:fq):List Tr:=[iv x.id,iv x.kind,iv x.fp,iv x.aaB,iv x.x,bv x.copy,iv x.ai.kind,iv x.ai.filter.cg,iv x.ai.filter.who,iv x.ai.filter.self,iv x.ai.filter.types,iv x.ai.filter.dC,iv x.ai.filter.dQ,iv x.ai.filter.dq,sv x.ai.filter.sub,iv x.ai.filter.keys,iv x.ai.filter.mY,iv x.ai.filter.cV.kind,iv x.ai.filter.cV.n,iv x.ai.filter.cU.kind,iv x.ai.filter.cU.n,iv x.ai.filter.value.kind,iv x.ai.filter.value.n,.sl 20 (x.ai.cA.map eb.enc),iv x.ai.dW.gv.generic,iv x.ai.dW.gv.x,iv x.ai.dW.gv.fZ,iv x.ai.dW.gv.fP,iv x.ai.dW.gv.fO,iv x.ai.dW.gv.fN,iv x.ai.dW.gv.fM,bv x.ai.dW.mY,bv x.ai.dW.lu,iv x.ai.dW.je,bv x.ai.Py,iv x.ai.aM.when,iv x.ai.aM.who,iv x.ai.aM.filter.cg,iv x.ai.aM.filter.who,iv x.ai.aM.filter.self,iv x.ai.aM.filter.types,iv x.ai.aM.filter.dC,iv x.ai.aM.filter.dQ,iv x.ai.aM.filter.dq,sv x.ai.aM.filter.sub,iv x.ai.aM.filter.keys,iv x.ai.aM.filter.mY,iv x.ai.aM.filter.cV.kind,iv x.ai.aM.filter.cV.n,iv x.ai.aM.filter.cU.kind,iv x.ai.aM.filter.cU.n,iv x.ai.aM.filter.value.kind,iv x.ai.aM.filter.value.n,bv x.ai.may,.sl 18 (x.ai.specs.map jL.enc),.sl 64 (x.ai.dm.map cZ.enc),iv x.ai.replace.on,iv x.ai.replace.who,iv x.ai.replace.filter.cg,iv x.ai.replace.filter.who,iv x.ai.replace.filter.self,iv x.ai.replace.filter.types,iv x.ai.replace.filter.dC,iv x.ai.replace.filter.dQ,iv x.ai.replace.filter.dq,sv x.ai.replace.filter.sub,iv x.ai.replace.filter.keys,iv x.ai.replace.filter.mY,iv x.ai.replace.filter.cV.kind,iv x.ai.replace.filter.cV.n,iv x.ai.replace.filter.cU.kind,iv x.ai.replace.filter.cU.n,iv x.ai.replace.filter.value.kind,iv x.ai.replace.filter.value.n,iv x.ai.replace.ZQ,iv x.ai.replace.n,iv x.ai.replace.cg,iv x.ai.replace.aaD,.sl 2 (x.targets.map mF.enc),iv x.aeN.kind,iv x.aeN.fp,iv x.aeN.aO,iv x.aeN.bC,iv x.aeN.bq,iv x.aeN.from_,iv x.aeN.nQ,iv x.aeN.Ik,iv x.aeN.aaD,iv x.aeN.dK,bv x.aeN.AE,bv x.aeN.eR,iv x.aeN.sA,iv x.aeN.su,iv x.aeN.ss]
def fq.ks:List K:=[.lit .int,.lit .int,.lit .int,.lit .int,.lit .int,.lit .bool]++(cz.ks++([.sl mF.ks 16]++(bV.ks)))
def fq.ok (x:fq):Prop:=(x.ai.ok)/\(x.targets.length*16<=ba)/\(∀ y∈x.targets,mF.ok y)/\(x.aeN.ok)
theorem fq.UW (ts:List Tr)(h:mH fq.ks ts):∃ x:fq,x.ok/\ts=x.enc:=by
 unfold fq.ks at h;obtain⟨_,_,rfl,g0,h1⟩:=da.1 h;obtain⟨a1,_,rfl,q1⟩:=fI g0;obtain⟨a2,_,rfl,q2⟩:=fI q1;obtain⟨a3,_,rfl,q3⟩:=fI q2;obtain⟨a4,_,rfl,q4⟩:=fI q3;obtain⟨a5,_,rfl,q5⟩:=fI q4;obtain⟨a6,_,rfl,q6⟩:=fB q5;obtain rfl:=NQ.1 q6;obtain⟨_,_,rfl,g1,h2⟩:=da.1 h1;obtain⟨y1,oy1,rfl⟩:=cz.UW _ g1;obtain⟨_,_,rfl,g2,h3⟩:=da.1 h2;obtain⟨_,_,rfl,k7,q7⟩:=lK.1 g2;obtain⟨_,rfl,hb7,hc7⟩:=HV.1 k7;obtain⟨l7,rfl,ho7⟩:=fX mF.UW hc7;rw[Lm] at hb7;obtain rfl:=NQ.1 q7;obtain⟨y3,oy3,rfl⟩:=bV.UW _ h3;exact⟨⟨a1,a2,a3,a4,a5,a6,y1,l7,y3⟩,⟨oy1,hb7,ho7,oy3⟩,rfl⟩
structure bW where
 fp:Int
 aaB:Int
 ai:cz
 aeN:bV
def bW.enc (x:bW):List Tr:=[iv x.fp,iv x.aaB,iv x.ai.kind,iv x.ai.filter.cg,iv x.ai.filter.who,iv x.ai.filter.self,iv x.ai.filter.types,iv x.ai.filter.dC,iv x.ai.filter.dQ,iv x.ai.filter.dq,sv x.ai.filter.sub,iv x.ai.filter.keys,iv x.ai.filter.mY,iv x.ai.filter.cV.kind,iv x.ai.filter.cV.n,iv x.ai.filter.cU.kind,iv x.ai.filter.cU.n,iv x.ai.filter.value.kind,iv x.ai.filter.value.n,.sl 20 (x.ai.cA.map eb.enc),iv x.ai.dW.gv.generic,iv x.ai.dW.gv.x,iv x.ai.dW.gv.fZ,iv x.ai.dW.gv.fP,iv x.ai.dW.gv.fO,iv x.ai.dW.gv.fN,iv x.ai.dW.gv.fM,bv x.ai.dW.mY,bv x.ai.dW.lu,iv x.ai.dW.je,bv x.ai.Py,iv x.ai.aM.when,iv x.ai.aM.who,iv x.ai.aM.filter.cg,iv x.ai.aM.filter.who,iv x.ai.aM.filter.self,iv x.ai.aM.filter.types,iv x.ai.aM.filter.dC,iv x.ai.aM.filter.dQ,iv x.ai.aM.filter.dq,sv x.ai.aM.filter.sub,iv x.ai.aM.filter.keys,iv x.ai.aM.filter.mY,iv x.ai.aM.filter.cV.kind,iv x.ai.aM.filter.cV.n,iv x.ai.aM.filter.cU.kind,iv x.ai.aM.filter.cU.n,iv x.ai.aM.filter.value.kind,iv x.ai.aM.filter.value.n,bv x.ai.may,.sl 18 (x.ai.specs.map jL.enc),.sl 64 (x.ai.dm.map cZ.enc),iv x.ai.replace.on,iv x.ai.replace.who,iv x.ai.replace.filter.cg,iv x.ai.replace.filter.who,iv x.ai.replace.filter.self,iv x.ai.replace.filter.types,iv x.ai.replace.filter.dC,iv x.ai.replace.filter.dQ,iv x.ai.replace.filter.dq,sv x.ai.replace.filter.sub,iv x.ai.replace.filter.keys,iv x.ai.replace.filter.mY,iv x.ai.replace.filter.cV.kind,iv x.ai.replace.filter.cV.n,iv x.ai.replace.filter.cU.kind,iv x.ai.replace.filter.cU.n,iv x.ai.replace.filter.value.kind,iv x.ai.replace.filter.value.n,iv x.ai.replace.ZQ,iv x.ai.replace.n,iv x.ai.replace.cg,iv x.ai.replace.aaD,iv x.aeN.kind,iv x.aeN.fp,iv x.aeN.aO,iv x.aeN.bC,iv x.aeN.bq,iv x.aeN.from_,iv x.aeN.nQ,iv x.aeN.Ik,iv x.aeN.aaD,iv x.aeN.dK,bv x.aeN.AE,bv x.aeN.eR,iv x.aeN.sA,iv x.aeN.su,iv x.aeN.ss]
def bW.ks:List K:=[.lit .int,.lit .int]++(cz.ks++(bV.ks))
def bW.ok (x:bW):Prop:=(x.ai.ok)/\(x.aeN.ok)
theorem bW.aaM {x:bW}(h:x.ok):x.ai.ok:=h.1
theorem bW.UW (ts:List Tr)(h:mH bW.ks ts):∃ x:bW,x.ok/\ts=x.enc:=by
 unfold bW.ks at h;obtain⟨_,_,rfl,g0,h1⟩:=da.1 h;obtain⟨a1,_,rfl,q1⟩:=fI g0;obtain⟨a2,_,rfl,q2⟩:=fI q1;obtain rfl:=NQ.1 q2;obtain⟨_,_,rfl,g1,h2⟩:=da.1 h1;obtain⟨y1,oy1,rfl⟩:=cz.UW _ g1;obtain⟨y2,oy2,rfl⟩:=bV.UW _ h2;exact⟨⟨a1,a2,y1,y2⟩,⟨oy1,oy2⟩,rfl⟩
structure iS where
 du:Int
 aaB:Int
 fp:Int
 K6:Int
 aa:List Int
 cA:List eb
def iS.enc (x:iS):List Tr:=[iv x.du,iv x.aaB,iv x.fp,iv x.K6,.sl 1 (x.aa.map eI),.sl 20 (x.cA.map eb.enc)]
def iS.ks:List K:=[.lit .int,.lit .int,.lit .int,.lit .int,.sl [.lit .int] 8,.sl eb.ks 176]
def iS.ok (x:iS):Prop:=(x.aa.length*8<=ba)/\(x.cA.length*176<=ba)/\(∀ y∈x.cA,eb.ok y)
theorem iS.vE {x:iS}(h:x.ok):x.aa.length*8<=ba:=h.1
theorem iS.aaR {x:iS}(h:x.ok):x.cA.length*176<=ba:=h.2.1
theorem iS.UW (ts:List Tr)(h:mH iS.ks ts):∃ x:iS,x.ok/\ts=x.enc:=by
 unfold iS.ks at h;obtain⟨a1,_,rfl,q1⟩:=fI h;obtain⟨a2,_,rfl,q2⟩:=fI q1;obtain⟨a3,_,rfl,q3⟩:=fI q2;obtain⟨a4,_,rfl,q4⟩:=fI q3;obtain⟨_,_,rfl,k5,q5⟩:=lK.1 q4;obtain⟨_,rfl,hb5,hc5⟩:=HV.1 k5;obtain⟨l5,rfl,ho5⟩:=fX aaQ hc5;rw[Lm] at hb5;obtain⟨_,_,rfl,k6,q6⟩:=lK.1 q5;obtain⟨_,rfl,hb6,hc6⟩:=HV.1 k6;obtain⟨l6,rfl,ho6⟩:=fX eb.UW hc6;rw[Lm] at hb6;obtain rfl:=NQ.1 q6;exact⟨⟨a1,a2,a3,a4,l5,l6⟩,⟨hb5,hb6,ho6⟩,rfl⟩
structure aA where
 az:List cq
 aa:List aE
 bw:List Int
 gn:List Int
 stack:List fq
 aaJ:List bW
 dG:List iS
 D8:Int
 w7:Int
 step:Int
 begun:Bool
 priority:Int
 vA:Int
 bE:Int
 bQ:Int
 gq:Int
 extra:List Int
 BT:Int
 uR:Int
def aA.enc (x:aA):List Tr:=[.sl 14 (x.az.map cq.enc),.sl 19 (x.aa.map aE.enc),.sl 1 (x.bw.map eI),.sl 1 (x.gn.map eI),.sl 94 (x.stack.map fq.enc),.sl 89 (x.aaJ.map bW.enc),.sl 6 (x.dG.map iS.enc),iv x.D8,iv x.w7,iv x.step,bv x.begun,iv x.priority,iv x.vA,iv x.bE,iv x.bQ,.lit (.int .u64 x.gq),.sl 1 (x.extra.map eI),iv x.BT,iv x.uR]
def aA.ks:List K:=[.sl cq.ks 152,.sl aE.ks 128,.sl [.lit .int] 8,.sl [.lit .int] 8,.sl fq.ks 824,.sl bW.ks 768,.sl iS.ks 80,.lit .int,.lit .int,.lit .int,.lit .bool,.lit .int,.lit .int,.lit .int,.lit .int,.lit .u64,.sl [.lit .int] 8,.lit .int,.lit .int]
def aA.ok (x:aA):Prop:=(x.az.length*152<=ba)/\(∀ y∈x.az,cq.ok y)/\(x.aa.length*128<=ba)/\(∀ y∈x.aa,aE.ok y)/\(x.bw.length*8<=ba)/\(x.gn.length*8<=ba)/\(x.stack.length*824<=ba)/\(∀ y∈x.stack,fq.ok y)/\(x.aaJ.length*768<=ba)/\(∀ y∈x.aaJ,bW.ok y)/\(x.dG.length*80<=ba)/\(∀ y∈x.dG,iS.ok y)/\(x.extra.length*8<=ba)
theorem aA.vE {x:aA}(h:x.ok):x.aa.length*128<=ba:=h.2.2.1
theorem aA.Mm {x:aA}(h:x.ok):x.dG.length*80<=ba:=h.2.2.2.2.2.2.2.2.2.2.1
theorem aA.Jj {x:aA}(h:x.ok):∀ y∈x.dG,iS.ok y:=h.2.2.2.2.2.2.2.2.2.2.2.1
theorem aA.UW (ts:List Tr)(h:mH aA.ks ts):∃ x:aA,x.ok/\ts=x.enc:=by
 unfold aA.ks at h;obtain⟨_,_,rfl,k1,q1⟩:=lK.1 h;obtain⟨_,rfl,xw,V6⟩:=HV.1 k1;obtain⟨l1,rfl,Nw⟩:=fX cq.UW V6;rw[Lm] at xw;obtain⟨_,_,rfl,k2,q2⟩:=lK.1 q1;obtain⟨_,rfl,dD,mZ⟩:=HV.1 k2;obtain⟨l2,rfl,VH⟩:=fX aE.UW mZ;rw[Lm] at dD;obtain⟨_,_,rfl,k3,q3⟩:=lK.1 q2;obtain⟨_,rfl,RA,Zx⟩:=HV.1 k3;obtain⟨l3,rfl,ho3⟩:=fX aaQ Zx;rw[Lm] at RA;obtain⟨_,_,rfl,k4,q4⟩:=lK.1 q3;obtain⟨_,rfl,hb4,hc4⟩:=HV.1 k4;obtain⟨l4,rfl,ho4⟩:=fX aaQ hc4;rw[Lm] at hb4;obtain⟨_,_,rfl,k5,q5⟩:=lK.1 q4;obtain⟨_,rfl,hb5,hc5⟩:=HV.1 k5;obtain⟨l5,rfl,ho5⟩:=fX fq.UW hc5;rw[Lm] at hb5;obtain⟨_,_,rfl,k6,q6⟩:=lK.1 q5;obtain⟨_,rfl,hb6,hc6⟩:=HV.1 k6;obtain⟨l6,rfl,ho6⟩:=fX bW.UW hc6;rw[Lm] at hb6;obtain⟨_,_,rfl,k7,q7⟩:=lK.1 q6;obtain⟨_,rfl,hb7,hc7⟩:=HV.1 k7;obtain⟨l7,rfl,ho7⟩:=fX iS.UW hc7;rw[Lm] at hb7;obtain⟨a8,_,rfl,q8⟩:=fI q7;obtain⟨a9,_,rfl,q9⟩:=fI q8;obtain⟨a10,_,rfl,q10⟩:=fI q9;obtain⟨a11,_,rfl,q11⟩:=fB q10;obtain⟨a12,_,rfl,q12⟩:=fI q11;obtain⟨a13,_,rfl,q13⟩:=fI q12;obtain⟨a14,_,rfl,q14⟩:=fI q13;obtain⟨a15,_,rfl,q15⟩:=fI q14;obtain⟨_,_,rfl,k16,q16⟩:=lK.1 q15;obtain⟨a16,rfl⟩:=aiI.1 k16;obtain⟨_,_,rfl,k17,q17⟩:=lK.1 q16;obtain⟨_,rfl,anF,asJ⟩:=HV.1 k17;obtain⟨l17,rfl,azX⟩:=fX aaQ asJ;rw[Lm] at anF;obtain⟨a18,_,rfl,q18⟩:=fI q17;obtain⟨a19,_,rfl,q19⟩:=fI q18;obtain rfl:=NQ.1 q19;exact⟨⟨l1,l2,l3,l4,l5,l6,l7,a8,a9,a10,a11,a12,a13,a14,a15,a16,l17,a18,a19⟩,⟨xw,Nw,dD,VH,RA,hb4,hb5,ho5,hb6,ho6,hb7,ho7,anF⟩,rfl⟩
structure jv where
 xM:Int
 types:Int
 dN:List ByteArray
def jv.enc (x:jv):List Tr:=[iv x.xM,iv x.types,.sl 1 (x.dN.map eS)]
def jv.ks:List K:=[.lit .int,.lit .int,.sl [.lit .str] 16]
def jv.ok (x:jv):Prop:=(x.dN.length*16<=ba)
theorem jv.UW (ts:List Tr)(h:mH jv.ks ts):∃ x:jv,x.ok/\ts=x.enc:=by
 unfold jv.ks at h;obtain⟨a1,_,rfl,q1⟩:=fI h;obtain⟨a2,_,rfl,q2⟩:=fI q1;obtain⟨_,_,rfl,k3,q3⟩:=lK.1 q2;obtain⟨_,rfl,RA,Zx⟩:=HV.1 k3;obtain⟨l3,rfl,ho3⟩:=fX agG Zx;rw[Lm] at RA;obtain rfl:=NQ.1 q3;exact⟨⟨a1,a2,l3⟩,RA,rfl⟩
structure bX where
 name:ByteArray
 token:Bool
 cost:eB
 color:Int
 line:jv
 cV:Int
 cU:Int
 keys:Int
 aT:List cz
def bX.enc (x:bX):List Tr:=[sv x.name,bv x.token,iv x.cost.generic,iv x.cost.x,iv x.cost.fZ,iv x.cost.fP,iv x.cost.fO,iv x.cost.fN,iv x.cost.fM,iv x.color,iv x.line.xM,iv x.line.types,.sl 1 (x.line.dN.map eS),iv x.cV,iv x.cU,iv x.keys,.sl 72 (x.aT.map cz.enc)]
def bX.ks:List K:=[.lit .str,.lit .bool]++(eB.ks++([.lit .int]++(jv.ks++([.lit .int,.lit .int,.lit .int,.sl cz.ks 640]))))
def bX.ok (x:bX):Prop:=(x.cost.ok)/\(x.line.ok)/\(x.aT.length*640<=ba)/\(∀ y∈x.aT,cz.ok y)
theorem bX.UW (ts:List Tr)(h:mH bX.ks ts):∃ x:bX,x.ok/\ts=x.enc:=by
 unfold bX.ks at h;obtain⟨_,_,rfl,g0,h1⟩:=da.1 h;obtain⟨_,_,rfl,k1,q1⟩:=lK.1 g0;obtain⟨a1,rfl⟩:=abK.1 k1;obtain⟨a2,_,rfl,q2⟩:=fB q1;obtain rfl:=NQ.1 q2;obtain⟨_,_,rfl,g1,h2⟩:=da.1 h1;obtain⟨y1,oy1,rfl⟩:=eB.UW _ g1;obtain⟨_,_,rfl,g2,h3⟩:=da.1 h2;obtain⟨a3,_,rfl,q3⟩:=fI g2;obtain rfl:=NQ.1 q3;obtain⟨_,_,rfl,g3,h4⟩:=da.1 h3;obtain⟨y3,oy3,rfl⟩:=jv.UW _ g3;obtain⟨a4,_,rfl,q4⟩:=fI h4;obtain⟨a5,_,rfl,q5⟩:=fI q4;obtain⟨a6,_,rfl,q6⟩:=fI q5;obtain⟨_,_,rfl,k7,q7⟩:=lK.1 q6;obtain⟨_,rfl,hb7,hc7⟩:=HV.1 k7;obtain⟨l7,rfl,ho7⟩:=fX cz.UW hc7;rw[Lm] at hb7;obtain rfl:=NQ.1 q7;exact⟨⟨a1,a2,y1,a3,y3,a4,a5,a6,l7⟩,⟨oy1,oy3,hb7,ho7⟩,rfl⟩
structure aG where
 name:ByteArray
 cost:eB
 dQ:Int
 line:jv
 cV:Int
 cU:Int
 keys:Int
 aT:List cz
 aaB:Int
def aG.enc (x:aG):List Tr:=[sv x.name,iv x.cost.generic,iv x.cost.x,iv x.cost.fZ,iv x.cost.fP,iv x.cost.fO,iv x.cost.fN,iv x.cost.fM,iv x.dQ,iv x.line.xM,iv x.line.types,.sl 1 (x.line.dN.map eS),iv x.cV,iv x.cU,iv x.keys,.sl 72 (x.aT.map cz.enc),iv x.aaB]
def aG.ok (x:aG):Prop:=(x.cost.ok)/\(x.line.ok)/\(x.aT.length*640<=ba)/\(∀ y∈x.aT,cz.ok y)
structure aF where
 id:Int
 index:Int
 you:Int
 ai:cz
 Sd:Bool
def aF.enc (x:aF):List Tr:=[iv x.id,iv x.index,iv x.you,iv x.ai.kind,iv x.ai.filter.cg,iv x.ai.filter.who,iv x.ai.filter.self,iv x.ai.filter.types,iv x.ai.filter.dC,iv x.ai.filter.dQ,iv x.ai.filter.dq,sv x.ai.filter.sub,iv x.ai.filter.keys,iv x.ai.filter.mY,iv x.ai.filter.cV.kind,iv x.ai.filter.cV.n,iv x.ai.filter.cU.kind,iv x.ai.filter.cU.n,iv x.ai.filter.value.kind,iv x.ai.filter.value.n,.sl 20 (x.ai.cA.map eb.enc),iv x.ai.dW.gv.generic,iv x.ai.dW.gv.x,iv x.ai.dW.gv.fZ,iv x.ai.dW.gv.fP,iv x.ai.dW.gv.fO,iv x.ai.dW.gv.fN,iv x.ai.dW.gv.fM,bv x.ai.dW.mY,bv x.ai.dW.lu,iv x.ai.dW.je,bv x.ai.Py,iv x.ai.aM.when,iv x.ai.aM.who,iv x.ai.aM.filter.cg,iv x.ai.aM.filter.who,iv x.ai.aM.filter.self,iv x.ai.aM.filter.types,iv x.ai.aM.filter.dC,iv x.ai.aM.filter.dQ,iv x.ai.aM.filter.dq,sv x.ai.aM.filter.sub,iv x.ai.aM.filter.keys,iv x.ai.aM.filter.mY,iv x.ai.aM.filter.cV.kind,iv x.ai.aM.filter.cV.n,iv x.ai.aM.filter.cU.kind,iv x.ai.aM.filter.cU.n,iv x.ai.aM.filter.value.kind,iv x.ai.aM.filter.value.n,bv x.ai.may,.sl 18 (x.ai.specs.map jL.enc),.sl 64 (x.ai.dm.map cZ.enc),iv x.ai.replace.on,iv x.ai.replace.who,iv x.ai.replace.filter.cg,iv x.ai.replace.filter.who,iv x.ai.replace.filter.self,iv x.ai.replace.filter.types,iv x.ai.replace.filter.dC,iv x.ai.replace.filter.dQ,iv x.ai.replace.filter.dq,sv x.ai.replace.filter.sub,iv x.ai.replace.filter.keys,iv x.ai.replace.filter.mY,iv x.ai.replace.filter.cV.kind,iv x.ai.replace.filter.cV.n,iv x.ai.replace.filter.cU.kind,iv x.ai.replace.filter.cU.n,iv x.ai.replace.filter.value.kind,iv x.ai.replace.filter.value.n,iv x.ai.replace.ZQ,iv x.ai.replace.n,iv x.ai.replace.cg,iv x.ai.replace.aaD,bv x.Sd]
structure fx where
 before:aA
 after:aA
 de:List aG
 dS:List aG
 e:bV
def fx.enc (x:fx):List Tr:=[.sl 14 (x.before.az.map cq.enc),.sl 19 (x.before.aa.map aE.enc),.sl 1 (x.before.bw.map eI),.sl 1 (x.before.gn.map eI),.sl 94 (x.before.stack.map fq.enc),.sl 89 (x.before.aaJ.map bW.enc),.sl 6 (x.before.dG.map iS.enc),iv x.before.D8,iv x.before.w7,iv x.before.step,bv x.before.begun,iv x.before.priority,iv x.before.vA,iv x.before.bE,iv x.before.bQ,.lit (.int .u64 x.before.gq),.sl 1 (x.before.extra.map eI),iv x.before.BT,iv x.before.uR,.sl 14 (x.after.az.map cq.enc),.sl 19 (x.after.aa.map aE.enc),.sl 1 (x.after.bw.map eI),.sl 1 (x.after.gn.map eI),.sl 94 (x.after.stack.map fq.enc),.sl 89 (x.after.aaJ.map bW.enc),.sl 6 (x.after.dG.map iS.enc),iv x.after.D8,iv x.after.w7,iv x.after.step,bv x.after.begun,iv x.after.priority,iv x.after.vA,iv x.after.bE,iv x.after.bQ,.lit (.int .u64 x.after.gq),.sl 1 (x.after.extra.map eI),iv x.after.BT,iv x.after.uR,.sl 17 (x.de.map aG.enc),.sl 17 (x.dS.map aG.enc),iv x.e.kind,iv x.e.fp,iv x.e.aO,iv x.e.bC,iv x.e.bq,iv x.e.from_,iv x.e.nQ,iv x.e.Ik,iv x.e.aaD,iv x.e.dK,bv x.e.AE,bv x.e.eR,iv x.e.sA,iv x.e.su,iv x.e.ss]
structure bN where
 fp:Int
 ai:Int
 aaB:Int
 du:Int
 fixed:Bool
 aa:List Int
 filter:cC
 cA:List eb
def bN.enc (x:bN):List Tr:=[iv x.fp,iv x.ai,iv x.aaB,iv x.du,bv x.fixed,.sl 1 (x.aa.map eI),iv x.filter.cg,iv x.filter.who,iv x.filter.self,iv x.filter.types,iv x.filter.dC,iv x.filter.dQ,iv x.filter.dq,sv x.filter.sub,iv x.filter.keys,iv x.filter.mY,iv x.filter.cV.kind,iv x.filter.cV.n,iv x.filter.cU.kind,iv x.filter.cU.n,iv x.filter.value.kind,iv x.filter.value.n,.sl 20 (x.cA.map eb.enc)]
def bN.ok (x:bN):Prop:=(x.aa.length*8<=ba)/\(x.filter.ok)/\(x.cA.length*176<=ba)/\(∀ y∈x.cA,eb.ok y)
end
end Cg
