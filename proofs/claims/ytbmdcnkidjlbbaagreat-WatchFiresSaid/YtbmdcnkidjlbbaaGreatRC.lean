/- Parts of the proof, joined: Evaluation on trees:. -/
import Derived.Test.YtbmdcnkidjlbbaaGreatRB
import Derived.Test.YtbmdcnkidjlbbaaGreatProg
import Derived.Shelf.Abstract
open Go.Proofs.Tryz renaming prog->ae
open List renaming getElem?_eq_getElem->cD,length_cons->aq,length_nil->aw,getElem?_eq_some_iff->an,length_append->au,length_take->aB,mem_cons_self->aC,getElem_mem->aI,mem_singleton->aJ,mem_cons_of_mem->aK,all_eq_true->aN,mem_of_getElem?->aU,map_append->aW,mem_append->aX,take_length->bm,getElem?_append_left->bn,mem_iff_getElem->bB,mem_map->bA,getElem?_map->bp,mem_append_left->bH,mem_append_right->bJ,nil_append->bF,length_set->bG,flatMap_cons->bK,map_cons->bP,length_filter_le->cx
open Bool renaming and_eq_true->ag,or_eq_true->cm
open Go.IntKind renaming wrap_i64->ak,wrap_u64->dM
open Nat renaming eq_of_beq_eq_true->ah,le_refl->al,zero_le->aD,le_trans->bd,zero_add->bu,lt_of_lt_of_le->cd,mul_le_mul_right->cw,le_of_lt->cG
open Option.some renaming inj->aR
open Cg.Tp renaming run->aBW,loop->aBY,wk->aB1
open Cg.AV renaming i->aBZ,b->aB0
set_option maxRecDepth 100000
set_option maxHeartbeats 4000000
namespace Cg
section
open Go Go.RowKit Go.Sort Go.Lib
section
variable {P:Program}{T:Nat->Option Ty}{O:gD}{N:Nat}{w0:World}
def aaU (n:Nat):List Nat->Bool
 | []=>false
 | m :: r=>bif Nat.beq m n then true else aaU n r
def Wl (st:St)(ms:List Nat):Ce->Ce
 | .t x=>.t x
 | .nil=>.nil
 | .bot=>.bot
 | .row τ bo=>match lk st.rw τ with
  | some R=>bif Nat.beq R.bo bo&&R.shut then(bif aaU τ ms then .row τ bo else .t R.tr) else .bot
  | none=>.bot
def frA (st:St)(ms:List Nat):AV->AV
 | .c x=>.c (Wl st ms x)
 | .agg xs=>.agg (xs.map (Wl st ms))
 | .ptr b o=>.ptr b o
 | .dv xs o=>.dv xs o
 | .dF _ _ _ _ _=>.bot
 | .sub _ _ _ _=>.bot
 | .eE=>.eE
 | .fH _=>.bot
 | .fn f caps=>.fn f caps
 | .kp f caps=>.kp f caps
 | .bot=>.bot
def Xt (st:St)(ms:List Nat):List (Nat × AV)->List (Nat × AV)
 | []=>[]
 | (t,v) :: r=>(t,frA st ms v) :: Xt st ms r
def RN (st:St)(ms:List Nat):List (Nat × List Ce)->List (Nat × List Ce)
 | []=>[]
 | (b,cs) :: r=>(b,cs.map (Wl st ms)) :: RN st ms r
def KN (ms:List Nat):List (Nat × Row)->List (Nat × Row)
 | []=>[]
 | (τ,R) :: r=>bif aaU τ ms then(τ,R) :: KN ms r else KN ms r
def JX (ms:List Nat)(st:St):St:=match st with
 | ⟨sl,bx,rw,nx⟩=>⟨Xt ⟨sl,bx,rw,nx⟩ ms sl,RN ⟨sl,bx,rw,nx⟩ ms bx,KN ms rw,nx⟩
def xR (rw:List (Nat × Row)):List Nat->List Nat
 | []=>[]
 | m :: r=>match lk rw m with
  | some R=>bif R.shut then m :: xR rw r else xR rw r
  | none=>m :: xR rw r
theorem pP {rw:List (Nat × Row)}{τ:Nat}{R:Row}(hR:lk rw τ=some R):∀ {ms:List Nat},aaU τ (xR rw ms)=true->R.shut=true
 | m :: r,h=>by
  unfold xR at h
  cases hq:lk rw m with
  | none=>
   rw[hq] at h;unfold aaU at h
   cases hb:Nat.beq m τ with
   | true=>
    rw[ah hb,hR] at hq
    cases hq
   | false=>
    simp only[hb,cond_false] at h;exact pP hR h
  | some R'=>
   rw[hq] at h;simp only at h
   cases hs:R'.shut with
   | false=>
    rw[hs] at h;exact pP hR h
   | true=>
    rw[hs] at h;simp only[cond_true] at h;unfold aaU at h
    cases hb:Nat.beq m τ with
    | true=>
     rw[ah hb,hR] at hq
     cases hq
     exact hs
    | false=>
     simp only[hb,cond_false] at h;exact pP hR h
 | [],h=>by cases h
def lW (ms:List Nat)(st:St):St:=match st with
 | ⟨sl,bx,rw,nx⟩=>JX (xR rw ms) ⟨sl,bx,rw,nx⟩
theorem MN (st:St)(ms:List Nat):∀ (l:List (Nat × AV)) (t:Nat),lk (Xt st ms l) t=(lk l t).map (frA st ms)
 | [],t=>rfl
 | (u,v) :: r,t=>by
  rw[Xt,bZ,bZ,MN st ms r t];split <;> rfl
theorem vR (st:St)(ms:List Nat):∀ (l:List (Nat × List Ce)) (t:Nat),lk (RN st ms l) t=(lk l t).map (fun cs=>cs.map (Wl st ms))
 | [],t=>rfl
 | (u,v) :: r,t=>by
  rw[RN,bZ,bZ,vR st ms r t];split <;> rfl
theorem rW (ms:List Nat):∀ (l:List (Nat × Row)) (t:Nat),lk (KN ms l) t=bif aaU t ms then lk l t else none
 | [],t=>by cases aaU t ms <;> rfl
 | (u,v) :: r,t=>by
  rw[KN,bZ]
  by_cases h:u=t
  ·subst h;rw[if_pos rfl]
   cases hm:aaU u ms
   ·rw[cond_false,rW ms r u,hm];rfl
   ·rw[cond_true,bZ,if_pos rfl];rfl
  ·rw[if_neg h,<- rW ms r t]
   cases aaU u ms
   ·rfl
   ·rw[cond_true,bZ,if_neg h]
theorem uD (ms:List Nat)(n:Nat):lk (ms.map fun m=>(m,m)) n=bif aaU n ms then some n else none:=by
 induction ms with
 | nil=>rfl
 | cons m ms ih=>
  rw[bP,bZ,ih];show _=bif (bif Nat.beq m n then true else aaU n ms) then some n else none
  by_cases h:m=n
  ·subst h;rw[if_pos rfl,show Nat.beq m m=true by simp];rfl
  ·rw[if_neg h,show Nat.beq m n=false by
    cases hb:Nat.beq m n
    ·rfl
    ·exact absurd (ah hb) h]
   rfl
theorem Gg (ms:List Nat):sw (ms.map fun m=>(m,m))=ms.map fun m=>(m,m):=by
 unfold sw;rw[List.map_map];rfl
theorem B6 {n:Nat}:∀ {ms:List Nat},n∈ms->aaU n ms=true
 | m :: r,h=>by
  unfold aaU;rcases List.mem_cons.1 h with rfl|h
  ·rw[show Nat.beq n n=true by simp];rfl
  ·cases Nat.beq m n
   ·exact B6 h
   ·rfl
theorem MJ (ms:List Nat):OV (ms.map fun m=>(m,m))=true:=by
 unfold OV;rw[aN];intro p hp;obtain⟨m,hm,rfl⟩:=bA.1 hp;rw[Gg];simp only[uD,B6 hm,cond_true];simp
theorem Hx (st:St)(ms:List Nat)(_hsh:∀ τ R,aaU τ ms=true->lk st.rw τ=some R->R.shut=true)(c:Ce):TV st (ms.map fun m=>(m,m)) (KN ms st.rw) c (Wl st ms c):=by
 cases c with
 | t x=>exact rfl
 | nil=>exact⟨⟩
 | bot=>exact⟨⟩
 | row τ bo=>
  unfold Wl;simp only
  cases hq:lk st.rw τ with
  | none=>exact⟨⟩
  | some R=>
   simp only
   cases hb:Nat.beq R.bo bo&&R.shut with
   | false=>exact⟨⟩
   | true=>
    rw[ag] at hb;have hv:=ah hb.1;simp only[cond_true]
    cases hm:aaU τ ms with
    | true=>
     simp only[cond_true];unfold TV;simp only[rW,uD,hm,cond_true,hq];exact⟨hv,trivial,hv⟩
    | false=>
     simp only[cond_false];unfold TV;simp only[hq,Gg,uD,hm,cond_false];refine⟨hv,trivial,?_⟩;rw[hb.2];exact⟨⟩
theorem qs (st:St)(ms:List Nat)(se:∀ τ R,aaU τ ms=true->lk st.rw τ=some R->R.shut=true):∀ cs:List Ce,DM st (ms.map fun m=>(m,m)) (KN ms st.rw) cs (cs.map (Wl st ms))
 | []=>trivial
 | c :: cs=>⟨Hx st ms se c,qs st ms se cs⟩
theorem Wk.JX (ms:List Nat)(st:St)(se:∀ τ R,aaU τ ms=true->lk st.rw τ=some R->R.shut=true):Wk st (JX ms st):=by
 intro O _ E w n0 N a r;obtain⟨sl,bx,dB,nx⟩:=st
 have hasB:∀ b cs,lk bx b=some cs->mW (RN ⟨sl,bx,dB,nx⟩ ms bx) b=true:=fun b cs h=>by
  unfold mW;rw[vR,h];rfl
 have get:∀ t,(Cg.JX ms ⟨sl,bx,dB,nx⟩).get t=.bot\/F8 ⟨sl,bx,dB,nx⟩ (ms.map fun m=>(m,m)) (KN ms dB) (RN ⟨sl,bx,dB,nx⟩ ms bx) (St.get ⟨sl,bx,dB,nx⟩ t) ((Cg.JX ms ⟨sl,bx,dB,nx⟩).get t):=fun t=>by
  have hs:=r.sc.sb t;show(match lk (Xt ⟨sl,bx,dB,nx⟩ ms sl) t with|some v=>v|none=>.bot)=.bot\/F8 _ _ _ _ _ (match lk (Xt ⟨sl,bx,dB,nx⟩ ms sl) t with|some v=>v|none=>.bot);rw[MN];have hs:∀ b∈(match lk sl t with|some v=>v|none=>AV.bot).dJ,St.hasB ⟨sl,bx,dB,nx⟩ b:=hs
  cases hq:lk sl t with
  | none=>exact .inl rfl
  | some v=>
   rw[hq] at hs
   have hg:St.get ⟨sl,bx,dB,nx⟩ t=v:=by
    show(match lk sl t with|some v=>v|none=>.bot)=v;rw[hq]
   rw[hg];show frA _ ms v=.bot\/F8 _ _ _ _ v (frA _ ms v)
   cases v with
   | c x=>exact .inr (Hx _ ms se x)
   | agg xs=>exact .inr (qs _ ms se xs)
   | ptr b o=>
    obtain⟨cs,dL⟩:=hs b aC;exact .inr ⟨rfl,rfl,hasB b cs dL⟩
   | dv xs o=>exact .inr ⟨rfl,rfl⟩
   | dF _ _ _ _ _=>exact .inl rfl
   | sub _ _ _ _=>exact .inl rfl
   | eE=>exact .inr trivial
   | fH _=>exact .inl rfl
   | fn f caps=>
    refine .inr ⟨rfl,rfl,aN.2 fun p hp=>?_⟩;obtain⟨cs,dL⟩:=hs p.1 (bA.2 ⟨p,hp,rfl⟩);exact hasB p.1 cs dL
   | kp f caps=>exact .inr ⟨rfl,rfl⟩
   | bot=>exact .inl rfl
 have acS:∀ τ' R',lk (KN ms dB) τ'=some R'->(∃ τ R,lk (ms.map fun m=>(m,m)) τ'=some τ/\lk dB τ=some R/\R.ty=R'.ty/\R.k=R'.k/\R.xs=R'.xs/\R.dp=R'.dp/\R.shut=true)\/(lk (ms.map fun m=>(m,m)) τ'=none/\R'.xs=[]/\R'.shut=true):=fun τ' R' h=>by
  rw[rW] at h
  cases hm:aaU τ' ms with
  | true=>
   rw[hm] at h;exact .inl ⟨τ',R',by rw[uD,hm];rfl,h,rfl,rfl,rfl,rfl,se τ' R' hm h⟩
  | false=>
   rw[hm] at h
   cases h
 refine⟨E.ma ⟨sl,bx,dB,nx⟩ (ms.map fun m=>(m,m)),⟨r.xc,r.sz,fun t=>?_,fun i gQ hi=>?_,fun τ' R' hR=>rN r (MJ ms) (acS τ' R' hR),⟨fun t b hb=>?_,fun t p hp=>?_,fun b cs dL p hp=>?_,fun b cs dL=>?_,fun τ R hR=>?_,fun τ R d hR hd l hl=>?_⟩,r.hi,fun b hb=>?_,fun b x hx=>?_,fun j V hj=>(by rw[en.v] at hj;cases hj),fun j V hj=>(by rw[en.b] at hj;cases hj),r.sn⟩⟩
 ·rcases get t with h|h
  ·rw[h];exact⟨⟩
  ·exact(iQ r h (r.slt t)).rv
 ·have hi:lk (RN ⟨sl,bx,dB,nx⟩ ms bx) i=some gQ:=hi;rw[vR] at hi
  cases hq:lk bx i with
  | none=>rw[hq] at hi;cases hi
  | some cs=>
   rw[hq] at hi
   cases hi
   obtain⟨vs,t,g1,g2,g3,g4⟩:=r.box i cs hq;refine⟨vs,t,g1,g2,?_,oe (dB:=KN ms dB) r (qs _ ms se cs) g4⟩;unfold Env.ma;simp only[g3]
 ·rcases get t with h|h
  ·rw[h] at hb;cases hb
  ·exact(iu h).1 b hb
 ·rcases get t with h|h
  ·rw[h] at hp;cases hp
  ·obtain⟨R,h1,h2⟩:=(iu h).2 p hp;exact⟨R,h1,Nat.le_of_eq h2.symm⟩
 ·have dL:lk (RN ⟨sl,bx,dB,nx⟩ ms bx) b=some cs:=dL;rw[vR] at dL
  cases hq:lk bx b with
  | none=>rw[hq] at dL;cases dL
  | some DV=>
   rw[hq] at dL
   cases dL
   obtain⟨R,h3,h4⟩:=od (qs ⟨sl,bx,dB,nx⟩ ms se DV) p hp;exact⟨R,h3,Nat.le_of_eq h4.symm⟩
 ·have dL:lk (RN ⟨sl,bx,dB,nx⟩ ms bx) b=some cs:=dL;rw[vR] at dL
  cases hq:lk bx b with
  | none=>rw[hq] at dL;cases dL
  | some DV=>exact r.sc.fb b DV hq
 ·have hR:lk (KN ms dB) τ=some R:=hR;rw[rW] at hR
  cases hm:aaU τ ms with
  | true=>rw[hm] at hR;exact r.sc.fr τ R hR
  | false=>rw[hm] at hR;cases hR
 ·have hR:lk (KN ms dB) τ=some R:=hR;rw[rW] at hR
  cases hm:aaU τ ms with
  | true=>
   rw[hm] at hR;rw[jO (se τ R hm hR) hd] at hl
   cases hl
  | false=>rw[hm] at hR;cases hR
 ·rcases r.mi b hb with⟨h1,h2⟩|h1
  ·exact .inl ⟨aaO b h1,h2⟩
  ·exact .inr (abE b h1)
 ·obtain⟨h1,h2⟩:=r.gh b x hx;exact⟨h1,h2.elim (fun h=>.inl ⟨aaO b h.1,h.2⟩) (fun h=>.inr ⟨abE b h.1,h.2⟩)⟩
theorem Wk.lW (ms:List Nat)(st:St):Wk st (Cg.lW ms st):=by
 obtain⟨sl,bx,dB,nx⟩:=st;exact Wk.JX _ _ fun τ R h hR=>pP hR h
theorem Tp.lW [en O](ms:List Nat){c:Code}{st:St}{Q:Ex->St->Prop}(h:Tp P T N w0 O c (Cg.lW ms st) Q):Tp P T N w0 O c st Q:=aB1 (Wk.lW ms st) h
def adH:AV->Bool
 | .c (.t (.lit _))=>true
 | .eE=>true
 | .fH dH=>dH.all fun a=>match a with
  | .c (.t (.lit _))=>true
  | _=>false
 | _=>false
def Q2:Ce->Bool
 | .t (.lit _)=>true
 | _=>false
def Q3:AV->Bool
 | .c x=>Q2 x
 | .agg xs=>xs.all Q2
 | .eE=>true
 | _=>false
def uc:AV->Bool
 | .fH dH=>dH.all Q3
 | a=>Q3 a
theorem Ct.lit {f:FuncId}{dH:List AV}{r:AV}{b:Bool}(h:Ct P f dH r [] b)(hl:adH r=true):Ct P f dH r [] true:=by
 refine⟨h.NZ,h.te,h.shut,h.plain,h.nob,h.X7,fun w vs E0 lJ ha=>(h.run w vs E0 lJ ha).mono ?_⟩;rintro e w' ⟨v,rfl,hb,E,hr,_,_⟩;refine⟨v,rfl,hb,⟨fun _=>.dX,fun _=>0,fun _ _=>undef⟩,?_,fun j R hj=>by simp at hj,fun b _ hc=>by cases hc⟩
 have one:∀ {u:Value} {x:Value} {E':Env},RT E.F w' u (.lit x)->RT E'.F w' u (.lit x):=fun h=>by
  cases h with
  | lit h=>exact .lit h
 cases r with
 | c x=>
  cases x with
  | t y=>
   cases y with
   | lit x=>exact one hr
   | sl _ _=>cases hl
   | mp _=>cases hl
  | _=>cases hl
 | eE=>exact hr
 | fH dH=>
  obtain⟨us,rfl,ha⟩:=hr;refine⟨us,rfl,?_⟩
  have:∀ {us:List Value} {dH:List AV},(dH.all fun a=>match a with
   | .c (.t (.lit _))=>true
   | _=>false)=true->A2 (R1 E w') us dH->A2 (R1 ⟨fun _=>.dX,fun _=>0,fun _ _=>undef⟩ w') us dH:=fun {us dH} hl h=>by
   induction h with
   | nil=>exact .nil
   | @cons u a us dH h1 _ ih=>
    rw[List.all_cons,ag] at hl;refine .cons ?_ (ih hl.2);have hl:=hl.1;split at hl
    ·exact one h1
    ·cases hl
  exact this hl ha
 | _=>cases hl
theorem G8 {E E':Env}{w:World}{u:Value}{x:Ce}(hl:Q2 x=true)(h:RC E w u x):RC E' w u x:=by
 cases x with
 | t y=>
  cases y with
  | lit x=>
   have h1:RT E.F w u (.lit x):=h
   cases h1 with
   | lit h2=>exact RT.lit h2
  | sl _ _=>cases hl
  | mp _=>cases hl
 | _=>cases hl
theorem G9 {E E':Env}{w:World}:∀ {us:List Value} {xs:List Ce},xs.all Q2=true->A2 (RC E w) us xs->A2 (RC E' w) us xs
 | _,_,_,.nil=>.nil
 | _,_,hl,.cons h1 h2=>by
  rw[List.all_cons,ag] at hl;exact .cons (G8 hl.1 h1) (G9 hl.2 h2)
theorem zQ {E E':Env}{w:World}{u:Value}{a:AV}(hl:Q3 a=true)(h:R1 E w u a):R1 E' w u a:=by
 cases a with
 | c x=>exact G8 hl h
 | agg xs=>
  obtain⟨vs,rfl,ha⟩:=h;exact⟨vs,rfl,G9 hl ha⟩
 | eE=>exact h
 | _=>cases hl
theorem Ha {E E':Env}{w:World}:∀ {us:List Value} {xs:List AV},xs.all Q3=true->A2 (R1 E w) us xs->A2 (R1 E' w) us xs
 | _,_,_,.nil=>.nil
 | _,_,hl,.cons h1 h2=>by
  rw[List.all_cons,ag] at hl;exact .cons (zQ hl.1 h1) (Ha hl.2 h2)
theorem Ct.uc {f:FuncId}{dH:List AV}{r:AV}{b:Bool}(h:Ct P f dH r [] b)(hl:Cg.uc r=true):Ct P f dH r [] true:=by
 refine⟨h.NZ,h.te,h.shut,h.plain,h.nob,h.X7,fun w vs E0 lJ ha=>(h.run w vs E0 lJ ha).mono ?_⟩;rintro e w' ⟨v,rfl,hb,E,hr,_,_⟩;refine⟨v,rfl,hb,⟨fun _=>.dX,fun _=>0,fun _ _=>undef⟩,?_,fun j R hj=>by simp at hj,fun b _ hc=>by cases hc⟩
 cases r with
 | fH dH=>
  obtain⟨us,rfl,ha⟩:=hr;exact⟨us,rfl,Ha hl ha⟩
 | c x=>exact(zQ (a:=.c x) hl hr).rv
 | agg x=>exact(zQ (a:=.agg x) hl hr).rv
 | eE=>exact hr
 | _=>cases hl
theorem cI {f:FuncId}{dH:List AV}{r:AV}{rs:List Row}{fresh:Bool}{A:List AV->Prop}{B:Bool->Prop}{K:AV->List Row->Prop}{X:Prop}(ct:Ct P f dH r rs fresh)(h1:A dH)(h2:B fresh)(h3:K r rs):(∃ dH r rs fresh,A dH/\Ct P f dH r rs fresh/\B fresh/\K r rs)\/X:=.inl ⟨dH,r,rs,fresh,h1,ct,h2,h3⟩
theorem cR {f:FuncId}{dH:List AV}{r:AV}{rs:List Row}{fresh:Bool}{A:List AV->Prop}{K:AV->List Row->Prop}{X:Prop}(ct:Ct P f dH r rs fresh)(h1:A dH)(h3:K r rs):(∃ dH r rs fresh,A dH/\Ct P f dH r rs fresh/\(fresh=true\/true=true)/\K r rs)\/X:=.inl ⟨dH,r,rs,fresh,h1,ct,.inr rfl,h3⟩
theorem cF {f:FuncId}{dH:List AV}{r:AV}{rs:List Row}{A:List AV->Prop}{K:AV->List Row->Prop}{q X:Prop}(ct:Ct P f dH r rs true)(h1:A dH)(h3:K r rs):(∃ dH r rs fresh,A dH/\Ct P f dH r rs fresh/\(fresh=true\/q)/\K r rs)\/X:=.inl ⟨dH,r,rs,true,h1,ct,.inl rfl,h3⟩
theorem cM {f:FuncId}{dH:List AV}{ib:List (List Ce)}{ir:List Row}{rv:AV}{ob:List (List Ce)}{fa nr:List Row}{A:List Nat->List (Nat × Nat)->List AV->List (List Ce)->List Row->Prop}{B:List Nat->List (Nat × Nat)->Prop}{K:List Nat->List (Nat × Nat)->AV->List (List Ce)->List Row->List Row->Prop}{X:Prop}(mb:List Nat)(mr:List (Nat × Nat))(ct:F7 P f dH ib ir rv ob fa nr)(h1:A mb mr dH ib ir)(h2:B mb mr)(h3:K mb mr rv ob fa nr):X\/∃ mb mr dH ib ir rv ob fa nr,A mb mr dH ib ir/\B mb mr/\F7 P f dH ib ir rv ob fa nr/\K mb mr rv ob fa nr:=.inr ⟨mb,mr,dH,ib,ir,rv,ob,fa,nr,h1,h2,ct,h3⟩
theorem fL {st:St}:∀ (ts:List Tr),KE st (ts.map .t) (ts.map .t)
 | []=>trivial
 | _ :: ts=>⟨rfl,fL ts⟩
theorem fJ {α β:Type}(l:List α)(f:α->β)(k:Nat)(hk:k < l.length)(x:β)(ky:Nat)(_hb:ky<=3072)(h:l.length*ky<=ba):(((l.take k).map f).length+[x].length)*ky<=140737488355328:=by
 rw[Lm,aB,Nat.min_eq_left (by omega)];have:(k+1)*ky<=l.length*ky:=cw _ hk;unfold ba at h;show(k+1)*ky<=_;omega
theorem fh {α β:Type}(l:List α)(f:α->β)(k:Nat)(hk:k < l.length)(x:β)(ky:Nat)(hb:0 < ky)(h:l.length*ky<=ba):((l.take k).map f).length+[x].length < 140737488355328:=by
 rw[Lm,aB,Nat.min_eq_left (by omega)];have:l.length*1<=l.length*ky:=Nat.mul_le_mul_left _ hb;unfold ba at h;show k+1 < _;omega
theorem eQ {α:Type}(ys:List α)(ky:Nat)(h:ys.length*ky<=ba):(([]:List α).length+ys.length)*ky<=140737488355328:=by
 unfold ba at h;simp only[aw,bu];omega
theorem eA {α:Type}(ys:List α)(ky:Nat)(hb:0 < ky)(h:ys.length*ky<=ba):([]:List α).length+ys.length < 140737488355328:=by
 have:ys.length*1<=ys.length*ky:=Nat.mul_le_mul_left _ hb;unfold ba at h;simp only[aw,bu];omega
theorem cn {α β:Type}(f:α->β)(ys:List α)(ky:Nat)(h:ys.length*ky<=ba):(ys.map f).length*ky<=ba:=by rw[Lm];exact h
theorem eN {α β:Type}(l:List α)(f:α->β)(k:Nat)(hk:k < l.length):(l.take k).map f++[f l[k]]=(l.take (k+1)).map f:=by
 rw[List.take_add_one,cD hk,aW];rfl
theorem aQ {α β:Type}(l:List α)(f:α->β)(k:Nat)(hk:k < l.length):(l.map f)[k]? = some (f l[k]):=by rw[bp,cD hk];rfl
theorem cN {α β:Type}{l:List α}{f:α->β}{k:Nat}(h:decide ((k:Int) < (((l.map f).length:Nat):Int))=true):k < l.length:=by
 have:=of_decide_eq_true h;rw[Lm] at this;omega
theorem cP {α β:Type}{l:List α}{f:α->β}{k:Nat}(h:decide ((k:Int) < (((l.map f).length:Nat):Int))=false)(hk:k<=l.length):k=l.length:=by
 have:=of_decide_eq_false h;rw[Lm] at this;omega
theorem ed (k:Nat){α:Type}{l:List α}(hk:k < l.length)(b:Nat)(hb:0 < b)(h:l.length*b<=ba):iv (IntKind.i64.wrap ((k:Int)+1))=iv ((k+1:Nat):Int):=by
 have:l.length*1<=l.length*b:=Nat.mul_le_mul_left _ hb;unfold ba at h;rw[fU k (by omega)]
theorem gU {α:Type}(l:List α)(f:α->List Tr)(k:Nat):Tr.sl k (l.map f)=Tr.sl k ((l.take l.length).map f):=by rw[bm]
end
end
section
open Go
def uq:aE:=⟨0,0,0,0,0,false,false,false,false,0,0,0,0,0,0,0,false,0,0⟩
def o8 (l:List aE)(id:Int):Int:=jS (fun o:aE=>o.id==id) l
def b9 (l:List aE)(id:Int):aE:=(l.find? fun o=>o.id==id).getD uq
def er (l:List aE)(id:Int):Bool:=(l.find? fun o=>o.id==id).isSome
def JD (l:List aE)(o:aE):List aE:=l.take (l.takeWhile fun x=>decide (x.id < o.id)).length++[o]++l.drop (l.takeWhile fun x=>decide (x.id < o.id)).length
def o7 (l:List aE)(o:aE):List aE:=match l.findIdx? fun x=>x.id==o.id with
 | some i=>l.set i o
 | none=>JD l o
def eM (s:aA)(o:aE):aA:={ s with aa:=o7 s.aa o }
def bR (s:aA)(z p:Int):List Int:=
 if z==0 then s.bw else if z==4 then s.gn else if p < 0\/(s.az.length:Int)<=p then [] else match s.az[p.toNat]? with
  | some q=>if z==1 then q.hand else if z==2 then q.cW else if z==3 then q.dI else []
  | none=>[]
def abA (q:cq)(z:Int)(l:List Int):cq:=if z==1 then { q with hand:=l } else if z==2 then { q with cW:=l } else if z==3 then { q with dI:=l } else q
def eU (s:aA)(z p:Int)(l:List Int):aA:=
 if z==0 then { s with bw:=l } else if z==4 then { s with gn:=l } else if p < 0\/(s.az.length:Int)<=p then s else match s.az[p.toNat]? with
  | some q=>{ s with az:=s.az.set p.toNat (abA q z l) }
  | none=>s
def qc (id dK bC z du:Int):aE:={ uq with id:=id,dK:=dK,fG:=bC,aaB:=bC,cg:=z,du:=du,copy:=-1,jD:=-1 }
theorem im {α:Type}(p:α->Bool)(l:List α):(jS p l = -1/\l.findIdx? p=none/\l.find? p=none)\/∃ (i:Nat) (h:i < l.length),jS p l=i/\l.findIdx? p=some i/\l.find? p=some l[i]:=by
 unfold jS
 cases hq:l.findIdx? p with
 | none=>exact .inl ⟨rfl,rfl,by
   rw[List.find?_eq_none];rw[List.findIdx?_eq_none_iff] at hq;intro x hx;simp[hq x hx]⟩
 | some i=>
  have h1:=List.findIdx?_eq_some_iff_getElem.1 hq;obtain⟨h2,h3,h4⟩:=h1;refine .inr ⟨i,h2,rfl,rfl,?_⟩;rw[List.find?_eq_some_iff_getElem];exact⟨h3,i,h2,rfl,fun j hj=>by simpa using h4 j hj⟩
theorem kT {α:Type}(p:α->Bool):∀ (l:List α) (k:Nat),k<=l.length->(∀ j (h:j < l.length),j < k->p l[j]=true)->(k=l.length\/∃ h:k < l.length,p l[k]=false)->(l.takeWhile p).length=k
 | [],k,hk,_,_=>by
  have:k=0:=by simpa using hk
  rw[this];rfl
 | x :: l,0,_,_,hk=>by
  rcases hk with hk|⟨h,hk⟩
  ·simp at hk
  ·have:p x=false:=hk;rw[List.takeWhile_cons_of_neg (by simp[this])];rfl
 | x :: l,k+1,hk,h,hn=>by
  have hx:p x=true:=h 0 (by simp) (by omega);rw[List.takeWhile_cons_of_pos hx,aq,kT p l k (by simpa using hk) (fun j hj Af=>h (j+1) (by simp;omega) (by omega)) ?_];rcases hn with hn|⟨h2,hn⟩
  ·left;simpa using hn
  ·right;exact⟨by simpa using h2,hn⟩
theorem AN {o6 ys:List (List Tr)}{n b:Nat}(h:o6.length+ys.length<=n)(hb:n*b<=140737488355328):(o6.length+ys.length)*b<=140737488355328:=bd (cw _ h) hb
theorem wY {o6 ys:List (List Tr)}{n b:Nat}(h:o6.length+ys.length<=n)(h0:0 < b)(hb:n*b < 140737488355328):o6.length+ys.length < 140737488355328:=by
 have:n*1<=n*b:=Nat.mul_le_mul_left _ h0;omega
theorem dt {n b:Nat}(hb:b<=3000)(h:n*b<=ba):(n+1)*b < 140737488355328:=by
 unfold ba at h;rw[Nat.add_mul];omega
section
def fz (n a b:Int):Bool:=decide (n>=a)&&decide (n<=b)
def allI {α:Type}(p:Nat->α->Bool):Nat->List α->Bool
 | _,[]=>true
 | k,x :: r=>p k x&&allI p (k+1) r
theorem nM {α:Type}{p:Nat->α->Bool}:∀ {k:Nat} {l:List α},allI p k l=true↔∀ j (h:j < l.length),p (k+j) l[j]=true
 | k,[]=>⟨fun _ j h=>by simp at h,fun _=>rfl⟩
 | k,x :: r=>by
  rw[allI,ag,nM];refine⟨fun ⟨h1,h2⟩ j h=>?_,fun h=>⟨h 0 (by simp),fun j hj=>?_⟩⟩
  ·cases j with
   | zero=>exact h1
   | succ j=>have:=h2 j (by simpa using h);rwa [show k+1+j=k+(j+1) by omega] at this
  ·have:=h (j+1) (by simpa using hj)
   rwa [show k+1+j=k+(j+1) by omega]
def aaT (l:List Int)(n:Int):Int:=((l.count n:Nat):Int)
def iL (s:aA)(z w:Int)(l:List Int):Bool:=l.all fun id=>er s.aa id&&((b9 s.aa id).cg==z&&((!decide (w>=0)||(b9 s.aa id).fG==w)&&aaT l id==1))
def DZ (a b c d e f:Int):Bool:=(!decide (a < 0)&&!decide (a > 1000000))&&((!decide (b < 0)&&!decide (b > 1000000))&&((!decide (c < 0)&&!decide (c > 1000000))&&((!decide (d < 0)&&!decide (d > 1000000))&&((!decide (e < 0)&&!decide (e > 1000000))&&(!decide (f < 0)&&!decide (f > 1000000))))))
def Mh (s:aA)(i:Nat)(p:cq):Bool:=fz p.je (-1000000) 1000000&&(fz p.kH 0 1000000&&(fz p.Cm 0 1000000&&(DZ p.ye p.yd p.yc p.yb p.ya p.x9&&(iL s 2 i p.cW&&(iL s 1 i p.hand&&iL s 3 i p.dI)))))
def yg (s:aA):Bool:=fz s.az.length 2 4&&(allI (Mh s) 0 s.az&&(iL s 0 (-1) s.bw&&iL s 4 (-1) s.gn))
def Gq (s:aA)(id:Int):Int:=((s.stack.countP (fun x=>x.kind==1&&x.id==id):Nat):Int)
def pX (s:aA)(o:aE):Bool:=if o.cg==5 then Gq s o.id==1 else aaT (bR s o.cg o.fG) o.id==1
def agD (o:aE):aE:={ o with jD:=-1,blocked:=false,blocks:=0 }
def adC (o:aE):aE:={ o with fD:=0,jj:=false,nh:=0 }
def TN (a b c:Int):Bool:=(!decide (a < 0)&&!decide (a > 1000000))&&((!decide (b < 0)&&!decide (b > 1000000))&&(!decide (c < 0)&&!decide (c > 1000000)))
def zm (o:aE):Bool:=o.jD==-1&&(!o.blocked&&(o.blocks==0&&(o.fD==0&&(!o.jj&&(o.nh==0&&(!o.eR&&(!o.oY&&(o.cL==0&&(o.cK==0&&o.dh==0)))))))))
def sW (o:aE)(cards az:Int):Bool:=
 (!decide (o.id < 1)&&(!decide (o.dK < 0)&&(!decide (o.dK>=cards)&&(!decide (o.fG < 0)&&(!decide (o.fG>=az)&&(!decide (o.aaB < 0)&&(!decide (o.aaB>=az)&&(!decide (o.cg < 0)&&!decide (o.cg > 5))))))))) &&
 ((!decide (o.fD < 0)&&(!decide (o.fD > 1000000)&&(!decide (o.du < 0)&&(!decide (o.du > 1000000)&&(!decide (o.blocks < 0)&&(!decide (o.blocks > 1000000)&&(!decide (o.nh < 0)&&!decide (o.nh > 1000000)))))))) &&
 ((TN o.cL o.cK o.dh&&(!decide (o.copy < -1)&&(!decide (o.copy>=cards)&&(!decide (o.jD < -1)&&!decide (o.jD>=az)))))&&(o.cg==0||zm o)))
def GS (cards:Int)(s:aA)(i:Nat)(o:aE):Bool:=sW o cards s.az.length&&(!decide (o.id>=s.bE)&&(!decide (o.du>=s.bQ)&&((!decide ((i:Int) > 0)||!decide ((s.aa.getD (i - 1) uq).id>=o.id))&&pX s o)))
def Mq (cards:Int)(s:aA):Bool:=!decide ((s.aa.length:Int) > 2048)&&allI (GS cards s) 0 s.aa
def DO (s:aA)(p:Int):Bool:=fz p 0 ((s.az.length:Int) - 1)
structure tp where
 ab:cz->Bool
 zero:cz->Bool
 set:List Int->Bool
 txt:List eb->ByteArray
def z6 (q:tp)(s:aA)(x:fq):Bool:=
 (fz x.id 1 (s.bE - 1)&&(fz x.x 0 1000000&&(!decide ((x.targets.length:Int) > 4)&&DO s x.aaB))) &&
 (if x.kind==1 then x.fp==x.id&&(er s.aa x.id&&((b9 s.aa x.id).cg==5&&(q.zero x.ai||q.ab x.ai))) else x.kind==2&&(!er s.aa x.id&&q.ab x.ai))
def z7 (q:tp)(s:aA)(i:Nat)(x:fq):Bool:=z6 q s x&&(s.stack.take i).all fun y=>!(y.id==x.id)
def u6 (q:tp)(s:aA)(w:bW):Bool:=DO s w.aaB&&(w.ai.kind==4&&q.ab w.ai)
def wK (q:tp)(s:aA)(c:iS):Bool:=DO s c.aaB&&(!decide (c.du>=s.bQ)&&(fz c.K6 1 2&&(q.set c.aa&&!((q.txt c.cA).toList==(⟨#[]⟩:ByteArray).toList))))
def Gn (q:tp)(s:aA):Bool:=(!decide ((s.stack.length:Int) > 64)&&(!decide ((s.aaJ.length:Int) > 64)&&!decide ((s.dG.length:Int) > 64)))&&(allI (z7 q s) 0 s.stack&&(s.aaJ.all (u6 q s)&&s.dG.all (wK q s)))
def isA (s:aA):Bool:=fz s.bE 1 1000000&&(fz s.bQ 1 1000000&&(fz s.D8 0 500&&(fz s.step 0 10&&!decide ((s.aa.length:Int) > 2048))))
def isB (s:aA):Bool:=yg s&&(DO s s.w7&&(DO s s.priority&&(fz s.vA 0 s.az.length&&(!decide ((s.extra.length:Int) > 500)&&fz s.BT 0 2))))
def AX (s:aA):Bool:=if s.BT==1 then DO s s.uR else s.uR==-1
def kh (q:tp)(cards:Int)(s:aA):Bool:=isA s&&(isB s&&(s.extra.all (DO s)&&(AX s&&(Mq cards s&&Gn q s))))
theorem aeJ {α:Type}{l:List α}{i:Int}(h0:0<=i)(hl:i.toNat < l.length):l.take (i+1).toNat=l.take i.toNat++[l[i.toNat]]:=by
 rw[show(i+1).toNat=i.toNat+1 by omega,List.take_append_getElem hl]
theorem ajS {l:List Int}{i n:Int}(h0:0<=i)(hl:i.toNat < l.length)(h:l[i.toNat]=n):((((l.take (i+1).toNat).count n:Nat)):Int)=((l.take i.toNat).count n:Nat)+1:=by
 rw[aeJ h0 hl,List.count_append,h];simp
theorem aiJ {l:List Int}{i n:Int}(h0:0<=i)(hl:i.toNat < l.length)(h:¬ l[i.toNat]=n):((((l.take (i+1).toNat).count n:Nat)):Int)=((l.take i.toNat).count n:Nat):=by
 rw[aeJ h0 hl,List.count_append];simp[h]
theorem ahB {α:Type}{l:List α}{p:α->Bool}{i:Int}(h0:0<=i)(hl:i.toNat < l.length):((((l.take (i+1).toNat).countP p:Nat)):Int)=((l.take i.toNat).countP p:Nat)+(if p l[i.toNat] then 1 else 0):=by
 rw[aeJ h0 hl,List.countP_append]
 by_cases h:p l[i.toNat]
 ·simp[h]
 ·simp[h]
theorem acM {α:Type}{l:List α}{i:Int}(h1:¬ i < (l.length:Int)):l.take i.toNat=l:=List.take_of_length_le (by omega)
def Up {α:Type}(p:Nat->α->Bool)(l:List α)(i:Int):Prop:=∀ j (h:j < l.length),(j:Int) < i->p j l[j]=true
theorem Up.zero {α:Type}{p:Nat->α->Bool}{l:List α}:Up p l 0:=fun j h hj=>by omega
theorem Up.step {α:Type}{p:Nat->α->Bool}{l:List α}{i:Int}(h0:0<=i)(h:Up p l i)(hl:i.toNat < l.length)(hp:p i.toNat l[i.toNat]=true):Up p l (i+1):=fun j hj hji=>by
 by_cases e:j=i.toNat
 ·subst e;exact hp
 ·exact h j hj (by omega)
theorem Up.all {α:Type}{p:Nat->α->Bool}{l:List α}{i:Int}(h:Up p l i)(h1:¬ i < (l.length:Int)):allI p 0 l=true:=nM.2 fun j hj=>by rw[bu];exact h j hj (by omega)
theorem Up.ajU {α:Type}{p:α->Bool}{l:List α}{i:Int}(h:Up (fun _=>p) l i)(h1:¬ i < (l.length:Int)):l.all p=true:=aN.2 fun x hx=>by
 obtain⟨j,hj,rfl⟩:=bB.1 hx;exact h j hj (by omega)
theorem adF {α:Type}{p:α->Bool}{l:List α}{i:Nat}(hl:i < l.length)(hp:p l[i]=false):l.all p=false:=by
 rw[<- Bool.not_eq_true,aN];intro h;rw[h _ (aI hl)] at hp
 cases hp
theorem afH {α:Type}{p:Nat->α->Bool}{l:List α}{i:Nat}(hl:i < l.length)(hp:p i l[i]=false):allI p 0 l=false:=by
 rw[<- Bool.not_eq_true,nM];intro h;have:=h i hl;rw[bu,hp] at this
 cases this
theorem adQ {a:List Int}{b i p:Int}(h0:0<=i)(hle:i<=(((a.map eI).length:Nat):Int))(hb:a.length*8<=ba)(hp:p=((a.take i.toNat).count b:Nat)/\p<=i)(hl:i.toNat < a.length)(h:a[i.toNat]=b):IntKind.i64.wrap (p+1)=((a.take (i+1).toNat).count b:Nat)/\IntKind.i64.wrap (p+1)<=i+1:=by
 obtain⟨h1,h2⟩:=hp;rw[Lm] at hle;unfold ba at hb
 have hw:IntKind.i64.wrap (p+1)=p+1:=by
  have:0<=p:=by rw[h1];exact Int.natCast_nonneg _
  rw[ak];omega
 rw[hw,ajS h0 hl h,h1];exact⟨rfl,by omega⟩
theorem adU {a:List Int}{b i p:Int}(h0:0<=i)(hp:p=((a.take i.toNat).count b:Nat)/\p<=i)(hl:i.toNat < a.length)(h:¬ a[i.toNat]=b):p=((a.take (i+1).toNat).count b:Nat)/\p<=i+1:=by
 rw[aiJ h0 hl h];exact⟨hp.1,by omega⟩
theorem ahC {a:List Int}{b i p:Int}(hp:p=((a.take i.toNat).count b:Nat)/\p<=i)(h:¬ i < (((a.map eI).length:Nat):Int)):p=aaT a b:=by
 rw[Lm] at h;rw[hp.1,acM h];rfl
theorem Iz {n b:Nat}(h:n*b<=ba)(hb:Nat.blt 0 b=true):IntKind.i64.wrap ((n:Int) - 1)=(n:Int) - 1:=by
 unfold ba at h;have:=Nb hb;have:n*1<=n*b:=Nat.mul_le_mul (al _) this;rw[ak];omega
theorem afZ {α:Type}{f:α->List Tr}{a:List α}{p:α->Bool}{i q:Int}(h0:0<=i)(hle:i<=(((a.map f).length:Nat):Int)){b:Nat}(hb:a.length*b<=ba)(O9:Nat.blt 0 b=true)(hp:q=((a.take i.toNat).countP p:Nat)/\q<=i)(hl:i.toNat < a.length)(h:p a[i.toNat]=true):IntKind.i64.wrap (q+1)=((a.take (i+1).toNat).countP p:Nat)/\IntKind.i64.wrap (q+1)<=i+1:=by
 obtain⟨h1,h2⟩:=hp;rw[Lm] at hle;unfold ba at hb;have xw:=Nb O9;have:a.length*1<=a.length*b:=Nat.mul_le_mul (al _) xw
 have hw:IntKind.i64.wrap (q+1)=q+1:=by
  have:0<=q:=by rw[h1];exact Int.natCast_nonneg _
  rw[ak];omega
 rw[hw,ahB h0 hl,h,h1];exact⟨rfl,by omega⟩
theorem agA {α:Type}{a:List α}{p:α->Bool}{i q:Int}(h0:0<=i)(hp:q=((a.take i.toNat).countP p:Nat)/\q<=i)(hl:i.toNat < a.length)(h:p a[i.toNat]=false):q=((a.take (i+1).toNat).countP p:Nat)/\q<=i+1:=by
 rw[ahB h0 hl,h];exact⟨by simpa using hp.1,by omega⟩
theorem aiK {α:Type}{f:α->List Tr}{a:List α}{p:α->Bool}{i q:Int}(hp:q=((a.take i.toNat).countP p:Nat)/\q<=i)(h:¬ i < (((a.map f).length:Nat):Int)):q=((a.countP p:Nat):Int):=by
 rw[Lm] at h;rw[hp.1,acM h]
theorem ajD {cards:Int}{s:aA}{i:Int}(_h0:0<=i)(hl:i.toNat < s.aa.length)(h:GS cards s i.toNat s.aa[i.toNat]=false):false=Mq cards s:=by
 unfold Mq;rw[afH hl h,Bool.and_false]
theorem ahX {cards:Int}{s:aA}{i:Int}{f:aE->List Tr}(hn:¬ (((s.aa.map f).length:Nat):Int) > 2048)(h:Up (GS cards s) s.aa i)(h1:¬ i < (((s.aa.map f).length:Nat):Int)):true=Mq cards s:=by
 rw[Lm] at hn h1;unfold Mq;rw[h.all h1,decide_eq_false hn];rfl
section
variable {s:aA}{o:aE}{i:Int}{a:List bX}{f:bX->List Tr}{g:cq->List Tr}
theorem aeE (h1:sW o (((a.map f).length:Nat):Int) (((s.az.map g).length:Nat):Int)=true)(h2:¬ o.id>=s.bE)(h3:¬ o.du>=s.bQ)(h4:i.toNat=0\/¬ (s.aa.getD (i.toNat - 1) uq).id>=o.id)(h5:pX s o=true):GS ((a.length:Nat):Int) s i.toNat o=true:=by
 rw[Lm,Lm] at h1;unfold GS;rw[h1,h5,decide_eq_false h2,decide_eq_false h3];rcases h4 with h4|h4
 ·rw[h4];rfl
 ·rw[decide_eq_false h4];simp
theorem aiC (h1:sW o (((a.map f).length:Nat):Int) (((s.az.map g).length:Nat):Int)=false):GS ((a.length:Nat):Int) s i.toNat o=false:=by
 rw[Lm,Lm] at h1;unfold GS;rw[h1];rfl
theorem aiB {c:Int}(h:o.id>=s.bE):GS c s i.toNat o=false:=by
 unfold GS;rw[decide_eq_true h];simp
theorem aiA {c:Int}(h:o.du>=s.bQ):GS c s i.toNat o=false:=by
 unfold GS;rw[decide_eq_true h];simp
theorem ahZ {c:Int}(h0:i > 0)(h:(s.aa.getD (i.toNat - 1) uq).id>=o.id):GS c s i.toNat o=false:=by
 unfold GS;rw[decide_eq_true h,decide_eq_true (show((i.toNat:Nat):Int) > 0 by omega)];simp
theorem ahY {c:Int}(h:pX s o=false):GS c s i.toNat o=false:=by
 unfold GS;rw[h];simp
end
theorem acP {s:aA}{i:Int}{p:cq}(h0:0<=i):Mh s i.toNat p=(fz p.je (-1000000) 1000000&&(fz p.kH 0 1000000&&(fz p.Cm 0 1000000&&(DZ p.ye p.yd p.yc p.yb p.ya p.x9&&(iL s 2 i p.cW&&(iL s 1 i p.hand&&iL s 3 i p.dI)))))):=by
 unfold Mh;rw[Int.toNat_of_nonneg h0]
theorem ajC {s:aA}{f:cq->List Tr}(h:fz (((s.az.map f).length:Nat):Int) 2 4=false):false=yg s:=by
 rw[Lm] at h;unfold yg;rw[h];rfl
theorem ajB {s:aA}{i:Int}(hl:i.toNat < s.az.length)(h:Mh s i.toNat s.az[i.toNat]=false):false=yg s:=by
 unfold yg;rw[afH hl h];simp
theorem ahW {s:aA}{i:Int}{f:cq->List Tr}{r:Bool}(hn:fz (((s.az.map f).length:Nat):Int) 2 4=true)(h:Up (Mh s) s.az i)(h1:¬ i < (((s.az.map f).length:Nat):Int))(hr:r=(iL s 0 (-1) s.bw&&iL s 4 (-1) s.gn)):r=yg s:=by
 rw[Lm] at hn h1;unfold yg;rw[hn,h.all h1,hr];rfl
theorem amH {n:Int}(h:fz n 1 1000000=true):IntKind.i64.wrap (n - 1)=n - 1:=by
 unfold fz at h;simp only[ag,decide_eq_true_eq] at h;rw[ak];omega
section
variable {q:tp}{s:aA}{x:fq}{i k:Int}
theorem afV {f:fq->List Tr}(hi:i < (((s.stack.map f).length:Nat):Int))(h1:z6 q s x=true)(h2:Up (fun _ (y:fq)=>!(y.id==x.id)) s.stack k)(h3:¬ k < i):z7 q s i.toNat x=true:=by
 rw[Lm] at hi;unfold z7;rw[h1,Bool.true_and,aN];intro y hy;obtain⟨j,hj,rfl⟩:=bB.1 hy;rw[aB] at hj;rw[List.getElem_take];exact h2 j (by omega) (by omega)
theorem ajO (h1:z6 q s x=false):z7 q s i.toNat x=false:=by
 unfold z7;rw[h1];rfl
theorem ajN (h0:0<=k)(hk:k < i)(hl:k.toNat < s.stack.length)(h:s.stack[k.toNat].id=x.id):z7 q s i.toNat x=false:=by
 unfold z7;rw[adF (i:=k.toNat) (by rw[aB];omega) (by rw[List.getElem_take,h];simp),Bool.and_false]
theorem agH {f:fq->List Tr}{g:bW->List Tr}{c:iS->List Tr}(h:(((s.stack.map f).length:Nat):Int) > 64\/(((s.aaJ.map g).length:Nat):Int) > 64\/(((s.dG.map c).length:Nat):Int) > 64):false=Gn q s:=by
 rw[Lm,Lm,Lm] at h;unfold Gn;rcases h with h|h|h <;> rw[decide_eq_true h] <;> simp
theorem akJ (hl:i.toNat < s.stack.length)(h:z7 q s i.toNat s.stack[i.toNat]=false):false=Gn q s:=by
 unfold Gn;rw[afH hl h];simp
theorem akI (hl:i.toNat < s.aaJ.length)(h:u6 q s s.aaJ[i.toNat]=false):false=Gn q s:=by
 unfold Gn;rw[adF hl h];simp
theorem akG (hl:i.toNat < s.dG.length)(h:wK q s s.dG[i.toNat]=false):false=Gn q s:=by
 unfold Gn;rw[adF (p:=wK q s) hl h];simp
theorem aiS {j:Int}{f:fq->List Tr}{g:bW->List Tr}{c:iS->List Tr}(g1:¬ (((s.stack.map f).length:Nat):Int) > 64)(g2:¬ (((s.aaJ.map g).length:Nat):Int) > 64)(g3:¬ (((s.dG.map c).length:Nat):Int) > 64)
  (h1:Up (z7 q s) s.stack i) (e1:¬ i < (((s.stack.map f).length:Nat):Int)) (h2:Up (fun _=>u6 q s) s.aaJ j) (e2:¬ j < (((s.aaJ.map g).length:Nat):Int)) (h3:Up (fun _=>wK q s) s.dG k) (e3:¬ k < (((s.dG.map c).length:Nat):Int)):true=Gn q s:=by
 rw[Lm] at g1 g2 g3 e1 e2 e3;unfold Gn;rw[decide_eq_false g1,decide_eq_false g2,decide_eq_false g3,h1.all e1,h2.ajU e2,h3.ajU e3];rfl
end
section
variable {q:tp}{s:aA}{c:iS}
theorem adD (h1:DO s c.aaB=true)(h2:¬ c.du>=s.bQ)(h3:fz c.K6 1 2=true)(h4:q.set c.aa=true)(h5:((q.txt c.cA).toList==(⟨#[]⟩:ByteArray).toList)=false):wK q s c=true:=by
 unfold wK;rw[h1,decide_eq_false h2,h3,h4,h5];rfl
theorem afF (h:DO s c.aaB=false):wK q s c=false:=by
 unfold wK;rw[h];rfl
theorem afD (h:c.du>=s.bQ):wK q s c=false:=by
 unfold wK;rw[decide_eq_true h];simp
theorem afB (h:fz c.K6 1 2=false):wK q s c=false:=by
 unfold wK;rw[h];simp
theorem afA (h:q.set c.aa=false):wK q s c=false:=by
 unfold wK;rw[h];simp
theorem aeZ (h:((q.txt c.cA).toList==(⟨#[]⟩:ByteArray).toList)=true):wK q s c=false:=by
 unfold wK;rw[h,Bool.not_true,Bool.and_false,Bool.and_false,Bool.and_false,Bool.and_false]
end
section
variable {q:tp}{c:Int}{s:aA}{i:Int}
theorem amY (h:isA s=false):false=kh q c s:=by unfold kh;rw[h];rfl
theorem amX (h:isB s=false):false=kh q c s:=by unfold kh;rw[h];simp
theorem amW (hl:i.toNat < s.extra.length)(h:DO s s.extra[i.toNat]=false):false=kh q c s:=by unfold kh;rw[adF hl h];simp
theorem amV (h:AX s=false):false=kh q c s:=by unfold kh;rw[h];simp
theorem alB {f:Int->List Tr}{r:Bool}(hA:isA s=true)(hB:isB s=true)(h:Up (fun _=>DO s) s.extra i)(h1:¬ i < (((s.extra.map f).length:Nat):Int))(hW:AX s=true)(hr:r=(Mq c s&&Gn q s)):r=kh q c s:=by
 rw[Lm] at h1;unfold kh;rw[hA,hB,h.ajU h1,hW,hr];rfl
theorem amZ {f:cq->List Tr}{g:Int->List Tr}(h1:yg s=true)(h2:DO s s.w7=true)(h3:DO s s.priority=true)(h4:fz s.vA 0 (((s.az.map f).length:Nat):Int)=true)(h5:¬ (((s.extra.map g).length:Nat):Int) > 500)(h6:fz s.BT 0 2=true):isB s=true:=by
 rw[Lm] at h4 h5;unfold isB;rw[h1,h2,h3,h4,decide_eq_false h5,h6];rfl
theorem alD (h1:s.BT=1)(h2:DO s s.uR=true):AX s=true:=by unfold AX;rw[h1,h2];rfl
theorem alC (h1:¬ s.BT=1)(h2:s.uR = -1):AX s=true:=by unfold AX;rw[if_neg (by simpa using h1),h2];rfl
theorem alF (h1:s.BT=1)(h2:DO s s.uR=false):AX s=false:=by unfold AX;rw[h1,h2];rfl
theorem alE (h1:¬ s.BT=1)(h2:¬ s.uR = -1):AX s=false:=by unfold AX;rw[if_neg (by simpa using h1)];simpa using h2
theorem alR (h:fz s.bE 1 1000000=false):isA s=false:=by unfold isA;rw[h];simp
theorem alQ (h:fz s.bQ 1 1000000=false):isA s=false:=by unfold isA;rw[h];simp
theorem alP (h:fz s.D8 0 500=false):isA s=false:=by unfold isA;rw[h];simp
theorem alO (h:fz s.step 0 10=false):isA s=false:=by unfold isA;rw[h];simp
theorem alN {f:aE->List Tr}(h:(((s.aa.map f).length:Nat):Int) > 2048):isA s=false:=by
 rw[Lm] at h;unfold isA;rw[decide_eq_true h];simp
theorem anA {f:aE->List Tr}(h1:fz s.bE 1 1000000=true)(h2:fz s.bQ 1 1000000=true)(h3:fz s.D8 0 500=true)(h4:fz s.step 0 10=true)(h5:¬ (((s.aa.map f).length:Nat):Int) > 2048):isA s=true:=by
 rw[Lm] at h5;unfold isA;rw[h1,h2,h3,h4,decide_eq_false h5];rfl
theorem alL (h:yg s=false):isB s=false:=by unfold isB;rw[h];simp
theorem alK (h:DO s s.w7=false):isB s=false:=by unfold isB;rw[h];simp
theorem alJ (h:DO s s.priority=false):isB s=false:=by unfold isB;rw[h];simp
theorem alI (h:fz s.BT 0 2=false):isB s=false:=by unfold isB;rw[h];simp
theorem alH {f:cq->List Tr}(h:fz s.vA 0 (((s.az.map f).length:Nat):Int)=false):isB s=false:=by
 rw[Lm] at h;unfold isB;rw[h];simp
theorem alG {f:Int->List Tr}(h:(((s.extra.map f).length:Nat):Int) > 500):isB s=false:=by
 rw[Lm] at h;unfold isB;rw[decide_eq_true h];simp
end
end
end
end Cg
namespace Go.Proofs.YtbmdcnkidjlbbaaGreat
section
open Go Cg
abbrev zI:Ce:=.t (.lit (.int .i64 0))
abbrev zB:Ce:=.t (.lit (.bool false))
abbrev zS:Ce:=.t (.lit (.string ⟨#[]⟩))
abbrev zU:Ce:=.t (.lit (.int .u64 0))
def y5:Ty:=⟨.int .u8,1,1,[.t (.lit (.int .u8 0))],[]⟩
def y21:Ty:=⟨.int .i32,1,4,[.t (.lit (.int .i32 0))],[]⟩
def y30:Ty:=⟨.str [(0,23),(1,24),(2,25),(3,25),(4,26),(5,27),(6,28),(7,3),(8,3),(9,3),(10,4),(11,3),(12,3),(13,3),(14,3),(15,29),(16,25),(17,3),(18,3)],19,280,[.nil,.nil,.nil,.nil,.nil,.nil,.nil,zI,zI,zI,zB,zI,zI,zI,zI,zU,.nil,zI,zI],[]⟩
def y33:Ty:=⟨.str [(0,3),(1,3),(2,3),(3,3),(4,3),(5,3),(6,3),(7,3),(8,3),(9,3),(10,4),(11,4),(12,32)],15,112,[zI,zI,zI,zI,zI,zI,zI,zI,zI,zI,zB,zB,zI,zI,zI],[.int,.int,.int,.int,.int,.int,.int,.int,.int,.int,.bool,.bool,.int,.int,.int]⟩
def y43:Ty:=⟨.str [(0,22),(1,31),(20,31),(39,34)],54,696,[.nil,.nil,.nil,.nil,.nil,.nil,.nil,.nil,zI,zI,zI,zB,zI,zI,zI,zI,zU,.nil,zI,zI,.nil,.nil,.nil,.nil,.nil,.nil,.nil,zI,zI,zI,zB,zI,zI,zI,zI,zU,.nil,zI,zI,zI,zI,zI,zI,zI,zI,zI,zI,zI,zI,zB,zB,zI,zI,zI],[]⟩
def y47:Ty:=⟨.str [(0,3),(1,3),(2,46)],7,56,[zI,zI,zI,zI,zI,zI,zI],[.int,.int,.int,.int,.int,.int,.int]⟩
def y50:Ty:=⟨.str [(0,3),(1,3),(2,49)],3,40,[zI,zI,.nil],[]⟩
def y53:Ty:=⟨.str [(0,9),(1,4),(2,48),(9,3),(10,51),(13,3),(14,3),(15,3),(16,52)],17,176,[zS,zB,zI,zI,zI,zI,zI,zI,zI,zI,zI,zI,.nil,zI,zI,zI,.nil],[]⟩
def y55:Ty:=⟨.str [(0,3),(1,3)],2,16,[zI,zI],[.int,.int]⟩
def y57:Ty:=⟨.str [(0,3),(1,3),(2,3),(3,3),(4,3),(5,3),(6,3),(7,9),(8,3),(9,3),(10,56),(12,56),(14,56)],16,136,[zI,zI,zI,zI,zI,zI,zI,zS,zI,zI,zI,zI,zI,zI,zI,zI],[.int,.int,.int,.int,.int,.int,.int,.str,.int,.int,.int,.int,.int,.int,.int,.int]⟩
def y60:Ty:=⟨.str [(0,48),(7,4),(8,4),(9,3)],10,72,[zI,zI,zI,zI,zI,zI,zI,zB,zB,zI],[.int,.int,.int,.int,.int,.int,.int,.bool,.bool,.int]⟩
def y62:Ty:=⟨.str [(0,3),(1,3),(2,58)],18,152,[zI,zI,zI,zI,zI,zI,zI,zI,zI,zS,zI,zI,zI,zI,zI,zI,zI,zI],[.int,.int,.int,.int,.int,.int,.int,.int,.int,.str,.int,.int,.int,.int,.int,.int,.int,.int]⟩
def y66:Ty:=⟨.str [(0,3),(1,3),(2,58),(18,3),(19,3),(20,3),(21,3)],22,184,[zI,zI,zI,zI,zI,zI,zI,zI,zI,zS,zI,zI,zI,zI,zI,zI,zI,zI,zI,zI,zI,zI],[.int,.int,.int,.int,.int,.int,.int,.int,.int,.str,.int,.int,.int,.int,.int,.int,.int,.int,.int,.int,.int,.int]⟩
def y68:Ty:=⟨.str [(0,3),(1,58),(17,59),(18,61),(28,4),(29,63),(47,4),(48,64),(49,65),(50,67)],72,640,[zI,zI,zI,zI,zI,zI,zI,zI,zS,zI,zI,zI,zI,zI,zI,zI,zI,.nil,zI,zI,zI,zI,zI,zI,zI,zB,zB,zI,zB,zI,zI,zI,zI,zI,zI,zI,zI,zI,zS,zI,zI,zI,zI,zI,zI,zI,zI,zB,.nil,.nil,zI,zI,zI,zI,zI,zI,zI,zI,zI,zS,zI,zI,zI,zI,zI,zI,zI,zI,zI,zI,zI,zI],[]⟩
def y71:Ty:=⟨.str [(0,3),(1,3),(2,69),(74,34)],89,768,[zI,zI,zI,zI,zI,zI,zI,zI,zI,zI,zS,zI,zI,zI,zI,zI,zI,zI,zI,.nil,zI,zI,zI,zI,zI,zI,zI,zB,zB,zI,zB,zI,zI,zI,zI,zI,zI,zI,zI,zI,zS,zI,zI,zI,zI,zI,zI,zI,zI,zB,.nil,.nil,zI,zI,zI,zI,zI,zI,zI,zI,zI,zS,zI,zI,zI,zI,zI,zI,zI,zI,zI,zI,zI,zI,zI,zI,zI,zI,zI,zI,zI,zI,zI,zI,zB,zB,zI,zI,zI],[]⟩
def y74:Ty:=⟨.str [(0,3),(1,3),(2,3),(3,3),(4,3),(5,4),(6,4),(7,4),(8,4),(9,3),(10,32),(13,3),(14,3),(15,3),(16,4),(17,3),(18,3)],19,128,[zI,zI,zI,zI,zI,zB,zB,zB,zB,zI,zI,zI,zI,zI,zI,zI,zB,zI,zI],[.int,.int,.int,.int,.int,.bool,.bool,.bool,.bool,.int,.int,.int,.int,.int,.int,.int,.bool,.int,.int]⟩
def y76:Ty:=⟨.str [(0,3),(1,3),(2,3),(3,3),(4,3)],5,40,[zI,zI,zI,zI,zI],[.int,.int,.int,.int,.int]⟩
def y89:Ty:=⟨.str [(0,31),(19,38),(20,86),(21,87),(22,88),(23,87)],24,400,[.nil,.nil,.nil,.nil,.nil,.nil,.nil,zI,zI,zI,zB,zI,zI,zI,zI,zU,.nil,zI,zI,.nil,.nil,.nil,.nil,.nil],[]⟩
def y99:Ty:=⟨.str [(0,3),(1,3),(2,3),(3,69),(75,4)],76,672,[zI,zI,zI,zI,zI,zI,zI,zI,zI,zI,zI,zS,zI,zI,zI,zI,zI,zI,zI,zI,.nil,zI,zI,zI,zI,zI,zI,zI,zB,zB,zI,zB,zI,zI,zI,zI,zI,zI,zI,zI,zI,zS,zI,zI,zI,zI,zI,zI,zI,zI,zB,.nil,.nil,zI,zI,zI,zI,zI,zI,zI,zI,zI,zS,zI,zI,zI,zI,zI,zI,zI,zI,zI,zI,zI,zI,zB],[]⟩
def XJ:Ty:=⟨.str [(0,31),(19,31),(38,38),(39,38),(40,34)],55,720,[.nil,.nil,.nil,.nil,.nil,.nil,.nil,zI,zI,zI,zB,zI,zI,zI,zI,zU,.nil,zI,zI,.nil,.nil,.nil,.nil,.nil,.nil,.nil,zI,zI,zI,zB,zI,zI,zI,zI,zU,.nil,zI,zI,.nil,.nil,zI,zI,zI,zI,zI,zI,zI,zI,zI,zI,zB,zB,zI,zI,zI],[]⟩
def XI:Ty:=⟨.str [(0,31),(19,31),(38,38),(39,38),(40,34),(55,25)],56,744,[.nil,.nil,.nil,.nil,.nil,.nil,.nil,zI,zI,zI,zB,zI,zI,zI,zI,zU,.nil,zI,zI,.nil,.nil,.nil,.nil,.nil,.nil,.nil,zI,zI,zI,zB,zI,zI,zI,zI,zU,.nil,zI,zI,.nil,.nil,zI,zI,zI,zI,zI,zI,zI,zI,zI,zI,zB,zB,zI,zI,zI,.nil],[]⟩
def XH:Ty:=⟨.str [(0,3),(1,3),(2,3),(3,69)],75,664,[zI,zI,zI,zI,zI,zI,zI,zI,zI,zI,zI,zS,zI,zI,zI,zI,zI,zI,zI,zI,.nil,zI,zI,zI,zI,zI,zI,zI,zB,zB,zI,zB,zI,zI,zI,zI,zI,zI,zI,zI,zI,zS,zI,zI,zI,zI,zI,zI,zI,zI,zB,.nil,.nil,zI,zI,zI,zI,zI,zI,zI,zI,zI,zS,zI,zI,zI,zI,zI,zI,zI,zI,zI,zI,zI,zI],[]⟩
def XG:Ty:=⟨.str [(0,3),(1,3),(2,3),(3,58)],19,160,[zI,zI,zI,zI,zI,zI,zI,zI,zI,zI,zS,zI,zI,zI,zI,zI,zI,zI,zI],[.int,.int,.int,.int,.int,.int,.int,.int,.int,.int,.str,.int,.int,.int,.int,.int,.int,.int,.int]⟩
def XF:Ty:=⟨.arr 6 3,6,48,[zI,zI,zI,zI,zI,zI],[.int,.int,.int,.int,.int,.int]⟩
def XE:Ty:=⟨.str [(0,3),(1,119),(19,121),(38,3),(39,3),(40,9),(41,58),(57,123),(63,59)],64,560,[zI,zI,zI,zI,zI,zI,zI,zI,zI,zI,zS,zI,zI,zI,zI,zI,zI,zI,zI,zI,zI,zI,zI,zI,zI,zI,zI,zI,zI,zS,zI,zI,zI,zI,zI,zI,zI,zI,zI,zI,zS,zI,zI,zI,zI,zI,zI,zI,zS,zI,zI,zI,zI,zI,zI,zI,zI,zI,zI,zI,zI,zI,zI,.nil],[]⟩
def XD:Ty:=⟨.str [(0,9),(1,48),(8,3),(9,51),(12,3),(13,3),(14,3),(15,52),(16,3)],17,176,[zS,zI,zI,zI,zI,zI,zI,zI,zI,zI,zI,.nil,zI,zI,zI,.nil,zI],[]⟩
def XC:Ty:=⟨.str [(0,3),(1,3),(2,3),(3,3),(4,4),(5,25),(6,58),(22,59)],23,224,[zI,zI,zI,zI,zB,.nil,zI,zI,zI,zI,zI,zI,zI,zS,zI,zI,zI,zI,zI,zI,zI,zI,.nil],[]⟩
def XB:Ty:=⟨.str [(0,4),(1,4),(2,58)],18,144,[zB,zB,zI,zI,zI,zI,zI,zI,zI,zS,zI,zI,zI,zI,zI,zI,zI,zI],[.bool,.bool,.int,.int,.int,.int,.int,.int,.int,.str,.int,.int,.int,.int,.int,.int,.int,.int]⟩
def XA:Ty:=⟨.str [(0,3),(1,3),(2,3),(3,123),(9,4),(10,4),(11,25),(12,25),(13,25)],14,152,[zI,zI,zI,zI,zI,zI,zI,zI,zI,zB,zB,.nil,.nil,.nil],[]⟩
def Xz:Ty:=⟨.str [(0,3),(1,3),(2,3),(3,3),(4,3),(5,4),(6,69),(78,174),(79,34)],94,824,[zI,zI,zI,zI,zI,zB,zI,zI,zI,zI,zI,zI,zI,zI,zS,zI,zI,zI,zI,zI,zI,zI,zI,.nil,zI,zI,zI,zI,zI,zI,zI,zB,zB,zI,zB,zI,zI,zI,zI,zI,zI,zI,zI,zI,zS,zI,zI,zI,zI,zI,zI,zI,zI,zB,.nil,.nil,zI,zI,zI,zI,zI,zI,zI,zI,zI,zS,zI,zI,zI,zI,zI,zI,zI,zI,zI,zI,zI,zI,.nil,zI,zI,zI,zI,zI,zI,zI,zI,zI,zI,zB,zB,zI,zI,zI],[]⟩
def Xy:Ty:=⟨.str [(0,3),(1,3),(2,3),(3,3),(4,25),(5,59)],6,80,[zI,zI,zI,zI,.nil,.nil],[]⟩
def Xx:Ty:=⟨.str [(0,3),(1,3),(2,3),(3,9),(4,58)],20,176,[zI,zI,zI,zS,zI,zI,zI,zI,zI,zI,zI,zS,zI,zI,zI,zI,zI,zI,zI,zI],[.int,.int,.int,.str,.int,.int,.int,.int,.int,.int,.int,.str,.int,.int,.int,.int,.int,.int,.int,.int]⟩
def XS:List (Nat × Ty):=[(2,⟨.int .i64,1,8,[zI],[]⟩),(3,⟨.int .i64,1,8,[zI],[]⟩),(4,⟨.Z3,1,1,[zB],[.bool]⟩),(5,y5),(6,y5),(9,⟨.string,1,16,[zS],[]⟩),(12,⟨.int .u64,1,8,[zU],[]⟩),(15,⟨.ptr 314,1,8,[.bot],[]⟩),(16,⟨.ptr 317,1,8,[.bot],[]⟩),(17,⟨.ptr 326,1,8,[.bot],[]⟩),(21,y21),(22,⟨.ia 54,1,24,[.nil],[]⟩),(23,⟨.ia 163,1,24,[.nil],[]⟩),(24,⟨.ia 75,1,24,[.nil],[]⟩),(25,⟨.ia 3,1,24,[.nil],[]⟩),(26,⟨.ia 176,1,24,[.nil],[]⟩),(27,⟨.ia 72,1,24,[.nil],[]⟩),(28,⟨.ia 178,1,24,[.nil],[]⟩),(29,⟨.int .u64,1,8,[zU],[]⟩),(30,y30),(31,y30),(32,⟨.arr 3 3,3,24,[zI,zI,zI],[.int,.int,.int]⟩),(33,y33),(34,y33),(38,⟨.ia 138,1,24,[.nil],[]⟩),(43,y43),(44,y43),(46,⟨.arr 5 3,5,40,[zI,zI,zI,zI,zI],[.int,.int,.int,.int,.int]⟩),(47,y47),(48,y47),(49,⟨.ia 9,1,24,[.nil],[]⟩),(50,y50),(51,y50),(52,⟨.ia 69,1,24,[.nil],[]⟩),(53,y53),(54,y53),(55,y55),(56,y55),(57,y57),(58,y57),(59,⟨.ia 198,1,24,[.nil],[]⟩),(60,y60),(61,y60),(62,y62),(63,y62),(64,⟨.ia 149,1,24,[.nil],[]⟩),(65,⟨.ia 125,1,24,[.nil],[]⟩),(66,y66),(67,y66),(68,y68),(69,y68),(71,y71),(72,y71),(74,y74),(75,y74),(76,y76),(77,y76),(82,⟨.int .i64,1,8,[zI],[]⟩),(86,⟨.ia 143,1,24,[.nil],[]⟩),(87,⟨.ia 4,1,24,[.nil],[]⟩),(88,⟨.ia 25,1,24,[.nil],[]⟩),(89,y89),(90,y89),(95,⟨.ia 100,1,24,[.nil],[]⟩),(99,y99),(100,y99),(105,XJ),(106,XJ),(109,XI),(110,XI),(111,⟨.ia 115,1,24,[.nil],[]⟩),(114,XH),(115,XH),(118,y62),(119,y62),(120,XG),(121,XG),(122,XF),(123,XF),(124,XE),(125,XE),(137,XD),(138,XD),(142,XC),(143,XC),(148,XB),(149,XB),(162,XA),(163,XA),(174,⟨.ia 328,1,24,[.nil],[]⟩),(175,Xz),(176,Xz),(177,Xy),(178,Xy),(197,Xx),(198,Xx),(199,⟨.ia 87,1,24,[.nil],[]⟩),(245,⟨.int .u64,1,8,[zU],[]⟩),(281,⟨.ia 5,1,24,[.nil],[]⟩),(283,⟨.arr 2 9,2,32,[zS,zS],[.str,.str]⟩),(284,⟨.arr 6 9,6,96,[zS,zS,zS,zS,zS,zS],[.str,.str,.str,.str,.str,.str]⟩),(290,⟨.int .i64,1,8,[zI],[]⟩),(298,⟨.int .u32,1,4,[.t (.lit (.int .u32 0))],[]⟩),(301,⟨.int .u64,1,8,[zU],[]⟩),(305,⟨.ptr 3,1,8,[.bot],[]⟩),(309,⟨.ptr 301,1,8,[.bot],[]⟩),(319,y5),(320,y5),(322,⟨.ptr 5,1,8,[.bot],[]⟩),(323,y21),(324,y21),(327,y55),(328,y55)]
def T (t:Nat):Option Ty:=lk XS t
theorem tabOk:dg ae T:=Le ae XS (by kernel_rfl) (by kernel_rfl)
end
end Go.Proofs.YtbmdcnkidjlbbaaGreat
namespace Cg
section
open Go Go.RowKit Go.Sort Go.Lib
section
variable {P:Program}{T:Nat->Option Ty}{N:Nat}
def Eqs (e:Ex)(s:St):Ex->St->Prop:=fun e2 s2=>e2=e/\s2=s
section
variable (P:Program)(T:Nat->Option Ty)(N:Nat)
def lY (c:Code)(s:St)(e:Ex)(s':St):Prop:=∀ w0 (O:gD) [en O],Tp P T N w0 O c s (Eqs e s')
def ck (c:Code)(s:St)(Q:Ex->St->Prop):Prop:=∃ e s',lY P T N c s e s'/\Q e s'
inductive Pd (c:Code) (e:Ex) (s':St):Nat->St->Prop
  | stop {s:St}:lY P T N c s e s'->e≠.ic->Pd c e s' 0 s
  | next {n:Nat} {s s1 s2:St}:lY P T N c s .ic s1->Wk s1 s2->Pd c e s' n s2->Pd c e s' (n+1) s
def gP (c:Code)(s:St)(Q:Ex->St->Prop):Prop:=∃ n e s',Pd P T N c e s' n s/\Q e s'
def SF (cs:List Nat)(id:Nat)(ops:Array Oper)(d:Bool)(st:St)(Q:Ex->St->Prop):Prop:=match st with
  | ⟨IG,Kr,IL,BY⟩=>match cs.contains id with
    | true=>ck P T N (.region id ops d) ⟨IG,Kr,IL,BY⟩ Q
    | false=>match !d||vO T ⟨IG,Kr,IL,BY⟩ (pq ops.toList []) ops.toList with
      | true=>ju P T ops BY 0 ops.toList ⟨IG,Kr,IL,BY⟩ fun cJ=>match cJ with
        | ⟨sl,bx,rw,_⟩=>mA (BY+128*ops.size) fun nx=>Q .ic ⟨sl,bx,rw,nx⟩
      | false=>False
def SG (cs:List Nat)(c:Code):St->(Ex->St->Prop)->Prop:=
  Code.rec (motive:=fun _=>St->(Ex->St->Prop)->Prop) (fun st Q=>Q .ic st) (fun id ops d st Q=>SF P T N cs id ops d st Q) (fun _ _ Nj Ni st Q=>Nj st (vL (fun cJ=>Ni cJ Q) Q))
    (fun c _ _ Nj Ni st Q=>OF c st (Nj st Q) (Ni st Q)) (fun id _ ih st Q=>ih st (qC id Q)) (fun c _ st Q=>gP P T N c st Q) (fun _ _ _ _ _ _ _ _=>False) (fun id st Q=>Q (.exit id) st)
    (fun _ _ _ _=>False) (fun _ _ _=>False) (fun _ _ _=>False) (fun st Q=>Q .ret st) (fun _ _ _=>False) c
end
theorem lY.skip (s:St):lY P T N .skip s .ic s:=fun _ _ _ _ _ E _ _ r hb=>wp_skip ⟨s,E,⟨rfl,rfl⟩,r,hb⟩
theorem lY.ret (s:St):lY P T N .ret s .ret s:=fun _ _ _ _ _ E _ _ r hb=>wp_ret ⟨s,E,⟨rfl,rfl⟩,r,hb⟩
theorem lY.exit (id:Nat)(s:St):lY P T N (.exit id) s (.exit id) s:=fun _ _ _ _ _ E _ _ r hb=>wp_exit ⟨s,E,⟨rfl,rfl⟩,r,hb⟩
theorem lY.seq {x y:Code}{s s1 s':St}{e:Ex}(h:lY P T N x s .ic s1)(k:lY P T N y s1 e s'):lY P T N (.seq x y) s e s':=fun w0 O _ hT hc E a w r hb=>by
  unfold aaV at hc;rw[ag] at hc;refine wp_seq (wp_mono (h w0 O hT hc.1 E a w r hb) fun e' a' w' hp=>?_)
  cases e' with
  | normal=>
    obtain⟨cJ,E',⟨_,rfl⟩,r',eF⟩:=hp;exact k w0 O hT hc.2 E' a' w' r' eF
  | exit id=>
    obtain⟨cJ,E',⟨hq,_⟩,r',eF⟩:=hp
    cases hq
  | ret=>
    obtain⟨cJ,E',⟨hq,_⟩,r',eF⟩:=hp
    cases hq
  | goto l=>exact hp.elim
  | panic ch=>exact hp.elim
  | outgrown=>exact hp.elim
theorem lY.out {x y:Code}{s s':St}{e:Ex}(h:lY P T N x s e s')(he:e≠.ic):lY P T N (.seq x y) s e s':=fun w0 O _ hT hc E a w r hb=>by
  unfold aaV at hc;rw[ag] at hc;refine wp_seq (wp_mono (h w0 O hT hc.1 E a w r hb) fun e' a' w' hp=>?_)
  cases e' with
  | normal=>
    obtain⟨cJ,E',⟨hq,_⟩,r',eF⟩:=hp;exact absurd hq.symm he
  | exit id=>exact hp
  | ret=>exact hp
  | goto l=>exact hp.elim
  | panic ch=>exact hp.elim
  | outgrown=>exact hp.elim
theorem lY.cond {c:Operand}{x y:Code}{s s':St}{e:Ex}{t:Bool}(ht:ev s c=.c (.t (.lit (.bool t))))(h1:t=true->lY P T N x s e s')(h2:t=false->lY P T N y s e s'):lY P T N (.cond c x y) s e s':=fun w0 O _ hT hc E a w r hb=>by
  unfold aaV at hc;rw[ag] at hc;have hv:=df r c;rw[ht] at hv;refine wp_cond_split (dO hv) (fun e=>?_) (fun e=>?_)
  · exact h1 e w0 O hT hc.1 E a w r hb
  · exact h2 e w0 O hT hc.2 E a w r hb
theorem lY.block {id:Nat}{c:Code}{s s':St}{e e':Ex}(h:lY P T N c s e s')(he:e'=match e with
    | .exit i=>bif Nat.beq i id then .ic else .exit i
    | e=>e):lY P T N (.block id c) s e' s':=fun w0 O _ hT hc E a w r hb=>by
  unfold aaV at hc;refine wp_block (wp_mono (h w0 O hT hc E a w r hb) fun e2 a' w' hp=>?_)
  cases e2 with
  | normal=>
    obtain⟨cJ,E',⟨rfl,rfl⟩,r',eF⟩:=hp;exact⟨cJ,E',⟨he.symm,rfl⟩,r',eF⟩
  | exit i=>
    obtain⟨cJ,E',⟨rfl,rfl⟩,r',eF⟩:=hp;simp only at he;show(if i=id then kR w0 N O (Eqs e' cJ) .normal a' w' else kR w0 N O (Eqs e' cJ) (.exit i) a' w')
    by_cases hi:i=id
    · subst hi
      rw[show Nat.beq i i=true by simp,cond_true] at he;rw[if_pos rfl];exact⟨cJ,E',⟨he.symm,rfl⟩,r',eF⟩
    · rw[show Nat.beq i id=false by
        cases hb:Nat.beq i id
        · rfl
        · exact absurd (ah hb) hi,cond_false] at he
      rw[if_neg hi];exact⟨cJ,E',⟨he.symm,rfl⟩,r',eF⟩
  | ret=>
    obtain⟨cJ,E',⟨rfl,rfl⟩,r',eF⟩:=hp;exact⟨cJ,E',⟨he.symm,rfl⟩,r',eF⟩
  | goto l=>exact hp.elim
  | panic ch=>exact hp.elim
  | outgrown=>exact hp.elim
theorem lY.wk {c:Code}{s s1 s':St}{e:Ex}(hw:Wk s s1)(h:lY P T N c s1 e s'):lY P T N c s e s':=fun w0 O _=>aB1 hw (h w0 O)
theorem Pd.wk {c:Code}{s s1 s':St}{e:Ex}{n:Nat}(hw:Wk s s1)(h:Pd P T N c e s' n s1):Pd P T N c e s' n s:=by
  cases h with
  | stop h1 h2=>exact .stop (h1.wk hw) h2
  | next h1 h2 h3=>exact .next (h1.wk hw) h2 h3
theorem ck.wk {c:Code}{s s1:St}{Q:Ex->St->Prop}(hw:Wk s s1)(h:ck P T N c s1 Q):ck P T N c s Q:=by
  obtain⟨e,s',h1,h2⟩:=h;exact⟨e,s',h1.wk hw,h2⟩
theorem gP.wk {c:Code}{s s1:St}{Q:Ex->St->Prop}(hw:Wk s s1)(h:gP P T N c s1 Q):gP P T N c s Q:=by
  obtain⟨n,e,s',h1,h2⟩:=h;exact⟨n,e,s',h1.wk hw,h2⟩
theorem ck.lW (ms:List Nat){c:Code}{s:St}{Q:Ex->St->Prop}(h:ck P T N c (Cg.lW ms s) Q):ck P T N c s Q:=h.wk (Wk.lW ms s)
theorem Pd.run {c:Code}{s s':St}{e:Ex}{n:Nat}(h:Pd P T N c e s' n s):lY P T N (.loop c) s e s':=fun w0 O _ hT hc E a w r hb=>by
  unfold aaV at hc;refine nP (fun n a w=>∃ x E,Pd P T N c e s' n x/\aaP O E w w0.heap.size N x a/\Below w0.heap.size w0 w) (n:=n) ⟨s,E,h,r,hb⟩ ?_;rintro n a w ⟨x,E,hx,r,hb⟩
  cases hx with
  | stop h1 h2=>
    refine wp_mono (h1 w0 O hT hc E a w r hb) fun e2 a' w' hp=>?_
    cases e2 with
    | normal=>
      obtain⟨cJ,E',⟨hq,_⟩,_⟩:=hp;exact absurd hq.symm h2
    | exit id=>exact hp
    | ret=>exact hp
    | goto l=>exact hp.elim
    | panic ch=>exact hp.elim
    | outgrown=>exact hp.elim
  | @next n s s1 s2 h1 h2 h3=>
    refine wp_mono (h1 w0 O hT hc E a w r hb) fun e2 a' w' hp=>?_
    cases e2 with
    | normal=>
      obtain⟨cJ,E',⟨_,rfl⟩,r',eF⟩:=hp;obtain⟨E2,r2⟩:=h2 O E' w' _ N a' r';exact⟨n,Nat.lt_succ_self n,s2,E2,h3,r2,eF⟩
    | exit id=>
      obtain⟨cJ,E',⟨hq,_⟩,_⟩:=hp
      cases hq
    | ret=>
      obtain⟨cJ,E',⟨hq,_⟩,_⟩:=hp
      cases hq
    | goto l=>exact hp.elim
    | panic ch=>exact hp.elim
    | outgrown=>exact hp.elim
theorem gP.tpx {c:Code}{s:St}{Q:Ex->St->Prop}(h:gP P T N c s Q):ck P T N (.loop c) s Q:=by
  obtain⟨n,e,s',h1,h2⟩:=h;exact⟨e,s',h1.run,h2⟩
theorem lY.region {id:Nat}{ops:Array Oper}{d:Bool}{s:St}{K:St->Prop}(nD:(!d||vO T s (pq ops.toList []) ops.toList)=true)(h:ju P T ops s.nx 0 ops.toList s K):∃ sl bx rw nx,K ⟨sl,bx,rw,nx⟩/\lY P T N (.region id ops d) s .ic ⟨sl,bx,rw,s.nx+128*ops.size⟩:=by
  obtain⟨L,hL,hp,⟨sl,bx,dB,nx⟩,hK,he⟩:=iK ops.toList [] s _ (jV.refl _) (fun j o d hj=>by simp at hj) h;rw[bF] at hp he;refine⟨sl,bx,dB,nx,hK,fun w0 O _ hT hc E a w r hb=>?_⟩;have il:jG N ops d=true:=hc;have k0:=r.kb;have r0:ca O E w w0.heap.size N (s.nx+128*ops.size) s a:=r.mono (by omega)
  have fin:∀ E' w' a',ca O E' w' w0.heap.size N (s.nx+128*ops.size) (bM s L) a'->Below w0.heap.size w0 w'->kR w0 N O (Eqs .ic ⟨sl,bx,dB,s.nx+128*ops.size⟩) .normal a' w':=fun E' w' a' r' eF=>by
    refine⟨_,E',⟨rfl,rfl⟩,?_,eF⟩;have VY:jV (bM s L) ⟨sl,bx,dB,s.nx+128*ops.size⟩:=⟨he.sl,he.bx,he.rw⟩
    exact VY.rep r'
  cases d with
  | false=>
    refine wp_region ?_;rw[List.range_eq_range'];exact qh hT il hL hp k0 (al _) ops.size 0 E w a (by omega) (by simpa [bM] using r0) fun E' w' a' r' eF=>fin E' w' a' r' (hb.trans eF)
  | true=>
    refine wp_region_any hT.mixed ?_
    have xu:∀ i,(Array.replicate ops.size false).getD i false=false:=fun i=>by
      rw[Array.getD_eq_getD_getElem?]
      cases hq:(Array.replicate ops.size false)[i]? with
      | none=>rfl
      | some x=>
        rw[Array.getElem?_replicate] at hq;split at hq
        · cases hq;rfl
        · cases hq
    have Fu:lT s L (fun i=>(Array.replicate ops.size false).getD i false)=s:=by
      unfold lT;rw[nj fun k _=>xu _];rfl
    have hw:({ w with drawn:=w.drawn+1 }:World).heap=w.heap:=rfl;refine th hT il (by simpa using nD) hL hp k0 (al _) ops.size _ E _ a (by simp) ?_ ⟨?_,?_,?_,?_⟩ fun E' w' a' r' eF=>fin E' w' a' r' (hb.trans ⟨eF.os,eF.tape,eF.output,eF.size,eF.block⟩)
    · have:∀ n,KO (fun i=>(Array.replicate ops.size false).getD i false) n<=n:=fun n=>by
        induction n with
        | zero=>exact al _
        | succ n ih=>
          unfold KO;rw[xu n];simp only[cond_false];omega
      exact this _
    · rw[Fu]
      exact r0.heap hw
    · intro j o hj hD
      have hD:(Array.replicate ops.size false).getD j false=true:=hD;rw[xu] at hD
      cases hD
    · intro b cs dL
      rw[Fu] at dL;exact .inl (k0.1 b cs dL)
    · intro b cs dL
      rw[Fu] at dL;exact .inl (k0.2 b cs dL)
theorem ck.run (cs:List Nat):∀ {c:Code} {st:St} {Q:Ex->St->Prop},SG P T N cs c st Q->ck P T N c st Q
  | .skip,st,Q,h=>⟨_,_,lY.skip st,h⟩
  | .region id ops d,⟨IG,Kr,IL,BY⟩,Q,h=>by
    have h:SF P T N cs id ops d ⟨IG,Kr,IL,BY⟩ Q:=h;unfold SF at h;simp only at h
    cases hc:cs.contains id with
    | true=>rw[hc] at h;exact h
    | false=>
      rw[hc] at h;simp only at h;split at h
      · rename_i hm
        obtain⟨sl,bx,dB,nx,hK,hr⟩:=lY.region (N:=N) (id:=id) (d:=d) (s:=⟨IG,Kr,IL,BY⟩) hm h;simp only[jZ] at hK;exact⟨_,_,hr,hK⟩
      · exact h.elim
  | .seq x y,st,Q,h=>by
    have h:SG P T N cs x st (vL (fun cJ=>SG P T N cs y cJ Q) Q):=h;obtain⟨e,s1,h1,h2⟩:=ck.run cs h
    cases e with
    | ic=>
      obtain⟨e2,s2,h3,h4⟩:=ck.run cs (show SG P T N cs y s1 Q from h2);exact⟨e2,s2,h1.seq h3,h4⟩
    | exit id=>exact⟨_,_,h1.out (by simp),h2⟩
    | ret=>exact⟨_,_,h1.out (by simp),h2⟩
  | .cond c x y,st,Q,h=>by
    have h:OF c st (SG P T N cs x st Q) (SG P T N cs y st Q):=h;unfold OF at h;split at h
    · rename_i t ht
      cases t with
      | true=>
        obtain⟨e,s',h1,h2⟩:=ck.run cs (show SG P T N cs x st Q from h);exact⟨e,s',lY.cond ht (fun _=>h1) (fun h=>by cases h),h2⟩
      | false=>
        obtain⟨e,s',h1,h2⟩:=ck.run cs (show SG P T N cs y st Q from h);exact⟨e,s',lY.cond ht (fun h=>by cases h) (fun _=>h1),h2⟩
    · exact h.elim
  | .block id c,st,Q,h=>by
    have h:SG P T N cs c st (qC id Q):=h;obtain⟨e,s',h1,h2⟩:=ck.run cs h
    cases e with
    | ic=>exact⟨_,_,h1.block rfl,h2⟩
    | ret=>exact⟨_,_,h1.block rfl,h2⟩
    | exit i=>
      unfold qC at h2;simp only at h2
      cases hb:Nat.beq i id with
      | true=>
        rw[hb] at h2;exact⟨.ic,s',h1.block (by simp only[hb,cond_true]),h2⟩
      | false=>
        rw[hb] at h2;exact⟨.exit i,s',h1.block (by simp only[hb,cond_false]),h2⟩
  | .loop c,st,Q,h=>gP.tpx h
  | .exit id,st,Q,h=>⟨_,_,lY.exit id st,h⟩
  | .ret,st,Q,h=>⟨_,_,lY.ret st,h⟩
  | .label _,_,_,h=>h.elim
  | .goto _,_,_,h=>h.elim
  | .rangeFunc ..,_,_,h=>h.elim
  | .refuse _,_,_,h=>h.elim
theorem gP.once {c:Code}{s:St}{Q:Ex->St->Prop}(h:ck P T N c s (fun e s1=>match e with
    | .ic=>gP P T N c s1 Q
    | e=>Q e s1)):gP P T N c s Q:=by
  obtain⟨e,s1,h1,h2⟩:=h
  cases e with
  | ic=>
    obtain⟨n,e,s',h3,h4⟩:=h2;exact⟨n+1,e,s',.next h1 (Wk.refl _) h3,h4⟩
  | exit id=>exact⟨0,_,_,.stop h1 (by simp),h2⟩
  | ret=>exact⟨0,_,_,.stop h1 (by simp),h2⟩
theorem gP.loop {c:Code}{st:St}{Q:Ex->St->Prop}{α:Type}(I:α->St)(ok:α->Prop)(μ:α->Nat)(x0:α)(h0:Wk st (I x0))(s8:ok x0)
   (round:∀ x,ok x->ck P T N c (I x) (fun e cJ=>match e with
     | .ic=>∃ y,ok y/\μ y < μ x/\Wk cJ (I y)
     | e=>Q e cJ)):gP P T N c st Q:=by
  have key:∀ n x,μ x=n->ok x->gP P T N c (I x) Q:=by
    intro n
    induction n using Nat.strongRecOn with
    | _ n ih=>
      intro x hn hx;obtain⟨e,s1,h1,h2⟩:=round x hx
      cases e with
      | ic=>
        obtain⟨y,h3,h4,h5⟩:=h2;obtain⟨k,e,s',h6,h7⟩:=ih (μ y) (by omega) y rfl h3;exact⟨k+1,e,s',.next h1 h5 h6,h7⟩
      | exit id=>exact⟨0,_,_,.stop h1 (by simp),h2⟩
      | ret=>exact⟨0,_,_,.stop h1 (by simp),h2⟩
  exact(key _ x0 rfl s8).wk h0
theorem bO {f:FuncId}{fn:Func}{c:Code}{dH:List AV}{G:AV->List Row->Prop}(hf:P.funcs[f]? = some fn)(hb:fn.body=some c)(he:KP P f)(hT:dg P T)(hc:aaV fn.ntmps c=true)(hn:Nat.ble dH.length fn.ntmps=true)(mq:dH.all AV.plain=true)
    (h:ck P T fn.ntmps c ⟨ka 0 dH,[],[],0⟩ (fun e st=>∃ rv rs,G rv rs/\(Nat.ble rs.length 128=true/\Bz rv rs=true)/\DK T fn rv rs e st)):∃ rv rs,G rv rs/\Ct P f dH rv rs false:=by
  obtain⟨e,s',h1,rv,rs,h2,h3,h4⟩:=h;exact⟨rv,rs,h2,bT hf hb he hT hc hn mq h3.1 h3.2 fun w0 O _=>Tp.mono (h1 w0 O) fun e2 s2 ⟨a,b⟩=>by subst a b;exact h4⟩
end
section
variable {P:Program}{T:Nat->Option Ty}{O:gD}
def pb {α:Type}:Nat->List α->List (Nat × α)
  | _,[]=>[]
  | i,x :: r=>(i,x) :: pb (i+1) r
theorem n5 {α:Type}:∀ (l:List α) (i t:Nat),lk (pb i l) t=if i<=t then l[t - i]? else none
  | [],i,t=>by simp[pb,lk]
  | a :: l,i,t=>by
    rw[pb,bZ,n5 l (i+1) t]
    by_cases h:i=t
    · subst h
      simp
    · rw[if_neg h]
      by_cases h2:i<=t
      · rw[if_pos h2,if_pos (by omega),show t - i=t - (i+1)+1 by omega,List.getElem?_cons_succ]
      · rw[if_neg h2,if_neg (by omega)]
section
variable (st:St)(m:List (Nat × Nat))(dB:List (Nat × Row))(fc:List (Nat × List Ce))
def WY (v:AV):AV->Prop
  | .dF j u k i o=>(match v,lk m j,lk dB j with
    | .dF τ bo k' i' o',some τ',some R'=>τ'=τ/\R'.bo=u/\(match lk st.rw τ with
      | some R=>R.bo=bo
      | none=>False)/\k'=k/\i'=i/\o'=o
    | _,_,_=>False)
  | v'=>F8 st m dB fc v v'
def OK (T:Nat->Option Ty):List ResultVar->List AV->Prop
  | [],[]=>True
  | x :: xs,r :: rs=>(match zo T st x with
    | some v=>WY st m dB fc v r
    | none=>False)/\OK T xs rs
  | _,_=>False
def OG:Nat->List Row->Prop
  | _,[]=>True
  | j,R :: Rs=>(match R.bo with
    | 0=>lk m j=some j/\(match lk st.rw j with
      | some R'=>R'.bo=0
      | none=>False)
    | 1=>True
    | _=>False)/\OG (j+1) Rs
end
def aaF (T:Nat->Option Ty)(fn:Func)(rv:AV)(ob:List (List Ce))(fa nr:List Row)(e:Ex)(st:St):Prop:=match e with
  | .exit _=>False
  | _=>∃ m,(OV m=true/\TQ st m (jc 0 0 (fa++nr))/\OG st m 0 fa/\WW st m (jc 0 0 (fa++nr)) (pb 0 ob))/\(match fn.results.toList with
    | [x]=>(match zo T st x with
      | some v=>WY st m (jc 0 0 (fa++nr)) (pb 0 ob) v rv
      | none=>False)
    | xs=>(match rv with
      | .fH ys=>OK st m (jc 0 0 (fa++nr)) (pb 0 ob) T xs ys
      | _=>False))
section
variable {E:Env}{w:World}{n0 N n:Nat}{st:St}{a:Act}{m:List (Nat × Nat)}{dB:List (Nat × Row)}{fc:List (Nat × List Ce)}
theorem Oq (r:ca O E w n0 N n st a){u:Value}{v v':AV}(h:WY st m dB fc v v')(hv:RV E w u v):R1 (E.ma st m) w u v':=by
  cases v' with
  | dF j u' k i o=>
    unfold WY at h;simp only at h;split at h
    · rename_i τ bo k' i' o' τ' R' h1 h2
      obtain⟨rfl,_,h3,rfl,rfl,rfl⟩:=h;obtain⟨g,n,c,h4,h5⟩:=hv;split at h3
      · rename_i R hR
        subst h3;refine⟨g,n,c,?_,h5⟩;unfold Env.ma;simp only[h1,hR];exact h4
      · exact h3.elim
    · exact h.elim
  | c x=>exact iQ (dB:=dB) (fc:=fc) (v':=.c x) r h hv
  | agg x=>exact iQ (dB:=dB) (fc:=fc) (v':=.agg x) r h hv
  | ptr b o=>exact iQ (dB:=dB) (fc:=fc) (v':=.ptr b o) r h hv
  | dv x o=>exact iQ (dB:=dB) (fc:=fc) (v':=.dv x o) r h hv
  | eE=>exact iQ (dB:=dB) (fc:=fc) (v':=.eE) r h hv
  | fH x=>exact iQ (dB:=dB) (fc:=fc) (v':=.fH x) r h hv
  | fn f x=>exact iQ (dB:=dB) (fc:=fc) (v':=.fn f x) r h hv
  | kp f x=>exact iQ (dB:=dB) (fc:=fc) (v':=.kp f x) r h hv
  | sub x y z i=>exact iQ (dB:=dB) (fc:=fc) (v':=.sub x y z i) r h hv
  | bot=>exact⟨⟩
theorem Ot {v v':AV}(h:WY st m dB fc v v'):(∀ b∈v'.dJ,∃ cs,lk fc b=some cs)/\∀ p∈v'.cB,∃ R,lk dB p.1=some R/\R.bo=p.2:=by
  cases v' with
  | dF j u' k i o=>
    unfold WY at h;simp only at h;split at h
    · rename_i τ bo k' i' o' τ' R' h1 h2
      obtain⟨_,h3,_⟩:=h;refine⟨fun _ h=>(by cases h),fun p hp=>?_⟩;obtain rfl:p=(j,u'):=by simpa [AV.cB,AV.gu] using hp
      exact⟨R',h2,h3⟩
    · exact h.elim
  | c x=>exact iu (st:=st) (m:=m) (v:=v) (v':=.c x) h
  | agg x=>exact iu (st:=st) (m:=m) (v:=v) (v':=.agg x) h
  | ptr b o=>exact iu (st:=st) (m:=m) (v:=v) (v':=.ptr b o) h
  | dv x o=>exact iu (st:=st) (m:=m) (v:=v) (v':=.dv x o) h
  | eE=>exact iu (st:=st) (m:=m) (v:=v) (v':=.eE) h
  | fH x=>exact iu (st:=st) (m:=m) (v:=v) (v':=.fH x) h
  | fn f x=>exact iu (st:=st) (m:=m) (v:=v) (v':=.fn f x) h
  | kp f x=>exact iu (st:=st) (m:=m) (v:=v) (v':=.kp f x) h
  | sub x y z i=>exact iu (st:=st) (m:=m) (v:=v) (v':=.sub x y z i) h
  | bot=>exact⟨fun _ h=>(by cases h),fun _ h=>by cases h⟩
theorem Bd:∀ {fa:List Row} {i:Nat},OG st m i fa->∀ (j:Nat) R,fa[j]? = some R->R.bo=0->lk m (i+j)=some (i+j)/\∃ R',lk st.rw (i+j)=some R'/\R'.bo=0
  | R0 :: fa,i,h,0,R,hj,hv=>by
    obtain rfl:=aR hj;obtain⟨h1,_⟩:=h;rw[hv] at h1;obtain⟨h2,h3⟩:=h1;split at h3
    · rename_i R' CI
      exact⟨h2,R',CI,h3⟩
    · exact h3.elim
  | R0 :: fa,i,h,j+1,R,hj,hv=>by
    have:=Bd h.2 j R hj hv;rw[show i+1+j=i+(j+1) by omega] at this;exact this
  | [],_,_,j,R,hj,_=>by simp at hj
def Env.Tb (E:Env)(st:St)(m:List (Nat × Nat))(q:Nat)(V:Nat->Value):Env:=⟨(E.ma st m).rl,E.bk,fun j u=>if j < q/\u=0 then V j else(E.ma st m).vl j u⟩
theorem EZ {V:Nat->Value}{fa nr:List Row}(hV:∀ j,j < fa.length->(∃ R,lk st.rw j=some R)->E.vl j 0=V j)(fw:OG st m 0 fa){j:Nat}{R:Row}(hj:(fa++nr)[j]? = some R):(E.Tb st m fa.length V).vl j R.bo=(E.ma st m).vl j R.bo:=by
  unfold Env.Tb;simp only;split
  · rename_i h
    rw[bn h.1] at hj;obtain⟨h1,R',h2,h3⟩:=Bd fw j R hj h.2;rw[bu] at h1 h2;rw[<- hV j h.1 ⟨R',h2⟩];unfold Env.ma;simp only[h1,h2,h3]
  · rfl
theorem Vb {V:Nat->Value}{fa nr:List Row}(hV:∀ j,j < fa.length->(∃ R,lk st.rw j=some R)->E.vl j 0=V j)(fw:OG st m 0 fa){u:Value}{v:AV}(hn:∀ p∈v.gu,∃ R,lk (jc 0 0 (fa++nr)) p.1=some R/\R.bo=p.2)(h:R1 (E.ma st m) w u v):R1 (E.Tb st m fa.length V) w u v:=by
  refine R1.fr (E:=E.ma st m) (E':=E.Tb st m fa.length V) (al _) (fun b hb _=>⟨rfl,hb⟩) (fun p hp=>?_) (fun _ _=>rfl) h;obtain⟨R,h1,h2⟩:=hn p hp;rw[eG,if_pos (by omega)] at h1;rw[<- h2];exact EZ hV fw (by simpa using h1)
end
theorem Bv {E:Env}{w:World}{n0 N n:Nat}{st:St}{a:Act}{m:List (Nat × Nat)}{dB:List (Nat × Row)}{fc:List (Nat × List Ce)}(hT:dg P T)(r:ca O E w n0 N n st a):∀ {xs:List ResultVar} {rs:List AV},OK st m dB fc T xs rs->∃ us:List Value,(xs.mapM (j7 a)).run P w=.ok us w/\A2 (R1 (E.ma st m) w) us rs/\(∀ b∈rs.flatMap AV.gA,∃ cs,lk fc b=some cs)/\∀ p∈rs.flatMap AV.gu,∃ R,lk dB p.1=some R/\R.bo=p.2
  | [],[],_=>⟨[],by simp,.nil,fun _ h=>(by cases h),fun _ h=>by cases h⟩
  | x :: xs,y :: ys,h=>by
    obtain⟨h1,h2⟩:=h;split at h1
    · rename_i v hv
      obtain⟨u,hu,hr⟩:=j6 hT r hv;obtain⟨us,n7,ha,hb,O0⟩:=Bv hT r h2;have hr1:=Oq r h1 hr;obtain⟨g1,g2⟩:=Ot h1
      have e:y.dJ=y.gA/\y.cB=y.gu:=by
        cases y with
        | fH _=>exact hr1.elim
        | _=>exact⟨rfl,rfl⟩
      rw[e.1] at g1;rw[e.2] at g2;refine⟨u :: us,?_,.cons hr1 ha,fun b eF=>?_,fun p hp=>?_⟩
      · rw[List.mapM_cons,Sem.run_bind,hu]
        simp only[Result.andThen_ok,Sem.run_bind,n7,Sem.run_pure]
      · rw[bK] at eF
        exact(aX.1 eF).elim (g1 b) (hb b)
      · rw[bK] at hp
        exact(aX.1 hp).elim (g2 p) (O0 p)
    · exact h1.elim
  | [],_ :: _,h=>h.elim
  | _ :: _,[],h=>h.elim
theorem Bw {st:St}{m:List (Nat × Nat)}{dB:List (Nat × Row)}{fc:List (Nat × List Ce)}:∀ {xs:List ResultVar} {rs:List AV},OK st m dB fc T xs rs->xs.length=rs.length
  | [],[],_=>rfl
  | _ :: _,_ :: _,h=>by simp[Bw h.2]
  | [],_ :: _,h=>h.elim
  | _ :: _,[],h=>h.elim
theorem NT {E:Env}{w:World}{n0 N n:Nat}{st:St}{a:Act}{m:List (Nat × Nat)}{fn:Func}{rv:AV}{dB:List (Nat × Row)}{fc:List (Nat × List Ce)}(hT:dg P T)(r:ca O E w n0 N n st a)(h:match fn.results.toList with
    | [x]=>(match zo T st x with
      | some v=>WY st m dB fc v rv
      | none=>False)
    | xs=>(match rv with
      | .fH ys=>OK st m dB fc T xs ys
      | _=>False)):(∃ u,(results fn a.tmps).run P w=.ok u w/\RV (E.ma st m) w u rv)/\(∀ b∈rv.dJ,∃ cs,lk fc b=some cs)/\∀ p∈rv.cB,∃ R,lk dB p.1=some R/\R.bo=p.2:=by
  have e:(results fn a.tmps).run P w=((fn.results.toList.mapM (j7 a)).run P w).andThen fun vs w'=>.ok (if h:vs.toArray.size=1 then vs.toArray[0] else .tuple vs.toArray) w':=by
    have e3:results fn a.tmps=(do
        let vs <- fn.results.mapM (j7 a)
        Pure.pure (if h:vs.size=1 then vs[0] else .tuple vs)):=by
      unfold results
      exact congrArg (fun g:ResultVar->Sem Value=>(do
        let vs <- fn.results.mapM g
        Pure.pure (if h:vs.size=1 then vs[0] else .tuple vs):Sem Value)) (funext fun x=>by cases x <;> rfl)
    rw[e3,Array.mapM_eq_mapM_toList];simp only[Sem.run_bind,Sem.run_map,Sem.run_pure]
    cases ((fn.results.toList.mapM (j7 a)).run P w) <;> rfl
  rw[e];split at h
  · rename_i x hx
    rw[hx];split at h
    · rename_i v hv
      obtain⟨u,hu,hr⟩:=j6 hT r hv;refine⟨⟨u,?_,(Oq r h hr).rv⟩,Ot h⟩;rw[List.mapM_cons,List.mapM_nil,Sem.run_bind,hu];simp
    · exact h.elim
  · rename_i xs gX
    split at h
    · rename_i ys
      obtain⟨us,n7,ha,hb,O0⟩:=Bv hT r h;have hl:=Bw h;refine⟨⟨.tuple us.toArray,?_,⟨us,rfl,ha⟩⟩,hb,O0⟩;rw[n7]
      have:¬ us.toArray.size=1:=fun h1=>by
        have h2:=ha.len;rw[List.size_toArray] at h1;rw[h1,<- hl] at h2
        cases hq:fn.results.toList with
        | nil=>rw[hq] at h2;cases h2
        | cons x l=>
          cases l with
          | nil=>exact gX x hq
          | cons _ _=>rw[hq] at h2;simp at h2
      simp only[Result.andThen_ok,dif_neg this]
    · exact h.elim
def uC (p q:Nat)(bs:List Nat)(rs:List (Nat × Nat)):Bool:=bs.all (fun b=>Nat.blt b p)&&rs.all fun x=>Nat.blt x.1 q&&Nat.beq x.2 0
theorem vN {p q:Nat}{bs:List Nat}{rs:List (Nat × Nat)}(h:uC p q bs rs=true):(∀ b∈bs,b < p)/\∀ x∈rs,x.1 < q/\x.2=0:=by
  unfold uC at h;rw[ag] at h;refine⟨fun b hb=>Nb (aN.1 h.1 b hb),fun x hx=>?_⟩;have:=aN.1 h.2 x hx;rw[ag] at this;exact⟨Nb this.1,ah this.2⟩
def EV (p:Nat)(rv:AV)(ob:List (List Ce))(rs:List Row):Bool:=rv.dJ.all (fun b=>Nat.blt b p)&&(rs.all Row.shut&&(rv.cB++ob.flatMap fun cs=>cs.flatMap Ce.cB).all fun x=>match rs[x.1]? with
  | some R=>Nat.ble x.2 R.bo
  | none=>false)
theorem Jm {p:Nat}{rv:AV}{ob:List (List Ce)}{rs:List Row}(h:EV p rv ob rs=true):(∀ b∈rv.dJ,b < p)/\(∀ x∈rv.cB,∃ R,rs[x.1]? = some R/\x.2<=R.bo)/\(∀ (i:Nat) cs,ob[i]? = some cs->∀ x∈cs.flatMap Ce.cB,∃ R,rs[x.1]? = some R/\x.2<=R.bo)/\∀ R∈rs,R.shut=true:=by
  unfold EV at h;rw[ag,ag] at h
  have key:∀ x∈rv.cB++ob.flatMap fun cs=>cs.flatMap Ce.cB,∃ R,rs[x.1]? = some R/\x.2<=R.bo:=fun x hx=>by
    have:=aN.1 h.2.2 x hx;split at this
    · rename_i R hR
      exact⟨R,hR,Nb this⟩
    · cases this
  exact⟨fun b hb=>Nb (aN.1 h.1 b hb),fun x hx=>key x (bH _ hx),fun i cs hi x hx=>key x (bJ _ (List.mem_flatMap.2 ⟨cs,aU hi,hx⟩)),fun R hR=>aN.1 h.2.1 R hR⟩
class ON (n1:Nat)(O:gD):Prop extends GlC O where
  v:∀ j,n1<=j->O.v j=none
  b:∀ j,n1<=j->O.b j=none
open Classical in
theorem jC {f:FuncId}{fn:Func}{c:Code}{dH:List AV}{ib:List (List Ce)}{ir:List Row}{rv:AV}{ob:List (List Ce)}{fa nr:List Row}(n1:Nat)(hf:P.funcs[f]? = some fn)(hb:fn.body=some c)(he:KP P f)(hT:dg P T)(hc:aaV fn.ntmps c=true)(hn:Nat.ble dH.length fn.ntmps=true)
    (hk:(Nat.ble ib.length n1&&(Nat.ble ir.length n1&&(Nat.beq ob.length ib.length&&(Nat.beq fa.length ir.length&&(Nat.ble nr.length 128&&ir.all fun R=>Nat.beq R.bo 0&&R.shut)))))=true)
    (A1:(uC ib.length ir.length (dH.flatMap AV.gA) (dH.flatMap AV.gu)&&ib.all fun cs=>uC ib.length ir.length [] (cs.flatMap Ce.cB))=true) (adV:(dH.all fun a=>match a with
      | .fH _=>false
      | _=>true)=true) (mU:EV ib.length rv ob (fa++nr)=true)
    (h:∀ w0 O [ON n1 O],Tp P T fn.ntmps w0 O c ⟨ka 0 dH,pb 0 ib,pb 0 ir,n1⟩ (aaF T fn rv ob fa nr)):F7 P f dH ib ir rv ob fa nr:=by
  simp only[ag] at hk A1;obtain⟨k1,k2,k3,k4,k5,k6⟩:=hk;have k1:=Nb k1;have k2:=Nb k2;have k3:=ah k3;have k4:=ah k4;have k5:=Nb k5;have hn:=Nb hn;obtain⟨nb,nr1⟩:=vN A1.1;have nbx:∀ cs∈ib,∀ x∈cs.flatMap Ce.cB,x.1 < ir.length/\x.2=0:=fun cs dL=>(vN (aN.1 A1.2 cs dL)).2;obtain⟨r1,r2,r3,r4⟩:=Jm mU;refine⟨he,k5,r4,k3,k4,r1,r2,r3,fun w0 w vs E0 lJ hgr nF ha afS Ac gw Fy=>?_⟩;have hlen:=ha.len;refine calls_of_wp hf hb ?_
  have slot:∀ (t:Nat) (a:AV),dH[t]? = some a->a.dJ=a.gA/\a.cB=a.gu:=fun t a ht=>by
    have:=aN.1 adV a (aU ht)
    cases a with
    | fH _=>cases this
    | _=>exact⟨rfl,rfl⟩
  have lkB:∀ (i:Nat) (cs:List Ce),lk (pb 0 ib) i=some cs->ib[i]? = some cs:=fun i cs hi=>by
    rw[n5,if_pos (aD _)] at hi;simpa using hi
  have lkR:∀ (i:Nat) (R:Row),lk (pb 0 ir) i=some R->ir[i]? = some R:=fun i R hi=>by
    rw[n5,if_pos (aD _)] at hi;simpa using hi
  have hasB:∀ b,b < ib.length->∃ cs,lk (pb 0 ib) b=some cs:=fun b hb=>⟨ib[b],by rw[n5,if_pos (aD _),Nat.sub_zero,cD hb]⟩
  have km:∀ b,b < ir.length->∃ R,lk (pb 0 ir) b=some R:=fun b hb=>⟨ir[b],by rw[n5,if_pos (aD _),Nat.sub_zero,cD hb]⟩
  have iX:aaP ⟨fun b=>E0.rl b=.bz,fun b=>if E0.rl b=.bz\/E0.rl b=.dX then w.heap[b]? else none,fun j=>if j < ir.length then some (E0.vl j 0) else none,fun i=>if i < ib.length then some (E0.bk i) else none,w.heap.size,[]⟩ E0 w w0.heap.size fn.ntmps ⟨ka 0 dH,pb 0 ib,pb 0 ir,n1⟩ { tmps:=vs.toArray++Array.replicate (fn.ntmps - vs.toArray.size) undef,defers:=[] }:=by
    refine⟨rfl,by simp only[Array.size_append,List.size_toArray,Array.size_replicate];omega,fun t=>?_,fun i cs hi=>afS i cs (lkB i cs hi),fun j R hj=>Ac j R (lkR j R hj),⟨fun t b hb=>?_,fun t p hp=>?_,fun b cs dL p hp=>?_,fun b cs dL=>?_,fun τ R hR=>?_,fun τ R d hR hd l hl=>?_⟩,nF.size,fun b hb=>?_,fun b x hx=>?_,fun j V hj=>?_,fun j V hj=>?_,al _⟩
    · show RV E0 w _ (match lk (ka 0 dH) t with|some v=>v|none=>.bot)
      rw[jm,if_pos (aD _),Nat.sub_zero]
      cases ht:dH[t]? with
      | none=>exact⟨⟩
      | some a=>
        obtain⟨u,hu,hr⟩:=ha.get t a ht;have aS:=(an.1 hu).1;rw[Array.getD_eq_getD_getElem?,Array.getElem?_append_left (by simpa using aS),List.getElem?_toArray,hu];exact hr.rv
    · have hb:b∈(match lk (ka 0 dH) t with|some v=>v|none=>AV.bot).dJ:=hb
      rw[jm,if_pos (aD _),Nat.sub_zero] at hb
      cases ht:dH[t]? with
      | none=>rw[ht] at hb;cases hb
      | some a=>
        rw[ht] at hb;have hb:b∈a.dJ:=hb;rw[(slot t a ht).1] at hb;exact hasB b (nb b (List.mem_flatMap.2 ⟨a,aU ht,hb⟩))
    · have hp:p∈(match lk (ka 0 dH) t with|some v=>v|none=>AV.bot).cB:=hp
      rw[jm,if_pos (aD _),Nat.sub_zero] at hp
      cases ht:dH[t]? with
      | none=>rw[ht] at hp;cases hp
      | some a=>
        rw[ht] at hp;have hp:p∈a.cB:=hp;rw[(slot t a ht).2] at hp;obtain⟨h1,h2⟩:=nr1 p (List.mem_flatMap.2 ⟨a,aU ht,hp⟩);obtain⟨R,hR⟩:=km p.1 h1;exact⟨R,hR,by rw[h2];exact aD _⟩
    · obtain⟨h1,h2⟩:=nbx cs (aU (lkB b cs dL)) p hp
      obtain⟨R,hR⟩:=km p.1 h1;exact⟨R,hR,by rw[h2];exact aD _⟩
    · have:=(an.1 (lkB b cs dL)).1
      exact cd this k1
    · have:=(an.1 (lkR τ R hR)).1
      exact cd this k2
    · have:=aN.1 k6 R (aU (lkR τ R hR))
      rw[ag] at this;rw[jO this.2 hd] at hl
      cases hl
    · exact(Fy b hb).imp (fun h=>⟨h,h⟩) id
    · have hx:(if E0.rl b=.bz\/E0.rl b=.dX then w.heap[b]? else none)=some x:=hx
      split at hx
      · rename_i hq
        refine⟨hx,hq.imp (fun h=>⟨h,h⟩) (fun h=>⟨h,fun h2=>?_⟩)⟩;have h2:E0.rl b=.bz:=h2;rw[h] at h2
        cases h2
      · cases hx
    · have hj:(if j < ir.length then some (E0.vl j 0) else none)=some V:=hj
      split at hj
      · rename_i aS
        cases hj
        exact⟨rfl,km j aS⟩
      · cases hj
    · have hj:(if j < ib.length then some (E0.bk j) else none)=some V:=hj
      split at hj
      · rename_i aS
        cases hj
        exact⟨rfl,hasB j aS⟩
      · cases hj
  refine wp_mono (@h w0 _ { Am lJ (if_pos hgr) with v:=fun j hj=>if_neg (by omega),b:=fun j hj=>if_neg (by omega) } hT hc E0 _ w iX nF) fun e a' w' hp=>?_
  have fin:∀ st E',aaF T fn rv ob fa nr .ret st->aaP ⟨fun b=>E0.rl b=.bz,fun b=>if E0.rl b=.bz\/E0.rl b=.dX then w.heap[b]? else none,fun j=>if j < ir.length then some (E0.vl j 0) else none,fun i=>if i < ib.length then some (E0.bk i) else none,w.heap.size,[]⟩ E' w' w0.heap.size fn.ntmps st a'->Below w0.heap.size w0 w'->a'.defers=[]/\∃ v,(results fn a'.tmps).run P w'=.ok v w'/\∃ v',Ending.returned v=.returned v'/\Below w0.heap.size w0 w'/\w.heap.size<=w'.heap.size/\∃ E,RV E w' v' rv/\(∀ i,i < ib.length->E.bk i=E0.bk i)/\(∀ (i:Nat) cs,ob[i]? = some cs->RB E w' w0.heap.size i cs)/\(∀ (j:Nat) R,(fa++nr)[j]? = some R->RR E w' w0.heap.size j R)/\(∀ j,j < ir.length->E.vl j 0=E0.vl j 0)/\
      ∀ b,b < w.heap.size->E0.rl b=.bz\/E0.rl b=.dX->w'.heap[b]? = w.heap[b]?/\E.rl b=E0.rl b:=fun st E' hq r eF=>by
    obtain⟨m,⟨g1,g2,g3,g4⟩,g5⟩:=hq;obtain⟨⟨u,hu,hr⟩,hnb,O4⟩:=NT hT r g5;have hV:∀ j,j < fa.length->(∃ R,lk st.rw j=some R)->E'.vl j 0=E0.vl j 0:=fun j hj _=>(r.Vf j (E0.vl j 0) (by show(if j < ir.length then some (E0.vl j 0) else none)=_;rw[if_pos (by omega)])).1;have OT:∀ {u:Value} {v:AV},(∀ p∈v.gu,∃ R,lk (jc 0 0 (fa++nr)) p.1=some R/\R.bo=p.2)->R1 (E'.ma st m) w' u v->R1 (E'.Tb st m fa.length fun j=>E0.vl j 0) w' u v:=fun hn h=>Vb hV g3 hn h;refine⟨r.xc,u,hu,u,rfl,eF,r.sn,E'.Tb st m fa.length fun j=>E0.vl j 0,?_,fun i hi=>?_,fun i cs hi=>?_,fun j R hj=>?_,fun j hj=>?_,fun b aS hq=>?_⟩
    · cases rv with
      | fH ys=>
        obtain⟨us,rfl,FG⟩:=hr;refine⟨us,rfl,?_⟩
        have:∀ {us:List Value} {ys:List AV},(∀ p∈ys.flatMap AV.gu,∃ R,lk (jc 0 0 (fa++nr)) p.1=some R/\R.bo=p.2)->A2 (R1 (E'.ma st m) w') us ys->A2 (R1 (E'.Tb st m fa.length fun j=>E0.vl j 0) w') us ys:=fun {us ys} hn h=>by
          induction h with
          | nil=>exact .nil
          | cons h1 _ ih=>
            rw[bK] at hn;exact .cons (OT (fun p hp=>hn p (bH _ hp)) h1) (ih fun p hp=>hn p (bJ _ hp))
        exact this O4 FG
      | c x=>exact(OT (v:=.c x) O4 hr).rv
      | agg x=>exact(OT (v:=.agg x) O4 hr).rv
      | ptr b o=>exact(OT (v:=.ptr b o) O4 hr).rv
      | dv x o=>exact(OT (v:=.dv x o) O4 hr).rv
      | dF a b c d e=>exact(OT (v:=.dF a b c d e) O4 hr).rv
      | sub a b c d=>exact(OT (v:=.sub a b c d) O4 hr).rv
      | eE=>exact(OT (v:=.eE) O4 hr).rv
      | fn f x=>exact(OT (v:=.fn f x) O4 hr).rv
      | kp f x=>exact(OT (v:=.kp f x) O4 hr).rv
      | bot=>exact⟨⟩
    · exact(r.Ju i (E0.bk i) (by show(if i < ib.length then some (E0.bk i) else none)=_;rw[if_pos hi])).1
    · obtain⟨DV,h1,h2⟩:=ou g4 i cs (dP (by rw[n5,if_pos (aD _)];simpa using hi))
      obtain⟨us,t,h3,h4,h5,h6⟩:=r.box i DV h1;have h7:=oe r h2 h6;refine⟨us,t,h3,h4,?_,A2.fr (E:=E'.ma st m) (E':=E'.Tb st m fa.length fun j=>E0.vl j 0) (al _) (fun b hb _=>⟨rfl,hb⟩) (fun p hp=>?_) h7⟩
      · show(E'.ma st m).rl (E'.bk i)=_
        unfold Env.ma;simp only[h5]
      · obtain⟨R,h8,h9⟩:=od h2 p hp
        rw[eG,if_pos (by omega)] at h8;rw[<- h9];exact EZ hV g3 (by simpa using h8)
    · have hm:=dP (l:=jc 0 0 (fa++nr)) (n:=j) (x:=R) (by rw[eG,if_pos (by omega)];simpa using hj)
      have h1:=rN r g1 (l8 g2 j R hm);exact RR.to (R:=R) (h:=h1) (al _) rfl rfl rfl rfl (vn g2 j R hm) (EZ hV g3 hj) (fun _ h _=>h) (fun _ _ _ h=>h) fun _ _ _ _ _ h=>h
    · show(if j < fa.length/\(0:Nat)=0 then E0.vl j 0 else _)=_
      rw[if_pos ⟨by omega,rfl⟩]
    · obtain⟨x,hx⟩:∃ x,w.heap[b]? = some x:=⟨w.heap[b],Array.getElem?_eq_getElem aS⟩
      obtain⟨h1,h2⟩:=r.gh b x (by show(if E0.rl b=.bz\/E0.rl b=.dX then w.heap[b]? else none)=_;rw[if_pos hq,hx]);refine⟨h1.trans hx.symm,?_⟩;show(E'.ma st m).rl b=_;rcases h2 with⟨h2,h3⟩|⟨h2,h3⟩
      · have h3:E0.rl b=.bz:=h3
        rw[aaO b h2,h3]
      · have h3:¬ E0.rl b=.bz:=h3
        rw[abE b h2];rcases hq with hq|hq
        · exact absurd hq h3
        · exact hq.symm
  cases e with
  | normal=>
    obtain⟨st,E',hq,r,eF⟩:=hp;exact fin st E' hq r eF
  | ret=>
    obtain⟨st,E',hq,r,eF⟩:=hp;exact fin st E' hq r eF
  | exit id=>
    obtain⟨st,E',hq,r,eF⟩:=hp;exact hq.elim
  | goto l=>exact hp.elim
  | panic ch=>exact hp.elim
  | outgrown=>exact hp.elim
def SlI (st:St):List (Nat × AV)->Prop
  | []=>True
  | (t,v) :: r=>st.get t=v/\SlI st r
def BxI (st:St):List (Nat × List Ce)->Prop
  | []=>True
  | (b,cs) :: r=>lk st.bx b=some cs/\BxI st r
def RwI (st:St):List (Nat × Row)->Prop
  | []=>True
  | (τ,R) :: r=>lk st.rw τ=some R/\RwI st r
theorem Gs {st:St}:∀ {l:List (Nat × AV)},SlI st l->∀ t v,(t,v)∈l->st.get t=v
  | (t,v) :: r,h,t',v',hm=>by
    rcases List.mem_cons.1 hm with e|hm
    · cases e;exact h.1
    · exact Gs h.2 t' v' hm
  | [],_,_,_,hm=>by cases hm
theorem AI {st:St}:∀ {l:List (Nat × List Ce)},BxI st l->∀ t v,(t,v)∈l->lk st.bx t=some v
  | (t,v) :: r,h,t',v',hm=>by
    rcases List.mem_cons.1 hm with e|hm
    · cases e;exact h.1
    · exact AI h.2 t' v' hm
  | [],_,_,_,hm=>by cases hm
theorem zh {st:St}:∀ {l:List (Nat × Row)},RwI st l->∀ t v,(t,v)∈l->lk st.rw t=some v
  | (t,v) :: r,h,t',v',hm=>by
    rcases List.mem_cons.1 hm with e|hm
    · cases e;exact h.1
    · exact zh h.2 t' v' hm
  | [],_,_,_,hm=>by cases hm
def WkL (O:gD)(st cJ:St):Prop:=∀ (E:Env) (w:World) (n0 N:Nat) (a:Act),aaP O E w n0 N st a->aaP O E w n0 N cJ a
theorem Tp.SR {N:Nat}{w0:World}{c:Code}{st cJ:St}{Q:Ex->St->Prop}(hw:WkL O st cJ)(h:Tp P T N w0 O c cJ Q):Tp P T N w0 O c st Q:=fun hT hc E a w r hb=>h hT hc E a w (hw E w _ N a r) hb
theorem Tp.lE {N:Nat}{w0:World}{c:Code}{st:St}{Q:Ex->St->Prop}{α:Type}(I:α->St)(ok:α->Prop)(μ:α->Nat)(x0:α)(h0:WkL O st (I x0))(s8:ok x0)
   (round:∀ x,ok x->Tp P T N w0 O c (I x) (fun e cJ=>match e with
     | .ic=>∃ y,ok y/\μ y < μ x/\WkL O cJ (I y)
     | e=>Q e cJ)):Tp P T N w0 O (.loop c) st Q:=fun hT hc E a w r hb=>by
  unfold aaV at hc;refine nP (fun n a w=>∃ x E,ok x/\μ x=n/\aaP O E w w0.heap.size N (I x) a/\Below w0.heap.size w0 w) (n:=μ x0) ⟨x0,E,s8,rfl,h0 E w _ N a r,hb⟩ ?_;rintro n a w ⟨x,E,hx,rfl,r,hb⟩;refine wp_mono (round x hx hT hc E a w r hb) fun e a' w' hp=>?_
  cases e with
  | normal=>
    obtain⟨cJ,E',⟨y,h1,h2,h3⟩,r',eF⟩:=hp;exact⟨μ y,h2,y,E',h1,rfl,h3 E' w' _ N a' r',eF⟩
  | exit id=>
    obtain⟨cJ,E',hq,r',eF⟩:=hp;exact⟨cJ,E',hq,r',eF⟩
  | ret=>
    obtain⟨cJ,E',hq,r',eF⟩:=hp;exact⟨cJ,E',hq,r',eF⟩
  | goto l=>exact hp.elim
  | panic ch=>exact hp.elim
  | outgrown=>exact hp.elim
def ML (dB:List (Nat × Row))(R:Row):Bool:=match R.dp with
  | none=>true
  | some d=>d.ln.all fun l=>match lk dB l.2.2.1 with
    | some R'=>Nat.ble l.2.2.2 R'.bo
    | none=>false
instance [h:en O]:ON 0 O:={ h.toGlC with v:=fun j _=>en.v j,b:=fun j _=>en.b j }
def Tl (n1:Nat)(st:St)(mS:List (Nat × AV))(fc:List (Nat × List Ce))(dB:List (Nat × Row)):Bool:=
  (st.bx.all (fun p=>Nat.ble n1 p.1||(match lk fc p.1 with
    | some _=>true
    | none=>false))&&st.rw.all fun p=>Nat.ble n1 p.1||(match lk dB p.1 with
    | some _=>true
    | none=>false)) &&
  (mS.all (fun p=>p.2.dJ.all (fun b=>match lk fc b with
    | some _=>true
    | none=>false)&&p.2.cB.all fun q=>match lk dB q.1 with
    | some R=>Nat.ble q.2 R.bo
    | none=>false) &&
  (fc.all (fun p=>(p.2.flatMap Ce.cB).all fun q=>match lk dB q.1 with
    | some R=>Nat.ble q.2 R.bo
    | none=>false)&&dB.all fun p=>ML dB p.2))
theorem dz {n1:Nat}[ON n1 O]{st:St}{mS:List (Nat × AV)}{fc:List (Nat × List Ce)}{dB:List (Nat × Row)}{vI:Nat}(hk:Tl n1 st mS fc dB=true)(hn:below vI fc dB=true)(hs:SlI st mS)(hb:BxI st fc)(hr:RwI st dB):WkL O st ⟨mS,fc,dB,vI⟩:=by
  intro E w n0 N a r;unfold Tl at hk;unfold below at hn;simp only[ag] at hk hn;obtain⟨⟨q1,q2⟩,q3,q4,q5⟩:=hk
  have kb:∀ b cs,lk st.bx b=some cs->b < n1->lk fc b=some cs:=fun b cs h aS=>by
    have:=aN.1 q1 (b,cs) (dP h);simp only[cm] at this;rcases this with this|this
    · have:=Nb this
      omega
    · split at this
      · rename_i x hx
        rw[AI hb b x (dP hx)] at h;rw[hx,h]
      · cases this
  have kr:∀ b cs,lk st.rw b=some cs->b < n1->lk dB b=some cs:=fun b cs h aS=>by
    have:=aN.1 q2 (b,cs) (dP h);simp only[cm] at this;rcases this with this|this
    · have:=Nb this
      omega
    · split at this
      · rename_i x hx
        rw[zh hr b x (dP hx)] at h;rw[hx,h]
      · cases this
  have get:∀ t,(St.get ⟨mS,fc,dB,vI⟩ t)=.bot\/(t,St.get ⟨mS,fc,dB,vI⟩ t)∈mS:=fun t=>by
    show(match lk mS t with|some v=>v|none=>.bot)=.bot\/(t,(match lk mS t with|some v=>v|none=>.bot))∈mS
    cases hq:lk mS t with
    | none=>exact .inl rfl
    | some v=>exact .inr (dP hq)
  have row:∀ (q:Nat × Nat),(match lk dB q.1 with
    | some R=>Nat.ble q.2 R.bo
    | none=>false)=true->St.km ⟨mS,fc,dB,vI⟩ q:=fun q h=>by
    split at h
    · rename_i R hR
      exact⟨R,hR,Nb h⟩
    · cases h
  have box:∀ (b:Nat),(match lk fc b with
    | some _=>true
    | none=>false)=true->St.hasB ⟨mS,fc,dB,vI⟩ b:=fun b h=>by
    split at h
    · rename_i cs dL
      exact⟨cs,dL⟩
    · cases h
  refine⟨r.xc,r.sz,fun t=>?_,fun i cs hi=>r.box i cs (AI hb i cs (dP hi)),fun τ R hR=>r.row τ R (zh hr τ R (dP hR)),⟨fun t b eF=>?_,fun t p hp=>?_,fun b cs dL p hp=>?_,fun b cs dL=>?_,fun τ R hR=>?_,fun τ R d hR hd l hl=>?_⟩,r.hi,r.mi,r.gh,fun j V hj=>?_,fun j b hj=>?_,r.sn⟩
  · rcases get t with h|h
    · rw[h];exact⟨⟩
    · rw[<- Gs hs t _ h];exact r.slt t
  · rcases get t with h|h
    · rw[h] at eF;cases eF
    · have:=aN.1 q3 _ h
      rw[ag] at this;exact box b (aN.1 this.1 b eF)
  · rcases get t with h|h
    · rw[h] at hp;cases hp
    · have:=aN.1 q3 _ h
      rw[ag] at this;exact row p (aN.1 this.2 p hp)
  · exact row p (aN.1 (aN.1 q4 (b,cs) (dP dL)) p hp)
  · exact Nb (aN.1 hn.1 (b,cs) (dP dL))
  · exact Nb (aN.1 hn.2 (τ,R) (dP hR))
  · have:=aN.1 q5 (τ,R) (dP hR)
    unfold ML at this;rw[hd] at this;exact row (l.2.2.1,l.2.2.2) (aN.1 this l hl)
  · obtain⟨h1,R,h2⟩:=r.Vf j V hj
    refine⟨h1,R,kr j R h2 (Nat.lt_of_not_le fun hle=>?_)⟩;rw[ON.v j hle] at hj
    cases hj
  · obtain⟨h1,cs,h2⟩:=r.Ju j b hj
    refine⟨h1,cs,kb j cs h2 (Nat.lt_of_not_le fun hle=>?_)⟩;rw[ON.b j hle] at hj
    cases hj
end
section
variable {P:Program}{T:Nat->Option Ty}{O:gD}[GlC O]
omit [GlC O] in
theorem Tp.Fj {N:Nat}{w0:World}{c:Code}{st:St}{Q:Ex->St->Prop}(rs:List (Nat × Row))(n:Nat)
  (hw:∀ (E:Env) (w:World) (a:Act),aaP O E w w0.heap.size N st a->∃ E',ca O E' w w0.heap.size N (st.nx+n) (st.app none ⟨.bot,[],rs⟩) a)
  (h:Tp P T N w0 O c ⟨st.sl,st.bx,rs++st.rw,st.nx+n⟩ Q):Tp P T N w0 O c st Q:=fun hT hc E a w r hb=>by
 obtain⟨E',r'⟩:=hw E w a r;exact h hT hc E' a w ⟨r'.xc,r'.sz,r'.slt,r'.box,r'.row,⟨r'.sc.sb,r'.sc.sr,r'.sc.br,r'.sc.fb,r'.sc.fr,r'.sc.rl⟩,r'.hi,r'.mi,r'.gh,r'.Vf,r'.Ju,r'.sn⟩ hb
theorem Mv.Fj {st:St}{E E':Env}{w:World}{X Y:Nat->Prop}(lo:∀ b,E.rl b=.bz\/E.rl b=.dX\/(∃ i,E.rl b=.bx i)->E'.rl b=E.rl b)(bk:E'.bk=E.bk)(vl:∀ τ R v,lk st.rw τ=some R->v<=R.bo->E'.vl τ v=E.vl τ v)(rw_:∀ τ,(∃ R,lk st.rw τ=some R)->¬ Y τ->∀ g,(E.rl g=.rw τ->E'.rl g=.rw τ)/\∀ j o,E.rl g=.iE τ j o->E'.rl g=.iE τ j o):Mv st E w E' w X Y:=
 ⟨al _,fun b _ h=>lo b (h.elim .inl fun h=>.inr (.inl h)),fun b h _=>⟨rfl,(lo b (.inl h)).trans h⟩,fun i cs _=>by rw[bk],fun i cs _ _ _ h=>⟨rfl,(lo _ (.inr (.inr ⟨i,h⟩))).trans h⟩,vl,fun τ R hR hY g _ _ h=>⟨rfl,((rw_ τ ⟨R,hR⟩ hY g).1 h)⟩,fun _ _ _=>rfl,fun τ R hR hY g j o _ h=>⟨rfl,(rw_ τ ⟨R,hR⟩ hY g).2 j o h⟩⟩
omit [GlC O] in
theorem Tp.deep {N:Nat}{w0:World}{c:Code}{st:St}{Q:Ex->St->Prop}(τ:Nat)(D:List (Nat × Nat × Nat)){R:Row}(hR:lk st.rw τ=some R)(hd:R.dp=none)(h:Tp P T N w0 O c ⟨st.sl,st.bx,(τ,{ R with dp:=some ⟨D,0,[]⟩ }) :: st.rw,st.nx⟩ Q)(hM:Dp.kh ⟨D,0,[]⟩=false:=by rfl):Tp P T N w0 O c st Q:=by
 refine Tp.Fj [(τ,{ R with dp:=some ⟨D,0,[]⟩ })] 0 (fun E w a r=>⟨E,?_⟩) h;have mv:Mv st E w E w (fun i=>∃ cs,lk ([]:List (Nat × List Ce)) i=some cs) (fun τ'=>∃ R',lk [(τ,({ R with dp:=some ⟨D,0,[]⟩ }:Row))] τ'=some R'):=Mv.refl _ _ _ _ _
 have one:∀ {τ' R'},lk [(τ,({ R with dp:=some ⟨D,0,[]⟩ }:Row))] τ'=some R'->τ'=τ/\R'={ R with dp:=some ⟨D,0,[]⟩ }:=fun {τ' R'} h=>by
  rw[bZ] at h;split at h
  ·rename_i e
   cases h
   exact⟨e.symm,rfl⟩
  ·cases h
 refine ca.app (v:=.tuple #[]) r (t:=none) (fun _ h=>by cases h) mv ⟨fun τ' R1 R2 e1 e2=>?_,fun b hb=>(by cases hb),fun p hp=>(by cases hp),fun _ _ h=>(by cases h),fun τ' R' h=>?_,fun τ' R' d' h jJ l hl=>?_⟩ trivial (fun _ _ h=>by cases h) (fun τ' R' h=>?_)
 ·obtain⟨rfl,rfl⟩:=one e2;rw[hR] at e1
  cases e1
  exact al _
 ·obtain⟨rfl,rfl⟩:=one h;exact r.sc.fr τ' R hR
 ·obtain⟨rfl,rfl⟩:=one h
  cases jJ
  cases hl
 ·obtain⟨rfl,rfl⟩:=one h;obtain⟨es,h1,h2,h3⟩:=(r.row τ' R hR).ow hd;refine RD.rr rfl hM ⟨es,h1,⟨h2.len,fun j vs ts q1 q2=>?_,fun j vs _=>vs.one,fun j vs ts q1 q2 o v t q3 q4=>⟨fun ρ u hm=>(by cases hm),fun _=>⟨fun ty k _ hj=>absurd hj (Nat.not_lt_zero _),fun _=>?_⟩⟩⟩,h3⟩
  ·rw[<- (h2.at_ j vs ts q1 q2).len,Cl.len]
  ·obtain⟨v',h4,h5⟩:=(h2.at_ j vs ts q1 q2).a2.get o t q4;rw[q3] at h4
   cases h4
   exact h5
omit [GlC O] in
theorem Tp.take {N:Nat}{w0:World}{c:Code}{st:St}{Q:Ex->St->Prop}(τ j o ty k:Nat){R:Row}{d:Dp}{ts:List Tr}{ys:List (List Tr)}(hR:lk st.rw τ=some R)(hd:R.dp=some d)(px:d.ln=[])(hD:(o,ty,k)∈d.D)(hj:j < d.c)(A0:R.xs[j]? = some ts)(ht:ts[o]? = some (.sl k ys))(h:Tp P T N w0 O c ⟨st.sl,st.bx,(τ,{ R with dp:=some ⟨d.D,d.c,[(j,o,st.nx,0)]⟩ }) :: (st.nx,⟨ty,k,0,ys,none⟩) :: st.rw,st.nx+1⟩ Q)(hM:d.kh=false:=by rfl):Tp P T N w0 O c st Q:=by
 refine Tp.Fj [(τ,{ R with dp:=some ⟨d.D,d.c,[(j,o,st.nx,0)]⟩ }),(st.nx,⟨ty,k,0,ys,none⟩)] 1 (fun E w a r=>?_) h;have hτ:τ < st.nx:=r.sc.fr τ R hR;obtain⟨es,h1,h2,h3⟩:=(r.row τ R hR).rd hd hM;have nE:j < es.length:=by rw[h2.len];exact(an.1 A0).1
 have hex:=cD nE
 have Ts:o < (es[j]).1.length:=by
  rw[Cl.len,<- h2.ln j _ ts hex A0];exact(an.1 ht).1
 have hv:=cD Ts;obtain⟨v,ev⟩:∃ v,(es[j]).1[o]=v:=⟨_,rfl⟩
 rw[ev] at hv;obtain⟨xs,e1,how⟩:=((h2.at_ j _ ts hex A0 o v _ hv ht).2 (fun ρ u hm=>by rw[px] at hm;cases hm)).1 ty k hD hj
 cases e1
 have mN:v.oneCell'=true:=(es[j]).one v (aU hv)
 let E':Env:=⟨fun b=>match E.rl b with
  | .iE a b c=>if a=τ/\b=j/\c=o then .rw st.nx else .iE a b c
  | x=>x,E.bk,fun ρ u=>if ρ=st.nx then v else E.vl ρ u⟩
 have acU:∀ {b},E.rl b=.iE τ j o->E'.rl b=.rw st.nx:=fun {b} hb=>by simp only[E',hb,and_self,if_true]
 have Bu:∀ {b},E.rl b≠.iE τ j o->E'.rl b=E.rl b:=fun {b} hb=>by
  simp only[E'];split
  ·rename_i x y z e;rw[if_neg]
   ·exact e.symm
   ·rintro⟨rfl,rfl,rfl⟩;exact hb e
  ·rfl
 have D3:∀ {ρ u},ρ < st.nx->E'.vl ρ u=E.vl ρ u:=fun {ρ u} hρ=>by
  simp only[E'];rw[if_neg (by omega)]
 have one:∀ {τ' R'},lk [(τ,({ R with dp:=some ⟨d.D,d.c,[(j,o,st.nx,0)]⟩ }:Row)),(st.nx,⟨ty,k,0,ys,none⟩)] τ'=some R'->(τ'=τ/\R'={ R with dp:=some ⟨d.D,d.c,[(j,o,st.nx,0)]⟩ })\/τ'=st.nx/\R'=⟨ty,k,0,ys,none⟩:=fun {τ' R'} h=>by
  rw[bZ] at h;split at h
  ·rename_i e
   cases h
   exact .inl ⟨e.symm,rfl⟩
  ·rw[bZ] at h;split at h
   ·rename_i e
    cases h
    exact .inr ⟨e.symm,rfl⟩
   ·cases h
 have isY:∃ R',lk [(τ,({ R with dp:=some ⟨d.D,d.c,[(j,o,st.nx,0)]⟩ }:Row)),(st.nx,⟨ty,k,0,ys,none⟩)] τ=some R':=⟨_,bZ _ _ _ _ |>.trans (if_pos rfl)⟩
 have mv:Mv st E w E' w (fun i=>∃ cs,lk ([]:List (Nat × List Ce)) i=some cs) (fun τ'=>∃ R',lk [(τ,({ R with dp:=some ⟨d.D,d.c,[(j,o,st.nx,0)]⟩ }:Row)),(st.nx,⟨ty,k,0,ys,none⟩)] τ'=some R'):=by
  refine Mv.Fj (fun b hb=>Bu fun e=>?_) rfl (fun τ' R' v hτ' _=>D3 (r.sc.fr τ' R' hτ')) fun τ' CI hY g=>⟨fun hg=>(Bu fun e=>?_).trans hg,fun j' o' hg=>(Bu fun e=>?_).trans hg⟩
  ·rw[e] at hb;rcases hb with h|h|⟨i,h⟩ <;> cases h
  ·rw[e] at hg
   cases hg
  ·rw[e] at hg
   cases hg
   exact hY isY
 refine⟨E',ca.app (v:=.tuple #[]) (r.mono (Nat.le_add_right _ 1)) (t:=none) (fun _ h=>by cases h) mv ⟨fun τ' R1 R2 e1 e2=>?_,fun b hb=>(by cases hb),fun p hp=>(by cases hp),fun _ _ h=>(by cases h),fun τ' R' h=>?_,fun τ' R' d' h jJ l hl=>?_⟩ trivial (fun _ _ h=>by cases h) (fun τ' R' h=>?_)⟩
 ·rcases one e2 with⟨rfl,rfl⟩|⟨rfl,rfl⟩
  ·rw[hR] at e1
   cases e1
   exact al _
  ·exact absurd (r.sc.fr _ _ e1) (Nat.lt_irrefl _)
 ·rcases one h with⟨rfl,rfl⟩|⟨rfl,rfl⟩ <;> omega
 ·rcases one h with⟨rfl,rfl⟩|⟨rfl,rfl⟩
  ·cases jJ
   obtain rfl:l=(j,o,st.nx,0):=by simpa using hl
   refine .inr ⟨⟨ty,k,0,ys,none⟩,?_,al _⟩;rw[bZ,if_neg (by simp only;omega),bZ,if_pos rfl]
  ·cases jJ
 ·rcases one h with⟨rfl,rfl⟩|⟨rfl,rfl⟩
  ·refine RD.rr rfl hM ⟨es,by show World.ownsRow _ _ _ _ (E'.vl τ' R.bo) _ _;rw[D3 hτ];exact h1,⟨h2.len,h2.ln,h2.one,fun j' vs ur q1 q2 o' v' t' q3 q4=>?_⟩,fun g hg=>?_⟩
   ·have hce:=h2.at_ j' vs ur q1 q2 o' v' t' q3 q4;have eZ:∀ ρ u,(j',o',ρ,u)∉d.ln:=fun ρ u=>by rw[px];exact List.not_mem_nil
    refine⟨fun ρ u hm=>?_,fun JP=>⟨fun ID k' hm aS=>?_,fun hm=>?_⟩⟩
    ·simp only[aJ,Prod.mk.injEq] at hm;obtain⟨rfl,rfl,rfl,rfl⟩:=hm;rw[hex] at q1
     cases q1
     rw[hv] at q3
     cases q3
     exact⟨by simp only[E',if_true],mN⟩
    ·obtain⟨qR,e2,h5⟩:=(hce.2 eZ).1 ID k' hm aS;refine⟨qR,e2,h5.to (al _) (fun b hb _=>(Bu (fun e=>by rw[hb] at e;cases e)).trans hb) fun g _ _ hg=>?_⟩;refine(Bu fun e=>?_).trans hg;rw[hg] at e
     cases e
     exact JP st.nx 0 aC
    ·exact((hce.2 eZ).2 hm).frame (al _) (fun _ _ _=>rfl) fun b hb _=>(Bu (fun e=>by rw[show E.rl b=_ from hb] at e;cases e)).trans hb
   ·have hg:(E'.vl τ' R.bo).ownBlock=some g:=hg;rw[D3 hτ] at hg;exact(Bu fun e=>by rw[h3 g hg] at e;cases e).trans (h3 g hg)
  ·refine Ow.rr rfl ?_;show Ow E' w w0.heap.size (.rw st.nx) ty k (E'.vl st.nx 0) ys;rw[show E'.vl st.nx 0=v by simp only[E',if_true]];exact how.to (al _) (fun b hb _=>(Bu (fun e=>by rw[hb] at e;cases e)).trans hb) fun g _ _ hg=>acU hg
def sY (ρ:Nat):List (Nat × Nat × Nat × Nat)->Option Nat
 | []=>none
 | l :: r=>bif Nat.beq l.2.2.1 ρ then some l.2.1 else sY ρ r
def YU (o ty k:Nat):List (Nat × Nat × Nat)->Bool
 | []=>false
 | x :: r=>bif Nat.beq x.1 o&&(Nat.beq x.2.1 ty&&Nat.beq x.2.2 k) then true else YU o ty k r
theorem Hk {o ty k:Nat}:∀ {D:List (Nat × Nat × Nat)},YU o ty k D=true->(o,ty,k)∈D
 | (a,b,c) :: r,h=>by
  unfold YU at h
  cases hb:Nat.beq a o&&(Nat.beq b ty&&Nat.beq c k) with
  | true=>
   simp only[ag] at hb;obtain⟨rfl,rfl,rfl⟩:a=o/\b=ty/\c=k:=⟨ah hb.1,ah hb.2.1,ah hb.2.2⟩
   exact aC
  | false=>
   simp only[hb,cond_false] at h;exact aK _ (Hk h)
 | [],h=>by cases h
theorem zZ {x:Nat}:∀ {l:List Nat},x∈l->jw x l≠none
 | y :: r,hx,h=>by
  unfold jw at h
  cases hq:Nat.beq y x with
  | true=>simp[hq] at h
  | false=>
   simp only[hq,cond_false] at h;rcases List.mem_cons.1 hx with rfl|hx
   ·simp at hq
   ·have:=zZ hx
    cases hz:jw x r with
    | none=>exact this hz
    | some i=>simp[hz] at h
 | [],hx,_=>by cases hx
def H6 (D:List (Nat × Nat × Nat))(rw:List (Nat × Row)):List (Nat × Nat × Nat × Nat)->List Tr->Option (List Tr × List (Nat × Row))
 | [],ts=>some (ts,[])
 | (_,o,ρ,u) :: l,ts=>match lk rw ρ,H6 D rw l ts with
  | some ⟨ty,k,bo,ys,none⟩,some (ur,rs)=>bif Nat.beq bo u&&YU o ty k D then some (ur.set o (.sl k ys),(ρ,⟨ty,k,u+1,[],none⟩) :: rs) else none
  | _,_=>none
theorem CZ {D:List (Nat × Nat × Nat)}{rw:List (Nat × Row)}:∀ {ln:List (Nat × Nat × Nat × Nat)} {ts ur:List Tr} {rs:List (Nat × Row)},H6 D rw ln ts=some (ur,rs)->fu (ln.map (·.2.1))=true->
  ur.length=ts.length/\(∀ i o ρ u,(i,o,ρ,u)∈ln->∃ ty k ys,lk rw ρ=some ⟨ty,k,u,ys,none⟩/\(o,ty,k)∈D/\(o < ts.length->ur[o]? = some (.sl k ys)))/\(∀ p,(∀ l∈ln,l.2.1≠p)->ur[p]? = ts[p]?)/\
  (∀ ρ R',lk rs ρ=some R'->∃ i o u ty k ys,(i,o,ρ,u)∈ln/\lk rw ρ=some ⟨ty,k,u,ys,none⟩/\R'=⟨ty,k,u+1,[],none⟩)/\∀ l∈ln,∃ R',lk rs l.2.2.1=some R'
 | [],ts,ur,rs,h,_=>by
  cases h
  exact⟨rfl,fun i o ρ u hm=>(by cases hm),fun p _=>rfl,fun ρ R' h=>(by cases h),fun l hm=>by cases hm⟩
 | (i0,o0,ρ0,u0) :: ln,ts,ur,rs,h,hn=>by
  unfold H6 at h;split at h
  ·rename_i ty k bo ys ts1 rs1 h1 h2
   cases hb:Nat.beq bo u0&&YU o0 ty k D with
   | false=>rw[hb] at h;cases h
   | true=>
    rw[hb] at h
    cases h
    rw[ag] at hb;obtain rfl:=ah hb.1
    have uF:fu (ln.map (·.2.1))=true/\jw o0 (ln.map (·.2.1))=none:=by
     rw[bP] at hn;unfold fu at hn;split at hn
     ·cases hn
     ·rename_i h3;exact⟨hn,h3⟩
    have gX:∀ l∈ln,l.2.1≠o0:=fun l hl e=>by
     exact zZ (x:=o0) (l:=ln.map (·.2.1)) (bA.2 ⟨l,hl,e⟩) uF.2
    obtain⟨a1,a2,a3,a4,a5⟩:=CZ h2 uF.1;refine⟨by rw[bG,a1],fun i o ρ u hm=>?_,fun p hp=>?_,fun ρ R' hl=>?_,fun l hm=>?_⟩
    ·rcases List.mem_cons.1 hm with e|hm
     ·cases e
      exact⟨ty,k,ys,h1,Hk hb.2,fun aS=>by rw[List.getElem?_set_self (by rw[a1];exact aS)]⟩
     ·obtain⟨ID,k',Pf,g1,g2,g3⟩:=a2 i o ρ u hm;exact⟨ID,k',Pf,g1,g2,fun aS=>by rw[List.getElem?_set_ne (fun e=>gX _ hm e.symm)];exact g3 aS⟩
    ·rw[List.getElem?_set_ne (fun e=>hp _ aC e)];exact a3 p fun l hl=>hp l (aK _ hl)
    ·rw[bZ] at hl;split at hl
     ·rename_i e;subst e
      cases hl
      exact⟨i0,o0,bo,ty,k,ys,aC,h1,rfl⟩
     ·obtain⟨i,o,u,ID,k',Pf,g1,g2⟩:=a4 ρ R' hl;exact⟨i,o,u,ID,k',Pf,aK _ g1,g2⟩
    ·rw[bZ];split
     ·exact⟨_,rfl⟩
     ·rcases List.mem_cons.1 hm with rfl|hm
      ·rename_i e;exact(e rfl).elim
      ·exact a5 l hm
  ·cases h
theorem vQ {ρ o:Nat}:∀ {ln:List (Nat × Nat × Nat × Nat)},sY ρ ln=some o->∃ i u,(i,o,ρ,u)∈ln
 | (a,b,c,d) :: r,h=>by
  unfold sY at h
  cases hb:Nat.beq c ρ with
  | true=>
   simp only[hb,cond_true] at h
   cases h
   rw[ah hb];exact⟨a,d,aC⟩
  | false=>
   simp only[hb,cond_false] at h;obtain⟨i,u,h1⟩:=vQ h;exact⟨i,u,aK _ h1⟩
 | [],h=>by cases h
theorem B9 {i o ρ u:Nat}:∀ {ln:List (Nat × Nat × Nat × Nat)},fu (ln.map (·.2.2.1))=true->(i,o,ρ,u)∈ln->sY ρ ln=some o
 | (a,b,c,d) :: r,hn,h=>by
  rw[bP] at hn;unfold fu at hn;unfold sY;rcases List.mem_cons.1 h with e|h
  ·cases e
   simp
  ·split at hn
   ·cases hn
   ·rename_i h3
    cases hb:Nat.beq c ρ with
    | true=>
     exfalso;have e:=ah hb;simp only at h3;rw[e] at h3;exact zZ (x:=ρ) (l:=r.map (·.2.2.1)) (bA.2 ⟨_,h,rfl⟩) h3
    | false=>
     simp only[cond_false];exact B9 hn h
 | [],_,h=>by cases h
def Ve (j:Nat):List (Nat × Nat × Nat × Nat)->Prop
 | []=>True
 | l :: r=>l.1=j/\Ve j r
theorem G5 {j:Nat}:∀ {ln:List (Nat × Nat × Nat × Nat)},Ve j ln->∀ l∈ln,l.1=j
 | a :: r,h,l,hl=>by
  rcases List.mem_cons.1 hl with rfl|hl
  ·exact h.1
  ·exact G5 h.2 l hl
 | [],_,l,hl=>by cases hl
def Gr (ln:List (Nat × Nat × Nat × Nat)):List (Nat × Nat × Nat)->Bool
 | []=>true
 | x :: r=>oC x.1 (ln.map (·.2.1))&&Gr ln r
theorem Bo {ln:List (Nat × Nat × Nat × Nat)}:∀ {D:List (Nat × Nat × Nat)},Gr ln D=true->∀ x∈D,∃ l∈ln,l.2.1=x.1
 | a :: r,h,x,hx=>by
  unfold Gr at h;rw[ag] at h;rcases List.mem_cons.1 hx with rfl|hx
  ·obtain⟨l,h1,h2⟩:=bA.1 (qf h.1);exact⟨l,h1,h2⟩
  ·exact Bo h.2 x hx
 | [],_,x,hx=>by cases hx
theorem GU:∀ {D:List (Nat × Nat × Nat)},fu (D.map (·.1))=true->∀ {o ty k ID k'},(o,ty,k)∈D->(o,ID,k')∈D->ty=ID/\k=k'
 | (a,b,c) :: r,h,o,ty,k,ID,k',h1,h2=>by
  rw[bP] at h;unfold fu at h;split at h
  ·cases h
  ·rename_i h3
   have no:∀ {ty k},(a,ty,k)∈r->False:=fun {ty k} hm=>by
    exact zZ (x:=a) (l:=r.map (·.1)) (bA.2 ⟨_,hm,rfl⟩) h3
   rcases List.mem_cons.1 h1 with e1|h1 <;> rcases List.mem_cons.1 h2 with e2|h2
   ·cases e1
    cases e2
    exact⟨rfl,rfl⟩
   ·cases e1
    exact(no h2).elim
   ·cases e2
    exact(no h1).elim
   ·exact GU h h1 h2
 | [],_,_,_,_,_,_,h1,_=>by cases h1
open Classical in
omit [GlC O] in
theorem Tp.put {N:Nat}{w0:World}{c:Code}{st:St}{Q:Ex->St->Prop}(τ j c':Nat){R:Row}{d:Dp}{ts ur:List Tr}{rs:List (Nat × Row)}(hR:lk st.rw τ=some R)(hd:R.dp=some d)(A0:R.xs[j]? = some ts)(hf:H6 d.D st.rw d.ln ts=some (ur,rs))(hj:Ve j d.ln)(n9:(fu (d.ln.map (·.2.1))&&(fu (d.ln.map (·.2.2.1))&&fu (d.D.map (·.1))))=true)(hc:c'=d.c/\j < d.c\/c'=d.c+1/\j=d.c/\Gr d.ln d.D=true)
  (h:Tp P T N w0 O c ⟨st.sl,st.bx,((τ,{ R with xs:=R.xs.set j ur,dp:=some ⟨d.D,c',[]⟩ }) :: rs)++st.rw,st.nx⟩ Q) (hM:d.kh=false:=by rfl):Tp P T N w0 O c st Q:=by
 refine Tp.Fj ((τ,{ R with xs:=R.xs.set j ur,dp:=some ⟨d.D,c',[]⟩ }) :: rs) 0 (fun E w a r=>?_) h;simp only[ag] at n9;obtain⟨n1,n2,n3⟩:=n9;obtain⟨f1,f2,f3,f4,f5⟩:=CZ hf n1;have hje:=G5 hj;have Xn:d.c<=c'/\j < c':=by omega
 obtain⟨es,h1,h2,h3⟩:=(r.row τ R hR).rd hd hM
 have hτn:∀ i o u,(i,o,τ,u)∉d.ln:=fun i o u hm=>by
  obtain⟨ty,k,ys,g1,_⟩:=f2 i o τ u hm;rw[hR] at g1
  cases g1
  cases hd
 let E':Env:=⟨fun b=>match E.rl b with
  | .rw ρ=>(match sY ρ d.ln with
   | some o=>.iE τ j o
   | none=>.rw ρ)
  | x=>x,E.bk,fun ρ u=>if ∃ i o u',(i,o,ρ,u')∈d.ln/\u=u'+1 then .slice none 0 0 else E.vl ρ u⟩
 have PG:∀ {b},(∀ ρ,E.rl b=.rw ρ->sY ρ d.ln=none)->E'.rl b=E.rl b:=fun {b} hb=>by
  simp only[E'];split
  ·rename_i ρ e;rw[hb ρ e];exact e.symm
  ·rfl
 have Ul:∀ {b},E.rl b=.bz->E'.rl b=.bz:=fun {b} hb=>(PG fun ρ e=>by rw[hb] at e;cases e).trans hb;have X5:∀ {b x y z},E.rl b=.iE x y z->E'.rl b=.iE x y z:=fun {b x y z} hb=>(PG fun ρ e=>by rw[hb] at e;cases e).trans hb
 have X6:∀ {b ρ},(∀ i o u,(i,o,ρ,u)∉d.ln)->E.rl b=.rw ρ->E'.rl b=.rw ρ:=fun {b ρ} hρ hb=>(PG fun ρ' e=>by
  rw[hb] at e
  cases e
  cases hq:sY ρ d.ln with
  | none=>rfl
  | some o=>
   obtain⟨i,u,hm⟩:=vQ hq;exact(hρ i o u hm).elim).trans hb
 have acV:∀ {b i o ρ u},(i,o,ρ,u)∈d.ln->E.rl b=.rw ρ->E'.rl b=.iE τ j o:=fun {b i o ρ u} hm hb=>by
  simp only[E',hb,B9 n2 hm]
 have D3:∀ {ρ u R'},lk st.rw ρ=some R'->u<=R'.bo->E'.vl ρ u=E.vl ρ u:=fun {ρ u R'} hρ hu=>by
  simp only[E'];rw[if_neg];rintro⟨i,o,u',hm,rfl⟩;obtain⟨ty,k,ys,g1,_⟩:=f2 i o ρ u' hm;rw[hρ] at g1
  cases g1
  simp only at hu;omega
 have one:∀ {τ' R'},lk ((τ,({ R with xs:=R.xs.set j ur,dp:=some ⟨d.D,c',[]⟩ }:Row)) :: rs) τ'=some R'->(τ'=τ/\R'={ R with xs:=R.xs.set j ur,dp:=some ⟨d.D,c',[]⟩ })\/∃ i o u ty k ys,(i,o,τ',u)∈d.ln/\lk st.rw τ'=some ⟨ty,k,u,ys,none⟩/\R'=⟨ty,k,u+1,[],none⟩:=fun {τ' R'} h=>by
  rw[bZ] at h;split at h
  ·rename_i e
   cases h
   exact .inl ⟨e.symm,rfl⟩
  ·exact .inr (f4 _ _ h)
 have inY:∀ {τ'},(τ'=τ\/∃ i o u,(i,o,τ',u)∈d.ln)->∃ R',lk ((τ,({ R with xs:=R.xs.set j ur,dp:=some ⟨d.D,c',[]⟩ }:Row)) :: rs) τ'=some R':=fun {τ'} h=>by
  rw[bZ];split
  ·exact⟨_,rfl⟩
  ·rename_i gX;rcases h with rfl|⟨i,o,u,hm⟩
   ·exact(gX rfl).elim
   ·exact f5 _ hm
 have mv:Mv st E w E' w (fun i=>∃ cs,lk ([]:List (Nat × List Ce)) i=some cs) (fun τ'=>∃ R',lk ((τ,({ R with xs:=R.xs.set j ur,dp:=some ⟨d.D,c',[]⟩ }:Row)) :: rs) τ'=some R'):=by
  refine Mv.Fj (fun b hb=>PG fun ρ e=>?_) rfl (fun τ' R' v hτ' hv=>D3 hτ' hv) fun τ' CI hY g=>⟨fun hg=>X6 (fun i o u hm=>hY (inY (.inr ⟨i,o,u,hm⟩))) hg,fun j' o' hg=>X5 hg⟩
  rw[e] at hb;rcases hb with h|h|⟨i,h⟩ <;> cases h
 refine⟨E',ca.app (v:=.tuple #[]) r (t:=none) (fun _ h=>by cases h) mv ⟨fun τ' R1 R2 e1 e2=>?_,fun b hb=>(by cases hb),fun p hp=>(by cases hp),fun _ _ h=>(by cases h),fun τ' R' h=>?_,fun τ' R' d' h jJ l hl=>?_⟩ trivial (fun _ _ h=>by cases h) (fun τ' R' h=>?_)⟩
 ·rcases one e2 with⟨rfl,rfl⟩|⟨i,o,u,ty,k,ys,hm,hl,rfl⟩
  ·rw[hR] at e1
   cases e1
   exact al _
  ·rw[hl] at e1
   cases e1
   exact Nat.le_succ u
 ·rcases one h with⟨rfl,rfl⟩|⟨i,o,u,ty,k,ys,hm,hl,rfl⟩
  ·exact r.sc.fr _ R hR
  ·exact r.sc.fr _ _ hl
 ·rcases one h with⟨rfl,rfl⟩|⟨i,o,u,ty,k,ys,hm,hl,rfl⟩
  ·cases jJ
   cases hl
  ·cases jJ
 ·rcases one h with⟨rfl,rfl⟩|⟨i,o,u,ty,k,ys,hm,hl,rfl⟩
  ·refine RD.rr rfl hM ⟨es,by show World.ownsRow _ _ _ _ (E'.vl τ' R.bo) _ _;rw[D3 hR (al _)];exact h1,⟨by rw[bG];exact h2.len,fun j' vs us q1 q2=>?_,h2.one,fun j' vs us q1 q2 o' v t q3 q4=>?_⟩,fun g hg=>?_⟩
   ·by_cases Tw:j=j'
    ·subst Tw;rw[List.getElem?_set_self (an.1 A0).1] at q2
     cases q2
     rw[f1];exact h2.ln j vs ts q1 A0
    ·rw[List.getElem?_set_ne Tw] at q2;exact h2.ln j' vs us q1 q2
   ·refine⟨fun ρ u hm=>(by cases hm),fun _=>?_⟩
    have unl:∀ {Vn:Nat} {us0:List Tr} {t0:Tr},es[Vn]? = some vs->R.xs[Vn]? = some us0->us0[o']? = some t0->Vn=j'->t=t0->(∀ ρ u,(j',o',ρ,u)∉d.ln)->(∀ ty k,(o',ty,k)∈d.D->j' < c'->∃ xs,t=.sl k xs/\Ow E' w w0.heap.size (.iE τ' j' o') ty k v xs)/\((∀ ty k,(o',ty,k)∈d.D->¬ j' < c')->RT E'.F w v t):=fun {Vn us0 t0} p1 p2 p3 p4 p5 eZ=>by
     subst p4 p5;obtain⟨_,p6⟩:=h2.at_ Vn vs us0 p1 p2 o' v t q3 p3;obtain⟨p7,p8⟩:=p6 eZ;refine⟨fun ty k hm aS=>?_,fun hm=>(p8 fun ty k hm' aS=>hm ty k hm' (by omega)).frame (al _) (fun _ _ _=>rfl) fun b hb _=>Ul hb⟩
     have Fx:Vn < d.c:=by
      rcases hc with⟨e,_⟩|⟨e1,e2,e3⟩
      ·omega
      ·by_cases hjc:Vn=d.c
       ·obtain⟨l,hl,e4⟩:=Bo e3 _ hm;obtain⟨l1,l2,l3,l4⟩:=l;have e5:=hje _ hl;simp only at e4 e5;subst e4;rw[e5,e2,<- hjc] at hl;exact(eZ _ _ hl).elim
       ·omega
     obtain⟨xs,p9,p10⟩:=p7 ty k hm Fx;exact⟨xs,p9,p10.to (al _) (fun b hb _=>Ul hb) fun g _ _ hg=>X5 hg⟩
    by_cases Tw:j=j'
    ·subst Tw;rw[List.getElem?_set_self (an.1 A0).1] at q2
     cases q2
     by_cases uh:∃ ρ u,(j,o',ρ,u)∈d.ln
     ·obtain⟨ρ,u,hm⟩:=uh;obtain⟨ty,k,ys,g1,g2,g3⟩:=f2 j o' ρ u hm;have hot:o' < ts.length:=by rw[<- f1];exact(an.1 q4).1
      have g4:=g3 hot;rw[q4] at g4
      cases g4
      obtain⟨t0,ht0⟩:∃ t0,ts[o']? = some t0:=⟨_,cD hot⟩
      obtain⟨p6,_⟩:=h2.at_ j vs ts q1 A0 o' v t0 q3 ht0;obtain⟨p7,_⟩:=p6 ρ u hm;refine⟨fun ID k' hm' _=>?_,fun iU=>(iU ty k g2 Xn.2).elim⟩;obtain⟨rfl,rfl⟩:=GU n3 g2 hm';refine⟨ys,rfl,?_⟩;rw[p7];exact((r.row ρ _ g1).ow rfl).to (al _) (fun b hb _=>Ul hb) fun g _ _ hg=>acV hm hg
     ·have eZ:∀ ρ u,(j,o',ρ,u)∉d.ln:=fun ρ u hm=>uh ⟨ρ,u,hm⟩
      have e:=f3 o' fun l hl e=>by
       obtain⟨l1,l2,l3,l4⟩:=l;have e5:=hje _ hl;simp only at e e5;subst e e5;exact eZ _ _ hl
      rw[q4] at e;exact unl q1 A0 e.symm rfl rfl eZ
    ·rw[List.getElem?_set_ne Tw] at q2;exact unl q1 q2 q4 rfl rfl fun ρ u hm=>Tw (hje _ hm).symm
   ·have hg:(E'.vl τ' R.bo).ownBlock=some g:=hg;rw[D3 hR (al _)] at hg;exact X6 (fun i o u=>hτn i o u) (h3 g hg)
  ·refine Ow.rr rfl ?_;show Ow E' w w0.heap.size (.rw τ') ty k (E'.vl τ' (u+1)) []
   rw[show E'.vl τ' (u+1)=.slice none 0 0 by
    simp only[E'];rw[if_pos ⟨i,o,u,hm,rfl⟩]]
   exact⟨[],World.ownsRow_nil _ _ _ _,⟨rfl,fun j vs ts h=>by simp at h⟩,fun g hg=>by cases hg⟩
end
section
variable {P:Program}{T:Nat->Option Ty}{N:Nat}
theorem bY {p:Prop}[Decidable p]{A B:Prop}(h1:p->A)(h2:¬ p->B):cond (decide p) A B:=by
 by_cases h:p
 ·rw[decide_eq_true h];exact h1 h
 ·rw[decide_eq_false h];exact h2 h
theorem dV {x y:Int}{A B:Prop}(h1:x=y->A)(h2:¬ x=y->B):cond (x==y) A B:=by
 by_cases h:x=y
 ·rw[beq_iff_eq.2 h];exact h1 h
 ·rw[beq_false_of_ne h];exact h2 h
theorem cy {b:Bool}{A B:Prop}(h:cond b B A):cond (!b) A B:=by cases b <;> exact h
theorem dx {x y:Int}{A B:Prop}(h1:¬ x=y->A)(h2:x=y->B):cond (x != y) A B:=cy (dV h2 h1)
theorem jf {α:Type}{l:List α}{f:α->List Tr}{n:Int}{K:List Tr->Prop}(h0:0<=n)(h1:n < ((l.map f).length:Int))(h:∀ x,x∈l->K (f x)):∃ (j:Nat) (ts:List Tr),n=j/\(l.map f)[j]? = some ts/\K ts:=by
 rw[Lm] at h1;have hl:n.toNat < l.length:=by omega
 exact⟨n.toNat,f l[n.toNat],by omega,by rw[bp,cD hl];rfl,h _ (aI hl)⟩
theorem Tm {α:Type}{l:List α}{p:α->Prop}(hp:∀ y∈l,p y){f:α->List Tr}{n:Int}{K:List Tr->Prop}(h0:0<=n)(h1:n < ((l.map f).length:Int))(h:∀ x,x∈l->p x->K (f x)):∃ (j:Nat) (ts:List Tr),n=j/\(l.map f)[j]? = some ts/\K ts:=jf h0 h1 fun x hx=>h x hx (hp x hx)
theorem zX {s:ByteArray}{n:Int}{R:(j:Nat)->j < s.size->Prop}(h0:0<=n)(h1:n < (s.size:Int))(h:∀ hl:n.toNat < s.size,R n.toNat hl):∃ (j:Nat) (h:j < s.size),n=j/\R j h:=by
 have hl:n.toNat < s.size:=by omega
 exact⟨n.toNat,hl,by omega,h hl⟩
theorem Ub {s:ByteArray}{A B:Nat->Prop}{R:Nat->Nat->Prop}(l h:Nat)(ha:A l)(hb:B h)(h1:l<=h)(h2:h<=s.size)(hk:(s.extract l h).size=h - l->R l h):∃ l h:Nat,A l/\B h/\l<=h/\h<=s.size/\R l h:=⟨l,h,ha,hb,h1,h2,hk (by rw[ByteArray.size_extract];omega)⟩
theorem qy {a b:ByteArray}{R:Prop}(h:a.size+b.size<=9223372036854775807)(hk:(a++b).size=a.size+b.size->R):a.size+b.size<=9223372036854775807/\R:=⟨h,hk ByteArray.size_append⟩
theorem bU {ι:Type}{mk:ι->AV}{Φ:ι->Prop}{f:FuncId}{dH:List AV}{A:List AV->Prop}{B:Bool->Prop}{K:AV->List Row->Prop}{X:Prop}(ct:∃ b,Φ b/\Ct P f dH (mk b) [] true)(h1:A dH)(h2:B true)(h3:∀ b,Φ b->K (mk b) []):(∃ dH r rs fresh,A dH/\Ct P f dH r rs fresh/\B fresh/\K r rs)\/X:=by
 obtain⟨b,hb,h⟩:=ct;exact .inl ⟨dH,mk b,[],true,h1,h,h2,h3 b hb⟩
theorem cY {ι:Type}{mk:ι->AV}{Φ:ι->Prop}{f:FuncId}{dH:List AV}{A:List AV->Prop}{K:AV->List Row->Prop}{q X:Prop}(ct:∃ b,Φ b/\Ct P f dH (mk b) [] true)(h1:A dH)(h3:∀ b,Φ b->K (mk b) []):(∃ dH r rs fresh,A dH/\Ct P f dH r rs fresh/\(fresh=true\/q)/\K r rs)\/X:=by
 obtain⟨b,hb,h⟩:=ct;exact .inl ⟨dH,mk b,[],true,h1,h,.inl rfl,h3 b hb⟩
theorem bj (f:FuncId){A:List AV->Prop}{B:Bool->Prop}{K:AV->List Row->Prop}{X:Prop}(h:(∃ dH r rs fresh,A dH/\Ct P f dH r rs fresh/\B fresh/\K r rs)\/X):(∃ dH r rs fresh,A dH/\Ct P f dH r rs fresh/\B fresh/\K r rs)\/X:=h
theorem bL {ι:Type}{mk:ι->AV}{Φ:ι->Prop}{fn:Func}{e:Ex}{st:St}(b:ι)(h:DK T fn (mk b) [] e st)(hb:Φ b)(hr:Bz (mk b) []=true):∃ rv rs,(∃ b,rv=mk b/\rs=[]/\Φ b)/\(Nat.ble rs.length 128=true/\Bz rv rs=true)/\DK T fn rv rs e st:=⟨mk b,[],⟨b,rfl,rfl,hb⟩,⟨rfl,hr⟩,h⟩
theorem db {ι:Type}{mk:ι->AV}{Φ:ι->Prop}{f:FuncId}{dH:List AV}(hl:∀ b,uc (mk b)=true)(h:∃ rv rs,(∃ b,rv=mk b/\rs=[]/\Φ b)/\Ct P f dH rv rs false):∃ b,Φ b/\Ct P f dH (mk b) [] true:=by
 obtain⟨rv,rs,⟨b,rfl,rfl,hb⟩,hc⟩:=h;exact⟨b,hb,Ct.uc hc (hl b)⟩
theorem dc (b:Bool):uc (aB0 b)=true:=rfl
theorem lF (b:Int):uc (aBZ b)=true:=rfl
theorem iz (b:ByteArray):uc (AV.s b)=true:=rfl
noncomputable def k9 (c:Code):Nat:=Code.rec (motive:=fun _=>Nat) 9999 (fun id _ _=>id) (fun _ _ a _=>a) (fun _ _ _ a _=>a+1000) (fun _ _ a=>a) (fun _ a=>a+2000) (fun _ _ _ _ _ _=>9999) (fun _=>9999) (fun _ _=>9999) (fun _=>9999) (fun _=>9999) 9999 (fun _=>9999) c
def TP (P:Program)(T:Nat->Option Ty)(N:Nat)(cs ct:List Nat)(c:Code):St->(Ex->St->Prop)->Prop:=
 Code.rec (motive:=fun _=>St->(Ex->St->Prop)->Prop) (fun st Q=>Q .ic st) (fun id ops d st Q=>SF P T N cs id ops d st Q) (fun a b Nj Ni st Q=>match aaU (k9 b) ct with
   | true=>ck P T N (.seq a b) st Q
   | false=>Nj st (vL (fun cJ=>Ni cJ Q) Q))
  (fun c _ _ Nj Ni st Q=>OF c st (Nj st Q) (Ni st Q)) (fun id _ ih st Q=>ih st (qC id Q)) (fun c _ st Q=>gP P T N c st Q) (fun _ _ _ _ _ _ _ _=>False) (fun id st Q=>Q (.exit id) st)
  (fun _ _ _ _=>False) (fun _ _ _=>False) (fun _ _ _=>False) (fun st Q=>Q .ret st) (fun _ _ _=>False) c
theorem ck.mono {c:Code}{s:St}{Q Q':Ex->St->Prop}(h:ck P T N c s Q)(hq:∀ e s,Q e s->Q' e s):ck P T N c s Q':=by
 obtain⟨e,s',h1,h2⟩:=h;exact⟨e,s',h1,hq _ _ h2⟩
theorem ck.seq {a b:Code}{s:St}{Q:Ex->St->Prop}(h:ck P T N a s (fun e s1=>match e with
  | .ic=>ck P T N b s1 Q
  | e=>Q e s1)):ck P T N (.seq a b) s Q:=by
 obtain⟨e,s1,h1,h2⟩:=h
 cases e with
 | ic=>
  obtain⟨e2,s2,h3,h4⟩:=h2;exact⟨e2,s2,h1.seq h3,h4⟩
 | exit id=>exact⟨_,_,h1.out (by simp),h2⟩
 | ret=>exact⟨_,_,h1.out (by simp),h2⟩
theorem ck.block {id:Nat}{c:Code}{s:St}{Q:Ex->St->Prop}(h:ck P T N c s (qC id Q)):ck P T N (.block id c) s Q:=by
 obtain⟨e,s',h1,h2⟩:=h
 cases e with
 | ic=>exact⟨.ic,s',h1.block rfl,h2⟩
 | ret=>exact⟨.ret,s',h1.block rfl,h2⟩
 | exit i=>
  unfold qC at h2
  cases hb:Nat.beq i id with
  | true=>
   simp only[hb] at h2;exact⟨.ic,s',h1.block (by show _=(bif Nat.beq i id then Ex.ic else Ex.exit i);rw[hb];rfl),h2⟩
  | false=>
   simp only[hb] at h2;exact⟨.exit i,s',h1.block (by show _=(bif Nat.beq i id then Ex.ic else Ex.exit i);rw[hb];rfl),h2⟩
theorem ck.cond {c:Operand}{a b:Code}{s:St}{Q:Ex->St->Prop}(h:OF c s (ck P T N a s Q) (ck P T N b s Q)):ck P T N (.cond c a b) s Q:=by
 unfold OF at h;split at h
 ·rename_i t ht
  cases t with
  | true=>
   obtain⟨e,s',h1,h2⟩:=h;exact⟨e,s',lY.cond ht (fun _=>h1) (fun h=>by cases h),h2⟩
  | false=>
   obtain⟨e,s',h1,h2⟩:=h;exact⟨e,s',lY.cond ht (fun h=>by cases h) (fun _=>h1),h2⟩
 ·exact h.elim
theorem ck.bI (cs ct:List Nat):∀ {c:Code} {st:St} {Q:Ex->St->Prop},TP P T N cs ct c st Q->ck P T N c st Q
 | .skip,st,_,h=>⟨_,_,lY.skip st,h⟩
 | .region _ _ _,_,_,h=>ck.run cs (c:=.region _ _ _) h
 | .seq a b,st,Q,h=>by
  change (match aaU (k9 b) ct with
   | true=>ck P T N (.seq a b) st Q
   | false=>TP P T N cs ct a st (vL (fun cJ=>TP P T N cs ct b cJ Q) Q)) at h
  split at h
  ·exact h
  ·refine ck.seq ((ck.bI cs ct h).mono fun e s hq=>?_)
   cases e with
   | ic=>exact ck.bI cs ct hq
   | exit id=>exact hq
   | ret=>exact hq
 | .cond c a b,st,Q,h=>by
  change OF c st (TP P T N cs ct a st Q) (TP P T N cs ct b st Q) at h;refine ck.cond ?_;unfold OF at h ⊢;split at h
  ·rename_i t ht
   cases t with
   | true=>exact ck.bI cs ct (show TP P T N cs ct a st Q from h)
   | false=>exact ck.bI cs ct (show TP P T N cs ct b st Q from h)
  ·exact h.elim
 | .block id c,st,Q,h=>ck.block (ck.bI cs ct (show TP P T N cs ct c st (qC id Q) from h))
 | .loop c,st,Q,h=>gP.tpx (show gP P T N c st Q from h)
 | .scope ..,_,_,h=>h.elim
 | .exit id,st,Q,h=>⟨_,_,lY.exit id st,h⟩
 | .ret,st,Q,h=>⟨_,_,lY.ret st,h⟩
 | .label _,_,_,h=>h.elim
 | .goto _,_,_,h=>h.elim
 | .rangeFunc ..,_,_,h=>h.elim
 | .refuse _,_,_,h=>h.elim
def vk (bx:List (Nat × List Ce))(v:AV):Bool:=match v with
 | .c x=>x.plain
 | .agg xs=>xs.all Ce.plain
 | .ptr b _=>mW bx b
 | .eE=>true
 | .dv _ _=>true
 | .fn _ caps=>caps.all fun p=>mW bx p.1
 | .kp _ _=>true
 | _=>false
theorem Lt {st:St}{m:List (Nat × Nat)}{dB:List (Nat × Row)}{bx:List (Nat × List Ce)}{v:AV}(h:vk bx v=true):F8 st m dB bx v v:=by
 cases v with
 | c x=>cases x with
  | t _=>exact rfl
  | nil=>exact⟨⟩
  | row _ _=>cases h
  | bot=>cases h
 | agg xs=>exact aV xs h
 | ptr b o=>exact⟨rfl,rfl,h⟩
 | eE=>exact⟨⟩
 | dv _ _=>exact⟨rfl,rfl⟩
 | fn f caps=>exact⟨rfl,rfl,h⟩
 | kp _ _=>exact⟨rfl,rfl⟩
 | dF _ _ _ _ _=>cases h
 | sub _ _ _ _=>cases h
 | fH _=>cases h
 | bot=>cases h
theorem pO {st:St}{m:List (Nat × Nat)}{dB:List (Nat × Row)}{bx:List (Nat × List Ce)}:∀ {sl:List (Nat × AV)},sl.map (fun p=>(p.1,st.get p.1))=sl->sl.all (fun p=>vk bx p.2)=true->Xv st m dB bx sl
 | [],_,_=>trivial
 | (t,v) :: r,h,h2=>by
  rw[bP] at h;rw[List.all_cons,ag] at h2;have h1:st.get t=v:=congrArg Prod.snd (List.cons.inj h).1;refine⟨?_,pO (List.cons.inj h).2 h2.2⟩;rw[h1];exact Lt h2.1
theorem qB {st:St}{m:List (Nat × Nat)}{dB:List (Nat × Row)}:∀ {bx:List (Nat × List Ce)},bx.map (fun p=>lk st.bx p.1)=bx.map (fun p=>some p.2)->bx.all (fun p=>p.2.all Ce.plain)=true->WW st m dB bx
 | [],_,_=>trivial
 | (b,cs) :: r,h,h2=>by
  rw[bP,bP] at h;rw[List.all_cons,ag] at h2;refine⟨?_,qB (List.cons.inj h).2 h2.2⟩;rw[(List.cons.inj h).1];exact aV cs h2.1
theorem cE {st:St}{sl:List (Nat × AV)}{bx:List (Nat × List Ce)}{M:Nat}(h1:sl.map (fun p=>(p.1,st.get p.1))=sl)(h2:bx.map (fun p=>lk st.bx p.1)=bx.map (fun p=>some p.2))(h3:(sl.all (fun p=>vk bx p.2)&&bx.all (fun p=>p.2.all Ce.plain))=true)(hn:below M bx []=true):Wk st ⟨sl,bx,[],M⟩:=by
 rw[ag] at h3;exact bh [] rfl hn (pO h1 h3.1) (qB h2 h3.2) trivial
def Ti (st:St):List Nat->(List (Nat × AV)->Prop)->Prop
 | [],K=>K []
 | t :: r,K=>(st.get t).open_ fun v=>Ti st r fun sl=>K ((t,v) :: sl)
theorem rY (st:St):∀ (ks:List Nat) (K:List (Nat × AV)->Prop),Ti st ks K=K (ks.map fun t=>(t,st.get t))
 | [],K=>rfl
 | t :: r,K=>by rw[Ti,AV.nW,rY st r];rfl
def Tj (st:St):List Nat->(List (Nat × List Ce)->Prop)->Prop
 | [],K=>K []
 | b :: r,K=>match lk st.bx b with
  | some cs=>mz cs fun cs=>Tj st r fun bx=>K ((b,cs) :: bx)
  | none=>False
theorem rZ (st:St):∀ (bs:List Nat) (K:List (Nat × List Ce)->Prop),Tj st bs K->∃ bx,K bx
 | [],K,h=>⟨_,h⟩
 | b :: r,K,h=>by
  rw[Tj] at h;split at h
  ·rw[kn] at h;obtain⟨bx,h⟩:=rZ st r _ h;exact⟨_,h⟩
  ·exact h.elim
theorem ck.cut {α:Type}(id:Nat)(vs:α->List (Nat × AV))(Φ:α->Prop)(ks bs:List Nat)(M:Nat){a b:Code}{st:St}{Q:Ex->St->Prop}(_:k9 b=id)
  (h:Ti st ks fun sl=>Tj st bs fun bx=>ck P T N a st (fun e s=>match e with
   | .ic=>∃ x,Φ x/\Wk s ⟨vs x++sl,bx,[],M⟩
   | e=>Q e s)/\∀ x,Φ x->ck P T N b ⟨vs x++sl,bx,[],M⟩ Q):ck P T N (.seq a b) st Q:=by
 rw[rY] at h;obtain⟨bx,h1,h2⟩:=rZ st bs _ h;refine ck.seq (h1.mono fun e s hq=>?_)
 cases e with
 | ic=>
  obtain⟨x,hx,hw⟩:=hq;exact(h2 x hx).wk hw
 | exit id=>exact hq
 | ret=>exact hq
theorem gP.at {α:Type}(id:Nat)(vs:α->List (Nat × AV))(ok:α->Prop)(μ:α->Nat)(ks bs:List Nat)(M:Nat){c:Code}{st:St}{Q:Ex->St->Prop}(_:k9 c=id)
  (h:Ti st ks fun sl=>Tj st bs fun bx=>(∃ x,ok x/\Wk st ⟨vs x++sl,bx,[],M⟩)/\∀ x,ok x->ck P T N c ⟨vs x++sl,bx,[],M⟩ (fun e s=>match e with
   | .ic=>∃ y,(ok y/\μ y < μ x)/\Wk s ⟨vs y++sl,bx,[],M⟩
   | e=>Q e s)):gP P T N c st Q:=by
 rw[rY] at h;obtain⟨bx,⟨x0,h0,hw⟩,h2⟩:=rZ st bs _ h;refine gP.loop (fun x=>⟨vs x++ks.map (fun t=>(t,st.get t)),bx,[],M⟩) ok μ x0 hw h0 fun x hx=>(h2 x hx).mono fun e s hq=>?_
 cases e with
 | ic=>
  obtain⟨y,⟨h3,h4⟩,h5⟩:=hq;exact⟨y,h3,h4,h5⟩
 | exit id=>exact hq
 | ret=>exact hq
theorem gP.up {β:Type}(id t:Nat)(n:Int)(hn:n<=4611686018427387904)(Zg:0<=n)(vs:β->List (Nat × AV))(Φ:Int->β->Prop)(ks bs:List Nat)(M:Nat){c:Code}{st:St}{Q:Ex->St->Prop}(_:k9 c=id)
  (h:Ti st ks fun sl=>Tj st bs fun bx=>(∃ b,Φ 0 b/\Wk st ⟨(t,aBZ 0) :: (vs b++sl),bx,[],M⟩)/\∀ i b,0<=i->i<=n->Φ i b->ck P T N c ⟨(t,aBZ i) :: (vs b++sl),bx,[],M⟩ (fun e s=>match e with
   | .ic=>i < n/\∃ b,Φ (i+1) b/\Wk s ⟨(t,aBZ (IntKind.i64.wrap (i+1))) :: (vs b++sl),bx,[],M⟩
   | e=>Q e s)):gP P T N c st Q:=by
 rw[rY] at h;obtain⟨bx,⟨b0,h0,hw⟩,h2⟩:=rZ st bs _ h;refine gP.loop (fun x:Int × β=>⟨(t,aBZ x.1) :: (vs x.2++ks.map (fun t=>(t,st.get t))),bx,[],M⟩) (fun x=>0<=x.1/\x.1<=n/\Φ x.1 x.2) (fun x=>(n - x.1).toNat) (0,b0) hw ⟨Int.le_refl _,Zg,h0⟩ fun x hx=>(h2 x.1 x.2 hx.1 hx.2.1 hx.2.2).mono fun e s hq=>?_
 cases e with
 | ic=>
  obtain⟨h3,b,h4,h5⟩:=hq;rw[ak,show(x.1+1+9223372036854775808) % 18446744073709551616 - 9223372036854775808=x.1+1 by omega] at h5;exact⟨(x.1+1,b),⟨by have:=hx.1;show 0<=x.1+1;omega,by show x.1+1<=n;omega,h4⟩,by have:=hx.1;show(n - (x.1+1)).toNat < (n - x.1).toNat;omega,h5⟩
 | exit id=>exact hq
 | ret=>exact hq
theorem gP.one (id:Nat){c:Code}{st:St}{Q:Ex->St->Prop}(_:k9 c=id)(h:ck P T N c st (fun e s1=>match e with
  | .ic=>gP P T N c s1 Q
  | e=>Q e s1)):gP P T N c st Q:=gP.once h
theorem gV {α β:Type}{l:List α}{f:α->β}{b:Nat}(h:l.length*b<=ba)(hb:Nat.blt 0 b=true):(((l.map f).length:Nat):Int)<=4611686018427387904:=by
 unfold ba at h;rw[Lm];have:=Nb hb;have:l.length*1<=l.length*b:=Nat.mul_le_mul (al _) this;omega
theorem Il {a b:ByteArray}{R:Prop}(hl:Nat.ble a.size 40=true)(h:40+b.size<=9223372036854775807)(hk:(a++b).size<=40+b.size->R):a.size+b.size<=9223372036854775807/\R:=by
 have:=Nb hl;exact⟨by omega,hk (by rw[ByteArray.size_append];omega)⟩
theorem Dh {a b:ByteArray}{R:Prop}(hl:Nat.ble b.size 40=true)(h:a.size+40<=9223372036854775807)(hk:(a++b).size<=a.size+40->R):a.size+b.size<=9223372036854775807/\R:=by
 have:=Nb hl;exact⟨by omega,hk (by rw[ByteArray.size_append];omega)⟩
theorem ud {n:Int}{m:Nat}{K:Nat->Prop}(h0:0<=n)(h1:n < (m:Int))(h:n.toNat < m->K n.toNat):∃ j:Nat,n=j/\j < m/\K j:=⟨n.toNat,by omega,by omega,h (by omega)⟩
def Kw:List (List Tr)->Bool
 | []=>true
 | [.lit (.string s)] :: r=>Nat.ble s.size 40&&Kw r
 | _ :: _=>false
theorem w6:∀ {xs:List (List Tr)},Kw xs=true->∀ (i:Nat),i < xs.length->∃ s:ByteArray,s.size<=40/\xs[i]? = some (eS s)
 | [.lit (.string s)] :: r,h,0,_=>by
  rw[Kw,ag] at h;exact⟨s,Nb h.1,rfl⟩
 | [.lit (.string s)] :: r,h,i+1,hi=>by
  rw[Kw,ag] at h;obtain⟨s,h1,h2⟩:=w6 h.2 i (Nat.lt_of_succ_lt_succ hi);exact⟨s,h1,by rw[List.getElem?_cons_succ];exact h2⟩
theorem Fh {xs:List (List Tr)}{i:Nat}{y:Ty}{K:AV->Prop}(ha:Kw xs=true)(hi:i < xs.length)(hy:y.isAgg=false)(h:∀ s:ByteArray,s.size<=40->K (AV.s s)):∃ ts v,xs[i]? = some ts/\um y ts 0=some v/\K v:=by
 obtain⟨s,h1,h2⟩:=w6 ha i hi;exact⟨_,_,h2,by unfold um;rw[hy];rfl,h s h1⟩
theorem toList_len (s:ByteArray):s.toList.length=s.size:=by
 rw[ByteArray.toList_eq];rfl
theorem Ps {s:ByteArray}(h:(s.toList==(⟨#[]⟩:ByteArray).toList)=true):s.size<=32:=by
 have:=toList_len s;rw[eq_of_beq h,toList_len] at this;rw[<- this];exact aD _
theorem eX (id:Nat){c:Code}{st:St}{Q:Ex->St->Prop}(_:k9 c=id)(h:gP P T N c st Q):gP P T N c st Q:=h
theorem SQ {st:St}{t r ρ bo ty k M:Nat}{X:List (List Tr)}{sl:List (Nat × AV)}{bx:List (Nat × List Ce)}(hg:st.get t=.c (.row ρ bo))(hr:lk st.rw ρ=some ⟨ty,k,bo,X,none⟩)(h1:sl.map (fun p=>(p.1,st.get p.1))=sl)(h2:bx.map (fun p=>lk st.bx p.1)=bx.map (fun p=>some p.2))(h3:(sl.all (fun p=>vk bx p.2)&&bx.all (fun p=>p.2.all Ce.plain))=true)(hn:below M bx [(r,⟨ty,k,0,X,none⟩)]=true):Wk st ⟨(t,.c (.row r 0)) :: sl,bx,[(r,⟨ty,k,0,X,none⟩)],M⟩:=by
 rw[ag] at h3;refine bh [(r,ρ)] (by simp[OV,lk,sw]) hn ⟨?_,pO h1 h3.1⟩ (qB h2 h3.2) ⟨?_,trivial⟩
 ·rw[hg]
  show(match lk [(r,(⟨ty,k,0,X,none⟩:Row))] r with
   | some R'=>R'.bo=0/\(lk [(r,ρ)] r=some ρ/\(match lk st.rw ρ with
    | some R=>R.bo=bo
    | none=>False))
   | none=>False)
  simp[lk,hr]
 ·show(match lk [(r,ρ)] r with
   | some τ=>(match lk st.rw τ with
    | some R=>R.ty=ty/\R.k=k/\R.MS ⟨ty,k,0,X,none⟩
    | none=>False)
   | none=>bi _ _)
  simp[lk,hr];exact aj rfl
theorem XM {st:St}{t r ty k M:Nat}{sl:List (Nat × AV)}{bx:List (Nat × List Ce)}(hg:st.get t=.c .nil)(h1:sl.map (fun p=>(p.1,st.get p.1))=sl)(h2:bx.map (fun p=>lk st.bx p.1)=bx.map (fun p=>some p.2))(h3:(sl.all (fun p=>vk bx p.2)&&bx.all (fun p=>p.2.all Ce.plain))=true)(hn:below M bx [(r,⟨ty,k,0,[],none⟩)]=true):Wk st ⟨(t,.c (.row r 0)) :: sl,bx,[(r,⟨ty,k,0,[],none⟩)],M⟩:=by
 rw[ag] at h3;refine bh [] rfl hn ⟨?_,pO h1 h3.1⟩ (qB h2 h3.2) ⟨?_,trivial⟩
 ·rw[hg]
  show(match lk [(r,(⟨ty,k,0,[],none⟩:Row))] r with
   | some R'=>R'.bo=0/\lk ([]:List (Nat × Nat)) r=none
   | none=>False)
  simp[lk]
 ·exact bS rfl
theorem ck.AD (id t r ty k:Nat)(Φ:List (List Tr)->Prop)(ks bs:List Nat)(M:Nat){a b:Code}{st:St}{Q:Ex->St->Prop}(_:k9 b=id)
  (h:Ti st ks fun sl=>Tj st bs fun bx=>ck P T N a st (fun e s=>match e with
   | .ic=>∃ X,Φ X/\Wk s ⟨(t,.c (.row r 0)) :: sl,bx,[(r,⟨ty,k,0,X,none⟩)],M⟩
   | e=>Q e s)/\∀ X,Φ X->ck P T N b ⟨(t,.c (.row r 0)) :: sl,bx,[(r,⟨ty,k,0,X,none⟩)],M⟩ Q):ck P T N (.seq a b) st Q:=by
 rw[rY] at h;obtain⟨bx,h1,h2⟩:=rZ st bs _ h;refine ck.seq (h1.mono fun e s hq=>?_)
 cases e with
 | ic=>
  obtain⟨x,hx,hw⟩:=hq;exact(h2 x hx).wk hw
 | exit id=>exact hq
 | ret=>exact hq
theorem gP.XO (id t u r ty k:Nat)(n:Int)(hn:n<=4611686018427387904)(Zg:0<=n)(Φ:Int->List (List Tr)->Prop)(ks bs:List Nat)(M:Nat){c:Code}{st:St}{Q:Ex->St->Prop}(_:k9 c=id)
  (h:Ti st ks fun sl=>Tj st bs fun bx=>(∃ X,Φ 0 X/\Wk st ⟨(u,.c (.row r 0)) :: (t,aBZ 0) :: sl,bx,[(r,⟨ty,k,0,X,none⟩)],M⟩)/\∀ i X,0<=i->i<=n->Φ i X->ck P T N c ⟨(u,.c (.row r 0)) :: (t,aBZ i) :: sl,bx,[(r,⟨ty,k,0,X,none⟩)],M⟩ (fun e s=>match e with
   | .ic=>i < n/\∃ X,Φ (i+1) X/\Wk s ⟨(u,.c (.row r 0)) :: (t,aBZ (IntKind.i64.wrap (i+1))) :: sl,bx,[(r,⟨ty,k,0,X,none⟩)],M⟩
   | e=>Q e s)):gP P T N c st Q:=by
 rw[rY] at h;obtain⟨bx,⟨b0,h0,hw⟩,h2⟩:=rZ st bs _ h;refine gP.loop (fun x:Int × List (List Tr)=>⟨(u,.c (.row r 0)) :: (t,aBZ x.1) :: ks.map (fun t=>(t,st.get t)),bx,[(r,⟨ty,k,0,x.2,none⟩)],M⟩) (fun x=>0<=x.1/\x.1<=n/\Φ x.1 x.2) (fun x=>(n - x.1).toNat) (0,b0) hw ⟨Int.le_refl _,Zg,h0⟩ fun x hx=>(h2 x.1 x.2 hx.1 hx.2.1 hx.2.2).mono fun e s hq=>?_
 cases e with
 | ic=>
  obtain⟨h3,b,h4,h5⟩:=hq;rw[ak,show(x.1+1+9223372036854775808) % 18446744073709551616 - 9223372036854775808=x.1+1 by omega] at h5;exact⟨(x.1+1,b),⟨by have:=hx.1;show 0<=x.1+1;omega,by show x.1+1<=n;omega,h4⟩,by have:=hx.1;show(n - (x.1+1)).toNat < (n - x.1).toNat;omega,h5⟩
 | exit id=>exact hq
 | ret=>exact hq
def tm (n:Int)(X:List (List Tr)):Prop:=(∀ ts∈X,∃ s:ByteArray,s.size<=2000/\ts=eS s)/\(X.length:Int)<=n
theorem tm.nil {n:Int}(h:0<=n):tm n []:=⟨fun _ h=>(by cases h),h⟩
theorem tm.up {n m:Int}{X:List (List Tr)}(h:tm n X)(hm:n<=m):tm m X:=⟨h.1,Int.le_trans h.2 hm⟩
theorem tm.snoc {n m:Int}{X:List (List Tr)}{s:ByteArray}(h:tm n X)(hs:s.size<=2000)(hm:n+1<=m):tm m (X++[[sv s]]):=⟨fun ts ht=>by
 rcases aX.1 ht with ht|ht
 ·exact h.1 ts ht
 ·exact⟨s,hs,aJ.1 ht⟩,by
 have:=h.2;rw[au];simp;omega⟩
theorem tm.list:∀ {X:List (List Tr)} {n:Int},tm n X->∃ L:List ByteArray,X=L.map eS/\(∀ y∈L,y.size<=2000)/\(L.length:Int)<=n
 | [],_,h=>⟨[],rfl,fun _ h=>(by cases h),h.2⟩
 | x :: X,n,h=>by
  obtain⟨s,h1,rfl⟩:=h.1 x aC;obtain⟨L,rfl,h2,h3⟩:=tm.list (X:=X) (n:=n - 1) ⟨fun ts ht=>h.1 ts (aK _ ht),by have:=h.2;simp at this;omega⟩
  exact⟨s :: L,rfl,fun y hy=>by
   rcases List.mem_cons.1 hy with rfl|hy
   ·exact h1
   ·exact h2 y hy,by simp;omega⟩
theorem Vo {xs:List (List Tr)}{n:Int}{K:List Tr->Prop}(ha:Kw xs=true)(h0:0<=n)(h1:n < (xs.length:Int))(h:∀ s:ByteArray,s.size<=40->K (eS s)):∃ (j:Nat) (ts:List Tr),n=j/\xs[j]? = some ts/\K ts:=by
 have hl:n.toNat < xs.length:=by omega
 obtain⟨s,h2,h3⟩:=w6 ha n.toNat hl;exact⟨n.toNat,eS s,by omega,h3,h s h2⟩
theorem Uc {s:ByteArray}{n m:Int}{A B:Nat->Prop}{R:Nat->Nat->Prop}(ha:∀ l:Nat,n=l->A l)(hb:∀ l:Nat,m=l->B l)(h0:0<=n)(h1:n<=m)(h2:m<=(s.size:Int))(hk:(s.extract n.toNat m.toNat).size=m.toNat - n.toNat->R n.toNat m.toNat):∃ l h:Nat,A l/\B h/\l<=h/\h<=s.size/\R l h:=
 Ub n.toNat m.toNat (ha _ (by omega)) (hb _ (by omega)) (by omega) (by omega) hk
theorem Ri {α:Type}{l:List α}{f:α->List Tr}{n:Int}{K:List Tr->Prop}(h0:0<=n)(h1:n < ((l.map f).length:Int))(h:∀ hl:n.toNat < l.length,K (f (l[n.toNat]'hl))):∃ (j:Nat) (ts:List Tr),n=j/\(l.map f)[j]? = some ts/\K ts:=by
 rw[Lm] at h1;have hl:n.toNat < l.length:=by omega
 exact⟨n.toNat,f l[n.toNat],by omega,by rw[bp,cD hl];rfl,h hl⟩
theorem eO {α:Type}{l:List α}{p:α->Prop}{x:α}(hx:x∈l)(h:∀ y∈l,p y):p x:=h x hx
theorem eV {α:Type}{l:List α}{p:α->Prop}{n:Nat}(hn:n < l.length)(h:∀ y∈l,p y):p (l[n]'hn):=h _ (aI hn)
theorem Rh {α:Type}{l:List α}{f:α->List Tr}{i:Int}{K:List Tr->Prop}(d:α)(b:Nat)(hb:l.length*b<=ba)(O9:Nat.blt 0 b=true)(h0:i > 0)(h1:i < ((l.map f).length:Int))(h:i.toNat - 1 < l.length->K (f (l.getD (i.toNat - 1) d))):∃ (j:Nat) (ts:List Tr),IntKind.i64.wrap (i - 1)=j/\(l.map f)[j]? = some ts/\K ts:=by
 rw[Lm] at h1;unfold ba at hb;have xw:=Nb O9;have:l.length*1<=l.length*b:=Nat.mul_le_mul (al _) xw;have hl:i.toNat - 1 < l.length:=by omega
 refine⟨i.toNat - 1,_,?_,?_,h hl⟩
 ·rw[ak];omega
 ·rw[bp,List.getD_eq_getElem?_getD,cD hl];rfl
theorem ee (id:Nat){a b:Code}{st:St}{Q:Ex->St->Prop}(_:k9 b=id)(h:ck P T N (.seq a b) st Q):ck P T N (.seq a b) st Q:=h
end
end
end Cg
namespace Go.Proofs.YtbmdcnkidjlbbaaGreat
section
open Go Cg Go.RowKit Go.Shelf
theorem cT {f:FuncId}{fn:Func}{c:Code}{dH:List AV}{rv:AV}{rs:List Row}(hf:Tryz.prog.funcs[f]?=some fn)(hb:fn.body=some c)(h1:((fn.name == "runtime.NumGoroutine")==false&&aaV fn.ntmps c)=true) (h2:(Nat.ble dH.length fn.ntmps&&(dH.all AV.plain&&(Nat.ble rs.length 128&&Bz rv rs)))=true) (h:∀ w0 O [en O],Tp ae T fn.ntmps w0 O c ⟨ka 0 dH,[],[],0⟩ (DK T fn rv rs)):Ct ae f dH rv rs false:=by
 obtain⟨h3,h4⟩:=Bool.and_eq_true_iff.1 h1;have e1:(fn.name == "runtime.NumGoroutine")=false:=by simpa using h3
 obtain⟨k1,k2⟩:=Bool.and_eq_true_iff.1 h2;obtain⟨k2,k3⟩:=Bool.and_eq_true_iff.1 k2;obtain⟨k3,k4⟩:=Bool.and_eq_true_iff.1 k3;exact bT hf hb (enters_of hf e1 hb) tabOk h4 k1 k2 k3 k4 h
theorem cX {f:FuncId}{fn:Func}{c:Code}{dH:List AV}{G:AV->List Row->Prop}(hf:Tryz.prog.funcs[f]?=some fn)(hb:fn.body=some c)(h1:((fn.name == "runtime.NumGoroutine")==false&&aaV fn.ntmps c)=true) (h2:(Nat.ble dH.length fn.ntmps&&dH.all AV.plain)=true) (h:ck ae T fn.ntmps c ⟨ka 0 dH,[],[],0⟩ (fun e st=>∃ rv rs,G rv rs/\(Nat.ble rs.length 128=true/\Bz rv rs=true)/\DK T fn rv rs e st)):∃ rv rs,G rv rs/\Ct ae f dH rv rs false:=by
 obtain⟨h3,h4⟩:=Bool.and_eq_true_iff.1 h1;have e1:(fn.name == "runtime.NumGoroutine")=false:=by simpa using h3
 obtain⟨k1,k2⟩:=Bool.and_eq_true_iff.1 h2;exact bO hf hb (enters_of hf e1 hb) tabOk h4 k1 k2 h
theorem Uz (a:Int):∃ r:Bool,True/\Ct ae 144 [.c (.t (.lit (.int .u8 a)))] (aB0 r) [] true:=by
 refine db (Φ:=fun _=>True) dc (cX Tryz.func144 rfl (by kernel_rfl) rfl (ck.bI [] [] ?_))
 repeat' (first|(apply bY <;> intro _)|(apply bL;exact Ei [] (Ai rfl (Ai trivial rfl));exact(trivial);rfl))
theorem SX (a:ByteArray):∃ r:Bool,(r=true->a.size<=32)/\Ct ae 79 [AV.s a] (aB0 r) [] true:=by
 refine db (Φ:=fun (r:Bool)=>r=true->a.size<=32) dc (cX Tryz.func79 rfl (by kernel_rfl) rfl (ck.bI [] [] ?_))
 repeat' (first|(apply bY <;> intro _)|(apply dx <;> intro _)|apply cy|(apply cS <;> intro _)|(apply bL;exact Ei [] (Ai rfl (Ai trivial rfl));exact(by intro hr;first|exact Bool.noConfusion hr|omega);rfl)|(apply eX 4 rfl;refine gP.up (β:=Unit) 4 3 (((a.size:Nat):Int)) (by first|omega|exact gV (by first|assumption|exact eO ‹_› ‹_› | exact eV _ ‹_›) rfl) (by omega) (fun _=>[]) (fun _ _=>True) [0] [] 200000 rfl ?_;refine Ai ?_ (fun _ _ _ _ _=>ck.bI [] [] ?_))|exact Ei () (Ai (trivial) (cE rfl rfl rfl rfl))|exact Ai (by first|assumption|omega) (Ei () (Ai (trivial) (cE rfl rfl rfl rfl)))|(apply zX;(first|assumption|omega|(simp only[ak];omega)|(simp only[Lm] at *;omega)|decide);(first|assumption|omega|(simp only[ak];omega)|(simp only[Lm] at *;omega)|decide);intro _)|(apply bj 144;refine cY (Uz _) ⟨rfl,trivial⟩ (fun _ _=>?_)))
def aeB:List ByteArray:=[⟨#[98,97,115,105,99]⟩,⟨#[117,110,105,113,117,101]⟩]
theorem L7:Ct ae 198 [] (.c (.row 0 0)) [⟨9,1,0,aeB.map eS,none⟩] false:=by
 refine cT Tryz.func198 rfl (by kernel_rfl) rfl fun w0 O _=>aBW [] ?_;refine Ei [(0,128)] ?_
 repeat' first|refine Ai ?_ ?_|exact rfl|exact⟨⟩|exact Ei _ rfl|refine aj ?_|refine bS ?_
def pV:List ByteArray:=[⟨#[99,114,101,97,116,117,114,101]⟩,⟨#[105,110,115,116,97,110,116]⟩,⟨#[114,105,116,117,97,108]⟩,⟨#[114,101,108,105,99]⟩,⟨#[99,104,97,114,109]⟩,⟨#[108,97,110,100]⟩]
theorem GG:Ct ae 199 [] (.c (.row 0 0)) [⟨9,1,0,pV.map eS,none⟩] false:=by
 refine cT Tryz.func199 rfl (by kernel_rfl) rfl fun w0 O _=>aBW [] ?_;refine Ei [(0,128)] ?_
 repeat' first|refine Ai ?_ ?_|exact rfl|exact⟨⟩|exact Ei _ rfl|refine aj ?_|refine bS ?_
theorem BL (a:List ByteArray)(b:ByteArray)(ha:a.length*16<=ba):∃ r:Int,True/\Ct ae 195 [.c (.t (.sl 1 (a.map eS))),AV.s b] (aBZ r) [] true:=by
 refine db (Φ:=fun _=>True) lF (cX Tryz.func195 rfl (by kernel_rfl) rfl (ck.bI [] [] ?_))
 repeat' (first|(apply bY <;> intro _)|(apply cS <;> intro _)|(apply bL;exact Ei [] (Ai rfl (Ai trivial rfl));exact(trivial);rfl)|(apply eX 2 rfl;refine gP.up (β:=Unit) 2 5 ((((a.map eS).length:Nat):Int)) (by first|omega|exact gV (by first|assumption|exact eO ‹_› ‹_› | exact eV _ ‹_›) rfl) (by omega) (fun _=>[]) (fun _ _=>True) [0,1] [] 200000 rfl ?_;refine Ai ?_ (fun _ _ _ _ _=>ck.bI [] [] ?_))|exact Ei () (Ai (trivial) (cE rfl rfl rfl rfl))|exact Ai (by first|assumption|omega) (Ei () (Ai (trivial) (cE rfl rfl rfl rfl)))|(apply jf;(first|assumption|omega|(simp only[ak,dM,aq,aw];omega)|(simp only[Lm] at *;omega)|decide);(first|assumption|omega|(simp only[ak,dM,aq,aw];omega)|(simp only[Lm] at *;omega)|decide);intro _ _))
theorem BK (a:ByteArray):∃ r:Bool,(r=true->a.size<=32)/\Ct ae 145 [AV.s a] (aB0 r) [] true:=by
 refine db (Φ:=fun (r:Bool)=>r=true->a.size<=32) dc (cX Tryz.func145 rfl (by kernel_rfl) rfl (ck.bI [] [] ?_))
 repeat' (first|(apply bY <;> intro _)|(apply cS <;> intro _)|(apply bL;exact Ei [] (Ai rfl (Ai trivial rfl));exact(by intro hr;first|exact Bool.noConfusion hr|solve_by_elim);rfl)|(apply bj 79;refine cY (SX _) ⟨rfl,trivial⟩ (fun _ _=>?_))|(apply bj 198;refine cR L7 trivial ?_)|(apply bj 199;refine cR GG trivial ?_)|(apply bj 195;refine cY (BL aeB _ (Nb rfl)) ⟨⟨rfl,rfl⟩,rfl,trivial⟩ (fun _ _=>?_))|(apply bj 195;refine cY (BL pV _ (Nb rfl)) ⟨⟨rfl,rfl⟩,rfl,trivial⟩ (fun _ _=>?_)))
theorem Uy (a:Int)(b:Int)  (hb:0<=b)(dD:b<=64):∃ r:Bool,True/\Ct ae 146 [.c (.t (iv a)),.c (.t (iv b))] (aB0 r) [] true:=by
 refine db (Φ:=fun _=>True) dc (cX Tryz.func146 rfl (by kernel_rfl) rfl (ck.bI [] [] ?_))
 repeat' (first|(apply bY <;> intro _)|(apply bL;exact Ei [] (Ai rfl (Ai trivial rfl));exact(trivial);rfl)|(apply eX 2 rfl;refine gP.up (β:=Int) 2 5 (b) (by first|omega|exact gV (by first|assumption|exact eO ‹_› ‹_› | exact eV _ ‹_›) rfl) (by omega) (fun p=>[(0,aBZ p)]) (fun _ _=>True) [1] [] 200000 rfl ?_;refine Ai ?_ (fun _ _ _ _ _=>ck.bI [] [] ?_))|exact Ei _ (Ai (trivial) (cE rfl rfl rfl rfl))|exact Ai (by first|assumption|omega) (Ei _ (Ai (trivial) (cE rfl rfl rfl rfl)))|(refine Ai rfl (Ai (by first|decide|assumption|omega) ?_)))
theorem ajV (a:jv)(_ha:a.ok):∃ r:Bool,True/\Ct ae 81 [.agg (a.enc.map .t)] (aB0 r) [] true:=by
 refine db (Φ:=fun _=>True) dc (cX Tryz.func81 rfl (by kernel_rfl) rfl (ck.bI [] [] ?_))
 repeat' (first|(apply bY <;> intro _)|apply cy|(apply cS <;> intro _)|(apply bL;exact Ei [] (Ai rfl (Ai trivial rfl));exact(trivial);rfl)|(apply eX 4 rfl;refine gP.up (β:=Unit) 4 3 ((((a.dN.map eS).length:Nat):Int)) (by first|omega|exact gV (by first|assumption|exact eO ‹_› ‹_› | exact eV _ ‹_›) rfl) (by omega) (fun _=>[]) (fun _ _=>True) [1] [0] 200000 rfl ?_;refine Ai ?_ (fun _ _ _ _ _=>ck.bI [] [] ?_))|exact Ei () (Ai (trivial) (cE rfl rfl rfl rfl))|exact Ai (by first|assumption|omega) (Ei () (Ai (trivial) (cE rfl rfl rfl rfl)))|(apply jf;(first|assumption|omega|(simp only[ak];omega)|(simp only[Lm] at *;omega)|decide);(first|assumption|omega|(simp only[ak];omega)|(simp only[Lm] at *;omega)|decide);intro _ _)|(apply bj 145;refine cY (BK _) ⟨rfl,trivial⟩ (fun _ _=>?_))|(apply bj 146;refine cY (Uy _ _ (by first|assumption|omega|(simp only[ak,dM,aq,aw];omega)|(simp only[Lm] at *;omega)|decide) (by first|assumption|omega|(simp only[ak,dM,aq,aw];omega)|(simp only[Lm] at *;omega)|decide)) ⟨rfl,rfl,trivial⟩ (fun _ _=>?_)))
theorem Yl (a:Int):∃ r:Bool,True/\Ct ae 82 [.c (.t (iv a))] (aB0 r) [] true:=by
 refine db (Φ:=fun _=>True) dc (cX Tryz.func82 rfl (by kernel_rfl) rfl (ck.bI [] [] ?_))
 repeat' (first|(apply bY <;> intro _)|(apply bL;exact Ei [] (Ai rfl (Ai trivial rfl));exact(trivial);rfl))
theorem SW (a:eB):∃ r:Bool,(r=true->(0<=a.generic/\a.generic<=99)/\(0<=a.x/\a.x<=2)/\(0<=a.fZ/\a.fZ<=9)/\(0<=a.fP/\a.fP<=9)/\(0<=a.fO/\a.fO<=9)/\(0<=a.fN/\a.fN<=9)/\(0<=a.fM/\a.fM<=9))/\Ct ae 80 [.agg (a.enc.map .t)] (aB0 r) [] true:=by
 refine db (Φ:=fun (r:Bool)=>r=true->(0<=a.generic/\a.generic<=99)/\(0<=a.x/\a.x<=2)/\(0<=a.fZ/\a.fZ<=9)/\(0<=a.fP/\a.fP<=9)/\(0<=a.fO/\a.fO<=9)/\(0<=a.fN/\a.fN<=9)/\(0<=a.fM/\a.fM<=9)) dc (cX Tryz.func80 rfl (by kernel_rfl) rfl (ck.bI [] [] ?_))
 repeat' (first|(apply bY <;> intro _)|(apply bL;exact Ei [] (Ai rfl (Ai trivial rfl));exact(by intro hr;first|exact Bool.noConfusion hr|omega|(simp only[ak] at *;omega));rfl)|(apply eX 4 rfl;refine gP.one 4 rfl (ck.bI [] [] ?_))|(apply ud;(first|assumption|omega|(simp only[ak];omega)|(simp only[Lm] at *;omega)|decide);(first|assumption|omega|(simp only[ak];omega)|(simp only[Lm] at *;omega)|decide);intro _))
theorem L4 (a:ej):∃ r:Bool,(r=true->0<=a.kind/\a.kind<=3)/\Ct ae 194 [.agg (a.enc.map .t)] (aB0 r) [] true:=by
 refine db (Φ:=fun (r:Bool)=>r=true->0<=a.kind/\a.kind<=3) dc (cX Tryz.func194 rfl (by kernel_rfl) rfl (ck.bI [] [] ?_))
 repeat' (first|(apply bY <;> intro _)|(apply dx <;> intro _)|(apply bL;exact Ei [] (Ai rfl (Ai trivial rfl));exact(by intro hr;first|exact Bool.noConfusion hr|omega);rfl))
theorem L5 (a:Int)(b:Int)(c:Int):∃ r:Bool,True/\Ct ae 193 [.c (.t (iv a)),.c (.t (iv b)),.c (.t (iv c))] (aB0 r) [] true:=by
 refine db (Φ:=fun _=>True) dc (cX Tryz.func193 rfl (by kernel_rfl) rfl (ck.bI [] [] ?_))
 repeat' (first|(apply bY <;> intro _)|(apply bL;exact Ei [] (Ai rfl (Ai trivial rfl));exact(trivial);rfl)|(apply eX 4 rfl;refine gP.up (β:=Int × Int) 4 7 (6) (by first|omega|exact gV (by first|assumption|exact eO ‹_› ‹_› | exact eV _ ‹_›) rfl) (by omega) (fun p=>[(0,aBZ p.1),(1,aBZ p.2)]) (fun _ _=>True) [] [] 200000 rfl ?_;refine Ai ?_ (fun _ p _ _ hp=>?_);rotate_left;obtain⟨p_,p_⟩:=p;(try dsimp only at hp);apply ck.bI [] [])|exact Ei ⟨_,_⟩ (Ai (trivial) (cE rfl rfl rfl rfl))|exact Ai (by first|assumption|omega) (Ei ⟨_,_⟩ (Ai (trivial) (cE rfl rfl rfl rfl)))|(refine Ai rfl (Ai (by first|decide|assumption|omega) ?_)))
theorem pT (a:cC):∃ r:Bool,(r=true->(0<=a.cg/\a.cg<=5)/\(0<=a.who/\a.who<=2)/\(0<=a.self/\a.self<=2)/\(0<=a.mY/\a.mY<=2)/\(0<=a.cV.kind/\a.cV.kind<=3)/\(0<=a.cU.kind/\a.cU.kind<=3)/\(0<=a.value.kind/\a.value.kind<=3)/\a.sub.size<=32)/\Ct ae 135 [.agg (a.enc.map .t)] (aB0 r) [] true:=by
 refine db (Φ:=fun (r:Bool)=>r=true->(0<=a.cg/\a.cg<=5)/\(0<=a.who/\a.who<=2)/\(0<=a.self/\a.self<=2)/\(0<=a.mY/\a.mY<=2)/\(0<=a.cV.kind/\a.cV.kind<=3)/\(0<=a.cU.kind/\a.cU.kind<=3)/\(0<=a.value.kind/\a.value.kind<=3)/\a.sub.size<=32) dc (cX Tryz.func135 rfl (by kernel_rfl) rfl (ck.bI [] [] ?_))
 repeat' (first|(apply bY <;> intro _)|apply cy|(apply cS <;> intro _)|(apply bL;exact Ei [] (Ai rfl (Ai trivial rfl));exact(by intro hr;first|exact Bool.noConfusion hr|(have hs:a.sub.size<=32:=by first|exact Ps ‹_› | solve_by_elim);simp_all <;> omega);rfl)|(apply bj 193;refine cY (L5 _ _ _) ⟨rfl,rfl,rfl,trivial⟩ (fun _ _=>?_))|(apply bj 145;refine cY (BK _) ⟨rfl,trivial⟩ (fun _ _=>?_))|(apply bj 194;refine cY (L4 _) ⟨fL (ej.enc _),trivial⟩ (fun _ _=>?_)))
theorem GD (a:Int):∃ r:ByteArray,(r.size<=40)/\Ct ae 241 [.c (.t (iv a))] (AV.s r) [] true:=by
 refine db (Φ:=fun (r:ByteArray)=>r.size<=40) iz (cX Tryz.func241 rfl (by kernel_rfl) rfl (ck.bI [] [] ?_))
 repeat' (first|(apply bY <;> intro _)|(apply bL;exact Ei [] (Ai rfl (Ai trivial rfl));exact(by first|exact Nb rfl|omega|(simp only[Lm] at *;omega));rfl))
theorem GH (a:Int):∃ r:ByteArray,(r.size<=40)/\Ct ae 249 [.c (.t (iv a))] (AV.s r) [] true:=by
 refine db (Φ:=fun (r:ByteArray)=>r.size<=40) iz (cX Tryz.func249 rfl (by kernel_rfl) rfl (ck.bI [] [] ?_))
 repeat' (first|(apply bY <;> intro _)|(apply bL;exact Ei [] (Ai rfl (Ai trivial rfl));exact(by first|exact Nb rfl|omega|(simp only[Lm] at *;omega));rfl))
theorem GB (a:Int):∃ r:ByteArray,(r.size<=40)/\Ct ae 200 [.c (.t (iv a))] (AV.s r) [] true:=by
 refine db (Φ:=fun (r:ByteArray)=>r.size<=40) iz (cX Tryz.func200 rfl (by kernel_rfl) rfl (ck.bI [] [] ?_))
 repeat' (first|(apply bY <;> intro _)|(apply bL;exact Ei [] (Ai rfl (Ai trivial rfl));exact(by first|exact Nb rfl|omega|(simp only[Lm] at *;omega));rfl))
theorem adY (a:Int):∃ r:Bool,True/\Ct ae 201 [.c (.t (iv a))] (aB0 r) [] true:=by
 refine db (Φ:=fun _=>True) dc (cX Tryz.func201 rfl (by kernel_rfl) rfl (ck.bI [] [] ?_))
 repeat' (first|(apply bY <;> intro _)|(apply bL;exact Ei [] (Ai rfl (Ai trivial rfl));exact(trivial);rfl))
theorem zq (a:Int):∃ r:Bool,True/\Ct ae 202 [.c (.t (iv a))] (aB0 r) [] true:=by
 refine db (Φ:=fun _=>True) dc (cX Tryz.func202 rfl (by kernel_rfl) rfl (ck.bI [] [] ?_))
 repeat' (first|apply cy|(apply cS <;> intro _)|(apply bL;exact Ei [] (Ai rfl (Ai trivial rfl));exact(trivial);rfl)|(apply bj 200;refine cY (GB _) ⟨rfl,trivial⟩ (fun _ _=>?_))|(apply bj 201;refine cY (adY _) ⟨rfl,trivial⟩ (fun _ _=>?_)))
theorem Yh (a:eh):∃ r:Bool,True/\Ct ae 148 [.agg (a.enc.map .t)] (aB0 r) [] true:=by
 refine db (Φ:=fun _=>True) dc (cX Tryz.func148 rfl (by kernel_rfl) rfl (ck.bI [] [] ?_))
 repeat' (first|(apply bY <;> intro _)|(apply dx <;> intro _)|apply cy|(apply cS <;> intro _)|(apply bL;exact Ei [] (Ai rfl (Ai trivial rfl));exact(trivial);rfl)|(apply bj 200;refine cY (GB _) ⟨rfl,trivial⟩ (fun _ _=>?_))|(apply bj 201;refine cY (adY _) ⟨rfl,trivial⟩ (fun _ _=>?_))|(apply bj 202;refine cY (zq _) ⟨rfl,trivial⟩ (fun _ _=>?_))|(apply bj 135;refine cY (pT _) ⟨fL (cC.enc _),trivial⟩ (fun _ _=>?_)))
theorem BF (a:cC):∃ r:Bool,True/\Ct ae 205 [.agg (a.enc.map .t)] (aB0 r) [] true:=by
 refine db (Φ:=fun _=>True) dc (cX Tryz.func205 rfl (by kernel_rfl) rfl (ck.bI [] [] ?_))
 repeat' (first|(apply cS <;> intro _)|(apply bL;exact Ei [] (Ai rfl (Ai trivial rfl));exact(trivial);rfl)|(apply bj 135;refine cY (pT _) ⟨fL (cC.enc _),trivial⟩ (fun _ _=>?_)))
theorem LX (a:gE):∃ r:Bool,True/\Ct ae 204 [.agg (a.enc.map .t)] (aB0 r) [] true:=by
 refine db (Φ:=fun _=>True) dc (cX Tryz.func204 rfl (by kernel_rfl) rfl (ck.bI [] [] ?_))
 repeat' (first|(apply bY <;> intro _)|(apply dx <;> intro _)|(apply bL;exact Ei [] (Ai rfl (Ai trivial rfl));exact(trivial);rfl))
theorem LY (a:gE):∃ r:Bool,True/\Ct ae 203 [.agg (a.enc.map .t)] (aB0 r) [] true:=by
 refine db (Φ:=fun _=>True) dc (cX Tryz.func203 rfl (by kernel_rfl) rfl (ck.bI [] [] ?_))
 repeat' (first|(apply bY <;> intro _)|(apply dx <;> intro _)|apply cy|(apply cS <;> intro _)|(apply bL;exact Ei [] (Ai rfl (Ai trivial rfl));exact(trivial);rfl)|(apply bj 205;refine cY (BF _) ⟨fL (cC.enc _),trivial⟩ (fun _ _=>?_)))
theorem Yg (a:gE):∃ r:Bool,True/\Ct ae 149 [.agg (a.enc.map .t)] (aB0 r) [] true:=by
 refine db (Φ:=fun _=>True) dc (cX Tryz.func149 rfl (by kernel_rfl) rfl (ck.bI [] [] ?_))
 repeat' (first|(apply bY <;> intro _)|(apply dx <;> intro _)|apply cy|(apply cS <;> intro _)|(apply bL;exact Ei [] (Ai rfl (Ai trivial rfl));exact(trivial);rfl)|(apply bj 203;refine cY (LY _) ⟨fL (gE.enc _),trivial⟩ (fun _ _=>?_))|(apply bj 204;refine cY (LX _) ⟨fL (gE.enc _),trivial⟩ (fun _ _=>?_))|(apply bj 205;refine cY (BF _) ⟨fL (cC.enc _),trivial⟩ (fun _ _=>?_)))
theorem PV (a:jL):∃ r:Bool,True/\Ct ae 206 [.agg (a.enc.map .t)] (aB0 r) [] true:=by
 refine db (Φ:=fun _=>True) dc (cX Tryz.func206 rfl (by kernel_rfl) rfl (ck.bI [] [] ?_))
 repeat' (first|(apply bY <;> intro _)|apply cy|(apply cS <;> intro _)|(apply bL;exact Ei [] (Ai rfl (Ai trivial rfl));exact(trivial);rfl)|(apply bj 135;refine cY (pT _) ⟨fL (cC.enc _),trivial⟩ (fun _ _=>?_)))
theorem LV (a:List jL)(ha:a.length*144<=ba):∃ r:Bool,True/\Ct ae 150 [.c (.t (.sl 18 (a.map jL.enc)))] (aB0 r) [] true:=by
 refine db (Φ:=fun _=>True) dc (cX Tryz.func150 rfl (by kernel_rfl) rfl (ck.bI [] [] ?_))
 repeat' (first|(apply bY <;> intro _)|apply cy|(apply cS <;> intro _)|(apply bL;exact Ei [] (Ai rfl (Ai trivial rfl));exact(trivial);rfl)|(apply eX 2 rfl;refine gP.up (β:=Unit) 2 3 ((((a.map jL.enc).length:Nat):Int)) (by first|omega|exact gV (by first|assumption|exact eO ‹_› ‹_› | exact eV _ ‹_›) rfl) (by omega) (fun _=>[]) (fun _ _=>True) [0] [] 200000 rfl ?_;refine Ai ?_ (fun _ _ _ _ _=>ck.bI [] [] ?_))|exact Ei () (Ai (trivial) (cE rfl rfl rfl rfl))|exact Ai (by first|assumption|omega) (Ei () (Ai (trivial) (cE rfl rfl rfl rfl)))|(apply jf;(first|assumption|omega|(simp only[ak,dM,aq,aw];omega)|(simp only[Lm] at *;omega)|decide);(first|assumption|omega|(simp only[ak,dM,aq,aw];omega)|(simp only[Lm] at *;omega)|decide);intro _ _)|(apply bj 206;refine cY (PV _) ⟨fL (jL.enc _),trivial⟩ (fun _ _=>?_)))
theorem LW (a:pv):∃ r:Bool,True/\Ct ae 147 [.agg (a.enc.map .t)] (aB0 r) [] true:=by
 refine db (Φ:=fun _=>True) dc (cX Tryz.func147 rfl (by kernel_rfl) rfl (ck.bI [] [] ?_))
 repeat' (first|(apply bY <;> intro _)|(apply cS <;> intro _)|(apply bL;exact Ei [] (Ai rfl (Ai trivial rfl));exact(trivial);rfl)|(apply bj 80;refine cY (SW _) ⟨fL (eB.enc _),trivial⟩ (fun _ _=>?_)))
theorem BH (a:Int):∃ r:Bool,True/\Ct ae 272 [.c (.t (iv a))] (aB0 r) [] true:=by
 refine db (Φ:=fun _=>True) dc (cX Tryz.func272 rfl (by kernel_rfl) rfl (ck.bI [] [] ?_))
 repeat' (first|(apply bY <;> intro _)|(apply bL;exact Ei [] (Ai rfl (Ai trivial rfl));exact(trivial);rfl))
theorem Yj (a:F5)(b:Int):∃ r:Bool,True/\Ct ae 240 [.agg (a.enc.map .t),.c (.t (iv b))] (aB0 r) [] true:=by
 refine db (Φ:=fun _=>True) dc (cX Tryz.func240 rfl (by kernel_rfl) rfl (ck.bI [] [] ?_))
 repeat' (first|(apply bY <;> intro _)|(apply dx <;> intro _)|(apply cS <;> intro _)|(apply bL;exact Ei [] (Ai rfl (Ai trivial rfl));exact(trivial);rfl)|(apply bj 272;refine cY (BH _) ⟨rfl,trivial⟩ (fun _ _=>?_))|(apply bj 135;refine cY (pT _) ⟨fL (cC.enc _),trivial⟩ (fun _ _=>?_)))
theorem Yk (a:mG):∃ r:Bool,True/\Ct ae 242 [.agg (a.enc.map .t)] (aB0 r) [] true:=by
 refine db (Φ:=fun _=>True) dc (cX Tryz.func242 rfl (by kernel_rfl) rfl (ck.bI [] [] ?_))
 repeat' (first|(apply bY <;> intro _)|apply cy|(apply cS <;> intro _)|(apply bL;exact Ei [] (Ai rfl (Ai trivial rfl));exact(trivial);rfl)|(apply bj 135;refine cY (pT _) ⟨fL (cC.enc _),trivial⟩ (fun _ _=>?_))|(apply bj 241;refine cY (GD _) ⟨rfl,trivial⟩ (fun _ _=>?_)))
theorem I4 (a:Int)(b:cC):∃ r:Bool,True/\Ct ae 245 [.c (.t (iv a)),.agg (b.enc.map .t)] (aB0 r) [] true:=by
 refine db (Φ:=fun _=>True) dc (cX Tryz.func245 rfl (by kernel_rfl) rfl (ck.bI [] [] ?_))
 repeat' (first|(apply bY <;> intro _)|(apply cS <;> intro _)|(apply bL;exact Ei [] (Ai rfl (Ai trivial rfl));exact(trivial);rfl)|(apply bj 135;refine cY (pT _) ⟨fL (cC.enc _),trivial⟩ (fun _ _=>?_)))
theorem PX (a:Int):∃ r:ByteArray,(r.size<=40)/\Ct ae 238 [.c (.t (iv a))] (AV.s r) [] true:=by
 refine db (Φ:=fun (r:ByteArray)=>r.size<=40) iz (cX Tryz.func238 rfl (by kernel_rfl) rfl (ck.bI [] [] ?_))
 repeat' (first|(apply bY <;> intro _)|(apply bL;exact Ei [] (Ai rfl (Ai trivial rfl));exact(by first|exact Nb rfl|omega|(simp only[Lm] at *;omega));rfl)|(apply ud;(first|assumption|omega|(simp only[ak];omega)|(simp only[Lm] at *;omega)|decide);(first|assumption|omega|(simp only[ak,aq,aw];omega)|(simp only[Lm] at *;omega)|decide);intro _)|(apply Fh;exact rfl;assumption;exact rfl;intro _ _))
theorem P1 (a:Int):∃ r:ByteArray,(r.size<=40)/\Ct ae 271 [.c (.t (iv a))] (AV.s r) [] true:=by
 refine db (Φ:=fun (r:ByteArray)=>r.size<=40) iz (cX Tryz.func271 rfl (by kernel_rfl) rfl (ck.bI [] [1009,1014,1029,30] ?_))
 repeat' (first|(apply bY <;> intro _)|(apply cS <;> intro _)|(apply bL;exact Ei [] (Ai rfl (Ai trivial rfl));exact(by first|exact Nb rfl|omega|(simp only[Lm] at *;omega));rfl)|(apply ee 1009 rfl;refine ck.cut (α:=Bool) 1009 (fun p=>[(4,aB0 p)]) (fun _=>True) [3] [] 200000 rfl ?_;refine Ai (ck.bI [] [1009,1014,1029,30] ?_) (fun _ _=>ck.bI [] [1009,1014,1029,30] ?_))|(apply ee 1014 rfl;refine ck.cut (α:=Bool) 1014 (fun p=>[(14,aB0 p)]) (fun _=>True) [3] [] 300000 rfl ?_;refine Ai (ck.bI [] [1009,1014,1029,30] ?_) (fun _ _=>ck.bI [] [1009,1014,1029,30] ?_))|(apply ee 1029 rfl;refine ck.cut (α:=Bool) 1029 (fun p=>[(29,aB0 p)]) (fun _=>True) [] [] 400000 rfl ?_;refine Ai (ck.bI [] [1009,1014,1029,30] ?_) (fun _ _=>ck.bI [] [1009,1014,1029,30] ?_))|(apply ee 30 rfl;refine ck.cut (α:=Unit) 30 (fun _=>[]) (fun _=>True) [] [] 500000 rfl ?_;refine Ai (ck.bI [] [1009,1014,1029,30] ?_) (fun _ _=>ck.bI [] [1009,1014,1029,30] ?_))|exact Ei () (Ai (trivial) (cE rfl rfl rfl rfl))|exact Ei _ (Ai (trivial) (cE rfl rfl rfl rfl)))
theorem PY (a:Int)(b:Int):∃ r:Bool,True/\Ct ae 239 [.c (.t (iv a)),.c (.t (.lit (.int .u8 b)))] (aB0 r) [] true:=by
 refine db (Φ:=fun _=>True) dc (cX Tryz.func239 rfl (by kernel_rfl) rfl (ck.bI [] [] ?_))
 repeat' (first|(apply bY <;> intro _)|(apply bL;exact Ei [] (Ai rfl (Ai trivial rfl));exact(trivial);rfl)|(apply eX 3 rfl;rename_i s hs;refine gP.up (β:=Unit) 3 6 (((s.size:Nat):Int)) (by first|omega|exact gV (by first|assumption|exact eO ‹_› ‹_› | exact eV _ ‹_›) rfl) (by omega) (fun _=>[]) (fun _ _=>True) [1,5] [] 200000 rfl ?_;refine Ai ?_ (fun _ _ _ _ _=>ck.bI [] [] ?_))|exact Ei () (Ai (trivial) (cE rfl rfl rfl rfl))|exact Ai (by first|assumption|omega) (Ei () (Ai (trivial) (cE rfl rfl rfl rfl)))|(apply zX;(first|assumption|omega|(simp only[ak,dM,aq,aw];omega)|(simp only[Lm] at *;omega)|decide);(first|assumption|omega|(simp only[ak,dM,aq,aw];omega)|(simp only[Lm] at *;omega)|decide);intro _)|(apply bj 271;refine cY (P1 _) ⟨rfl,trivial⟩ (fun _ _=>?_)))
theorem Qz {c:UInt8}{s:ByteArray}{R:Prop}(h:s.size<=9223372036854775806)(hk:((⟨[c].toArray⟩:ByteArray)++s).size=1+s.size->R):(⟨[c].toArray⟩:ByteArray).size+s.size<=9223372036854775807/\R:=qy (by have:(⟨[c].toArray⟩:ByteArray).size=1:=rfl;omega) hk
theorem Jc (u:Int)(h0:0<=u)(_h1:u < 18446744073709551616):∃ r:ByteArray,r.size<=70/\Ct ae 260 [.c (.t (.lit (.int .u64 u)))] (AV.s r) [] true:=by
 refine db (Φ:=fun (r:ByteArray)=>r.size<=70) iz (cX Tryz.func260 rfl (by kernel_rfl) rfl (ck.bI [] [] ?_));refine Ai rfl (Ai (by decide) ?_);refine Ai rfl (Ai (by decide) ?_);refine gP.at (α:=Int × ByteArray × Nat) 3 (fun p=>[(0,.c (.t (.lit (.int .u64 p.1)))),(3,AV.s p.2.1)]) (fun p=>0<=p.1/\p.1 < 2 ^ p.2.2/\p.2.1.size+p.2.2<=66) (fun p=>p.2.2) [] [] 100000 rfl ?_;refine Ai (Ei (_,_,64) (Ai ?_ (cE rfl rfl rfl rfl))) ?_
 ·have hd:u.tdiv 10=u / 10:=Int.tdiv_eq_ediv_of_nonneg h0;show 0<=IntKind.u64.wrap (u.tdiv 10)/\IntKind.u64.wrap (u.tdiv 10) < 18446744073709551616/\_;refine⟨?_,?_,Nb rfl⟩
  ·simp only[dM,hd];omega
  ·simp only[dM,hd];omega
 rintro⟨n,s,k⟩ ⟨g0,g1,g2⟩;simp only at g0 g1 g2;refine ck.bI [] [] ?_;refine bY (fun hn=>?_) (fun _=>?_)
 ·have hk:∃ j,k=j+1:=by
   cases k with
   | zero=>simp at g1;omega
   | succ j=>exact⟨j,rfl⟩
  obtain⟨j,rfl⟩:=hk;have g3:n < 2 ^ j*2:=by rw[<- Int.pow_succ];exact g1
  have hj:(0:Int) < 2 ^ j:=Int.pow_pos (by decide);have hd:n.tdiv 10=n / 10:=Int.tdiv_eq_ediv_of_nonneg g0;refine Ai rfl (Ai (by decide) ?_);refine Qz (s:=s) (by omega) (fun hs=>?_);refine Ai rfl (Ai (by decide) ?_);refine Ei (_,_,j) (Ai (Ai ⟨?_,?_,?_⟩ (Nat.lt_succ_self j)) (cE rfl rfl rfl rfl))
  ·simp only[hd];omega
  ·show IntKind.u64.wrap (n.tdiv 10) < 2 ^ j;rw[hd,dM];have h8:n / 10 % 18446744073709551616<=n / 10:=by omega
   omega
  ·exact bd (Nat.add_le_add_right (Nat.le_of_eq hs) j) (show 1+s.size+j<=66 by omega)
 ·exact bL s (Ei [] (Ai rfl (Ai trivial rfl))) (by omega) rfl
theorem zu (a:Int):∃ r:ByteArray,(r.size<=110)/\Ct ae 216 [.c (.t (iv a))] (AV.s r) [] true:=by
 refine db (Φ:=fun (r:ByteArray)=>r.size<=110) iz (cX Tryz.func216 rfl (by kernel_rfl) rfl (ck.bI [] [] ?_))
 repeat' (first|(apply bY <;> intro _)|(apply bL;exact Ei [] (Ai rfl (Ai trivial rfl));exact(by first|exact Nb rfl|((try dsimp only at *);omega)|exact Int.le_refl 0|(simp only[Lm] at *;omega));rfl)|(apply Il;exact rfl;(first|exact Nb rfl|omega|(simp only[Lm] at *;omega));intro _)|(apply bj 260;refine cY (Jc _ (by first|assumption|omega|(simp only[dM];omega)|(simp only[Lm] at *;omega)|decide) (by first|assumption|omega|(simp only[dM];omega)|(simp only[Lm] at *;omega)|decide)) ⟨rfl,trivial⟩ (fun _ _=>?_)))
theorem Qh (a:List ByteArray)(b:ByteArray)(ha:a.length*16<=ba)(hs:∀ y∈a,y.size<=2000)(hn:a.length<=100)(hc:b.size<=10):∃ r:ByteArray,(r.size<=201000)/\Ct ae 259 [.c (.t (.sl 1 (a.map eS))),AV.s b] (AV.s r) [] true:=by
 refine db (Φ:=fun (r:ByteArray)=>r.size<=201000) iz (cX Tryz.func259 rfl (by kernel_rfl) rfl (ck.bI [] [] ?_))
 repeat' (first|(apply Tm hs;(first|assumption|omega|(simp only[ak,dM,aq,aw];omega)|(simp only[Lm] at *;omega)|decide);(first|assumption|omega|(simp only[ak,dM,aq,aw];omega)|(simp only[Lm] at *;omega)|decide);intro _ _ _)|(apply bY <;> intro _)|(apply bL;exact Ei [] (Ai rfl (Ai trivial rfl));exact(by first|exact Nb rfl|((try dsimp only at *);omega)|exact Int.le_refl 0|(simp only[Lm] at *;omega));rfl)|(apply eX 3 rfl;refine gP.up (β:=ByteArray) 3 6 ((((a.map eS).length:Nat):Int)) (by first|omega|exact gV (by first|assumption|exact eO ‹_› ‹_› | exact eV _ ‹_›) rfl) (by omega) (fun p=>[(5,AV.s p)]) (fun i (p:ByteArray)=>(p.size:Int)<=i*2010) [0,1] [] 200000 rfl ?_;refine Ai ?_ (fun _ _ _ _ _=>ck.bI [] [] ?_))|exact Ei _ (Ai (by first|exact Nb rfl|((try dsimp only at *);omega)|exact Int.le_refl 0|(simp only[Lm] at *;omega)) (cE rfl rfl rfl rfl))|exact Ai (by first|assumption|omega) (Ei _ (Ai (by first|exact Nb rfl|((try dsimp only at *);omega)|exact Int.le_refl 0|(simp only[Lm] at *;omega)) (cE rfl rfl rfl rfl)))|(apply qy;(first|exact Nb rfl|omega|(simp only[Lm] at *;omega));intro _))
theorem I8 (a:List ByteArray)(b:Int)(c:ByteArray)(ha:a.length*16<=ba)(hs:∀ y∈a,y.size<=40)(hn:a.length<=20)(hc:c.size<=10):∃ r:ByteArray,(r.size<=1000)/\Ct ae 247 [.c (.t (.sl 1 (a.map eS))),.c (.t (iv b)),AV.s c] (AV.s r) [] true:=by
 refine db (Φ:=fun (r:ByteArray)=>r.size<=1000) iz (cX Tryz.func247 rfl (by kernel_rfl) rfl (ck.bI [] [] ?_))
 repeat' (first|(apply Tm hs;(first|assumption|omega|(simp only[ak,dM,aq,aw];omega)|(simp only[Lm] at *;omega)|decide);(first|assumption|omega|(simp only[ak,dM,aq,aw];omega)|(simp only[Lm] at *;omega)|decide);intro _ _ _)|(apply bY <;> intro _)|apply cy|(apply cS <;> intro _)|(apply bL;exact Ei [] (Ai rfl (Ai trivial rfl));exact(by first|exact Nb rfl|((try dsimp only at *);omega)|exact Int.le_refl 0|(simp only[Lm] at *;omega));rfl)|(apply eX 3 rfl;refine gP.up (β:=ByteArray) 3 8 ((((a.map eS).length:Nat):Int)) (by first|omega|exact gV (by first|assumption|exact eO ‹_› ‹_› | exact eV _ ‹_›) rfl) (by omega) (fun p=>[(7,AV.s p)]) (fun i (p:ByteArray)=>(p.size:Int)<=i*50) [0,1,2] [] 200000 rfl ?_;refine Ai ?_ (fun _ _ _ _ _=>ck.bI [] [] ?_))|exact Ei _ (Ai (by first|exact Nb rfl|((try dsimp only at *);omega)|exact Int.le_refl 0|(simp only[Lm] at *;omega)) (cE rfl rfl rfl rfl))|exact Ai (by first|assumption|omega) (Ei _ (Ai (by first|exact Nb rfl|((try dsimp only at *);omega)|exact Int.le_refl 0|(simp only[Lm] at *;omega)) (cE rfl rfl rfl rfl)))|(apply qy;(first|exact Nb rfl|omega|(simp only[Lm] at *;omega));intro _)|(apply bj 146;refine cY (Uy _ _ (by first|assumption|omega|(simp only[ak,dM,aq,aw];omega)|(simp only[Lm] at *;omega)|decide) (by first|assumption|omega|(simp only[ak,dM,aq,aw];omega)|(simp only[Lm] at *;omega)|decide)) ⟨rfl,rfl,trivial⟩ (fun _ _=>?_)))
theorem EE:∀ y∈pV,y.size<=40:=by decide
theorem pU (a:Int):∃ r:ByteArray,(r.size<=1000)/\Ct ae 212 [.c (.t (iv a))] (AV.s r) [] true:=by
 refine db (Φ:=fun (r:ByteArray)=>r.size<=1000) iz (cX Tryz.func212 rfl (by kernel_rfl) rfl (ck.bI [] [] ?_))
 repeat' (first|(apply bY <;> intro _)|(apply bL;exact Ei [] (Ai rfl (Ai trivial rfl));exact(by first|exact Nb rfl|((try dsimp only at *);omega)|exact Int.le_refl 0|(simp only[Lm] at *;omega));rfl)|(apply bj 199;refine cR GG trivial ?_)|(apply bj 247;refine cY (I8 pV _ _ (Nb rfl) EE (Nb rfl) (Nb rfl)) ⟨⟨rfl,rfl⟩,rfl,rfl,trivial⟩ (fun _ _=>?_)))
theorem Ym (a:Int):∃ r:Bool,True/\Ct ae 248 [.c (.t (iv a))] (aB0 r) [] true:=by
 refine db (Φ:=fun _=>True) dc (cX Tryz.func248 rfl (by kernel_rfl) rfl (ck.bI [] [] ?_))
 repeat' (first|(apply bY <;> intro _)|(apply bL;exact Ei [] (Ai rfl (Ai trivial rfl));exact(trivial);rfl))
theorem Qc (a:Int):∃ r:ByteArray,(r.size<=500)/\Ct ae 213 [.c (.t (iv a))] (AV.s r) [] true:=by
 refine db (Φ:=fun (r:ByteArray)=>r.size<=500) iz (cX Tryz.func213 rfl (by kernel_rfl) rfl (ck.bI [] [] ?_))
 repeat' (first|(apply bY <;> intro _)|apply cy|(apply cS <;> intro _)|(apply bL;exact Ei [] (Ai rfl (Ai trivial rfl));exact(by first|exact Nb rfl|((try dsimp only at *);omega)|exact Int.le_refl 0|(simp only[Lm] at *;omega));rfl)|(apply eX 7 rfl;refine gP.up (β:=ByteArray) 7 4 (5) (by first|omega|exact gV (by first|assumption|exact eO ‹_› ‹_› | exact eV _ ‹_›) rfl) (by omega) (fun p=>[(3,AV.s p)]) (fun i (p:ByteArray)=>(p.size:Int)<=i*90) [0] [] 200000 rfl ?_;refine Ai ?_ ?_;rotate_left;intro i p h0 h1 hp;(rcases(by omega:i=0\/i=1\/i=2\/i=3\/i=4\/i=5) with rfl|rfl|rfl|rfl|rfl|rfl) <;> apply ck.bI [] [])|exact Ei _ (Ai (by first|exact Nb rfl|((try dsimp only at *);omega)|exact Int.le_refl 0|(simp only[Lm] at *;omega)) (cE rfl rfl rfl rfl))|exact Ai (by first|assumption|omega) (Ei _ (Ai (by first|exact Nb rfl|((try dsimp only at *);omega)|exact Int.le_refl 0|(simp only[Lm] at *;omega)) (cE rfl rfl rfl rfl)))|(apply Dh;exact rfl;(first|exact Nb rfl|omega|(simp only[Lm] at *;omega));intro _)|(apply qy;(first|exact Nb rfl|omega|(simp only[Lm] at *;omega));intro _)|(refine Ai rfl (Ai (by first|decide|assumption|omega) ?_))|(apply bj 248;refine cY (Ym _) ⟨rfl,trivial⟩ (fun _ _=>?_))|(apply bj 249;refine cY (GH _) ⟨rfl,trivial⟩ (fun _ _=>?_)))
theorem L6:Ct ae 275 [] (.c (.row 0 0)) [⟨9,1,0,[eS ⟨#[102,108,121,105,110,103]⟩,eS ⟨#[114,101,97,99,104]⟩,eS ⟨#[104,97,115,116,101]⟩,eS ⟨#[118,105,103,105,108,97,110,116]⟩,eS ⟨#[116,114,97,109,112,108,101]⟩,eS ⟨#[102,105,114,115,116,45,115,116,114,105,107,101]⟩,eS ⟨#[100,111,117,98,108,101,45,115,116,114,105,107,101]⟩,eS ⟨#[100,101,97,100,108,121]⟩,eS ⟨#[108,105,102,101,108,105,110,107]⟩,eS ⟨#[109,101,110,97,99,101]⟩,eS ⟨#[100,101,102,101,110,100,101,114]⟩,eS ⟨#[119,97,114,100,101,100]⟩,eS ⟨#[115,116,117,114,100,121]⟩,eS ⟨#[101,108,117,115,105,118,101]⟩,eS ⟨#[110,111,45,97,116,116,97,99,107]⟩,eS ⟨#[110,111,45,98,108,111,99,107]⟩,eS ⟨#[109,117,115,116,45,97,116,116,97,99,107]⟩],none⟩] false:=by
 refine cT Tryz.func275 rfl (by kernel_rfl) rfl fun w0 O _=>aBW [] ?_;refine Ei [(0,128)] ?_
 repeat' first|refine Ai ?_ ?_|exact rfl|exact⟨⟩|exact Ei _ rfl|refine aj ?_|refine bS ?_
theorem GF (a:Int):∃ r:ByteArray,(r.size<=40)/\Ct ae 250 [.c (.t (iv a))] (AV.s r) [] true:=by
 refine db (Φ:=fun (r:ByteArray)=>r.size<=40) iz (cX Tryz.func250 rfl (by kernel_rfl) rfl (ck.bI [] [] ?_))
 repeat' (first|(apply bY <;> intro _)|(apply bL;exact Ei [] (Ai rfl (Ai trivial rfl));exact(by first|exact Nb rfl|((try dsimp only at *);omega)|exact Int.le_refl 0|(simp only[Lm] at *;omega));rfl)|(apply bj 275;refine cR L6 trivial ?_)|(apply ud;(first|assumption|omega|(simp only[ak,dM,aq,aw];omega)|(simp only[Lm] at *;omega)|decide);(first|assumption|omega|(simp only[aq,aw];omega)|(simp only[Lm] at *;omega)|decide);intro _)|(apply Fh;exact rfl;assumption;exact rfl;intro _ _))
theorem P9 (a:Int):∃ r:ByteArray,(r.size<=2000)/\Ct ae 214 [.c (.t (iv a))] (AV.s r) [] true:=by
 refine db (Φ:=fun (r:ByteArray)=>r.size<=2000) iz (cX Tryz.func214 rfl (by kernel_rfl) rfl (ck.bI [] [] ?_))
 repeat' (first|(apply bY <;> intro _)|apply cy|(apply cS <;> intro _)|(apply bL;exact Ei [] (Ai rfl (Ai trivial rfl));exact(by first|exact Nb rfl|((try dsimp only at *);omega)|exact Int.le_refl 0|(simp only[Lm] at *;omega));rfl)|(apply eX 5 rfl;refine gP.up (β:=Int × ByteArray) 5 4 (17) (by first|omega|exact gV (by first|assumption|exact eO ‹_› ‹_› | exact eV _ ‹_›) rfl) (by omega) (fun p=>[(0,aBZ p.1),(3,AV.s p.2)]) (fun i p=>(p.2.size:Int)<=i*90) [] [] 200000 rfl ?_;refine Ai ?_ (fun _ p _ _ hp=>?_);rotate_left;obtain⟨p_,p_⟩:=p;(try dsimp only at hp);apply ck.bI [] [])|exact Ei ⟨_,_⟩ (Ai (by first|exact Nb rfl|((try dsimp only at *);omega)|exact Int.le_refl 0|(simp only[Lm] at *;omega)) (cE rfl rfl rfl rfl))|exact Ai (by first|assumption|omega) (Ei ⟨_,_⟩ (Ai (by first|exact Nb rfl|((try dsimp only at *);omega)|exact Int.le_refl 0|(simp only[Lm] at *;omega)) (cE rfl rfl rfl rfl)))|(apply Dh;exact rfl;(first|exact Nb rfl|omega|(simp only at *;omega));intro _)|(apply qy;(first|exact Nb rfl|omega|(simp only at *;omega));intro _)|(refine Ai rfl (Ai (by first|decide|assumption|omega) ?_))|(apply bj 82;refine cY (Yl _) ⟨rfl,trivial⟩ (fun _ _=>?_))|(apply bj 250;refine cY (GF _) ⟨rfl,trivial⟩ (fun _ _=>?_)))
theorem P4:Ct ae 251 [] (.c (.row 0 0)) [⟨9,1,0,[eS ⟨#[]⟩,eS ⟨#[105,110,45,104,97,110,100]⟩,eS ⟨#[105,110,45,108,105,98,114,97,114,121]⟩,eS ⟨#[105,110,45,103,114,97,118,101,121,97,114,100]⟩,eS ⟨#[105,110,45,101,120,105,108,101]⟩,eS ⟨#[111,110,45,115,116,97,99,107]⟩],none⟩] false:=by
 refine cT Tryz.func251 rfl (by kernel_rfl) rfl fun w0 O _=>aBW [] ?_;refine Ei [(0,128)] ?_
 repeat' first|refine Ai ?_ ?_|exact rfl|exact⟨⟩|exact Ei _ rfl|refine aj ?_|refine bS ?_
theorem Ut:Ct ae 252 [] (.c (.row 0 0)) [⟨9,1,0,[eS ⟨#[]⟩,eS ⟨#[121,111,117,114,115]⟩,eS ⟨#[116,104,101,105,114,115]⟩],none⟩] false:=by
 refine cT Tryz.func252 rfl (by kernel_rfl) rfl fun w0 O _=>aBW [] ?_;refine Ei [(0,128)] ?_
 repeat' first|refine Ai ?_ ?_|exact rfl|exact⟨⟩|exact Ei _ rfl|refine aj ?_|refine bS ?_
theorem P6:Ct ae 253 [] (.c (.row 0 0)) [⟨9,1,0,[eS ⟨#[]⟩,eS ⟨#[115,101,108,102]⟩,eS ⟨#[111,116,104,101,114]⟩],none⟩] false:=by
 refine cT Tryz.func253 rfl (by kernel_rfl) rfl fun w0 O _=>aBW [] ?_;refine Ei [(0,128)] ?_
 repeat' first|refine Ai ?_ ?_|exact rfl|exact⟨⟩|exact Ei _ rfl|refine aj ?_|refine bS ?_
theorem Uu:Ct ae 254 [] (.c (.row 0 0)) [⟨9,1,0,[eS ⟨#[]⟩,eS ⟨#[116,97,112,112,101,100]⟩,eS ⟨#[117,110,116,97,112,112,101,100]⟩],none⟩] false:=by
 refine cT Tryz.func254 rfl (by kernel_rfl) rfl fun w0 O _=>aBW [] ?_;refine Ei [(0,128)] ?_
 repeat' first|refine Ai ?_ ?_|exact rfl|exact⟨⟩|exact Ei _ rfl|refine aj ?_|refine bS ?_
theorem L3:Ct ae 276 [] (.c (.row 0 0)) [⟨9,1,0,[eS ⟨#[]⟩,eS ⟨#[62,61]⟩,eS ⟨#[60,61]⟩,eS ⟨#[61]⟩],none⟩] false:=by
 refine cT Tryz.func276 rfl (by kernel_rfl) rfl fun w0 O _=>aBW [] ?_;refine Ei [(0,128)] ?_
 repeat' first|refine Ai ?_ ?_|exact rfl|exact⟨⟩|exact Ei _ rfl|refine aj ?_|refine bS ?_
theorem Uv (a:Int)(b:Int)  (hb:0<=b)(dD:b<=64):∃ r:Bool,True/\Ct ae 256 [.c (.t (iv a)),.c (.t (iv b))] (aB0 r) [] true:=by
 refine db (Φ:=fun _=>True) dc (cX Tryz.func256 rfl (by kernel_rfl) rfl (ck.bI [] [] ?_))
 repeat' (first|(apply bY <;> intro _)|(apply bL;exact Ei [] (Ai rfl (Ai trivial rfl));exact(trivial);rfl)|(apply eX 2 rfl;refine gP.up (β:=Int) 2 5 (b) (by first|omega|exact gV (by first|assumption|exact eO ‹_› ‹_› | exact eV _ ‹_›) rfl) (by omega) (fun p=>[(0,aBZ p)]) (fun _ _=>True) [1] [] 200000 rfl ?_;refine Ai ?_ (fun _ _ _ _ _=>ck.bI [] [] ?_))|exact Ei _ (Ai (trivial) (cE rfl rfl rfl rfl))|exact Ai (by first|assumption|omega) (Ei _ (Ai (trivial) (cE rfl rfl rfl rfl)))|(refine Ai rfl (Ai (by first|decide|assumption|omega) ?_)))
theorem BI (a:Int)  (ha:0<=a)(FG:a<=64):∃ r:ByteArray,(r.size<=1000)/\Ct ae 257 [.c (.t (iv a))] (AV.s r) [] true:=by
 refine db (Φ:=fun (r:ByteArray)=>r.size<=1000) iz (cX Tryz.func257 rfl (by kernel_rfl) rfl (ck.bI [] [] ?_))
 repeat' (first|(apply bY <;> intro _)|(apply bL;exact Ei [] (Ai rfl (Ai trivial rfl));exact(by first|exact Nb rfl|((try dsimp only at *);omega)|exact Int.le_refl 0|(simp only[Lm] at *;omega));rfl)|(apply eX 3 rfl;refine gP.up (β:=Int) 3 4 (a) (by first|omega|exact gV (by first|assumption|exact eO ‹_› ‹_› | exact eV _ ‹_›) rfl) (by omega) (fun p=>[(3,aBZ p)]) (fun _ _=>True) [0] [] 200000 rfl ?_;refine Ai ?_ (fun _ _ _ _ _=>ck.bI [] [] ?_))|exact Ei _ (Ai (trivial) (cE rfl rfl rfl rfl))|exact Ai (by first|assumption|omega) (Ei _ (Ai (trivial) (cE rfl rfl rfl rfl)))|(apply bj 212;refine cY (pU _) ⟨rfl,trivial⟩ (fun _ _=>?_)))
theorem zt (a:ByteArray)(b:ej)  (hs:a.size<=20)(hk:0<=b.kind)(fS:b.kind<=3):∃ r:ByteArray,(r.size<=1000)/\Ct ae 258 [AV.s a,.agg (b.enc.map .t)] (AV.s r) [] true:=by
 refine db (Φ:=fun (r:ByteArray)=>r.size<=1000) iz (cX Tryz.func258 rfl (by kernel_rfl) rfl (ck.bI [] [] ?_))
 repeat' (first|(apply bY <;> intro _)|(apply bL;exact Ei [] (Ai rfl (Ai trivial rfl));exact(by first|exact Nb rfl|((try dsimp only at *);omega)|exact Int.le_refl 0|(simp only[Lm] at *;omega));rfl)|(apply qy;(first|exact Nb rfl|omega|(simp only[Lm] at *;omega));intro _)|(apply bj 216;refine cY (zu _) ⟨rfl,trivial⟩ (fun _ _=>?_))|(apply bj 276;refine cR L3 trivial ?_)|(apply ud;(first|assumption|omega|(simp only[ak,dM,aq,aw];omega)|(simp only[Lm] at *;omega)|decide);(first|assumption|omega|(simp only[aq,aw];omega)|(simp only[Lm] at *;omega)|decide);intro _)|(apply Fh;exact rfl;assumption;exact rfl;intro _ _))
theorem Uw (X:List (List Tr))(s:ByteArray)(hX:X.length<=1000):F7 ae 255 [.c (.row 0 0),AV.s s] [] [⟨9,1,0,X,none⟩] (.c (.row 0 0)) [] [⟨9,1,0,X,none⟩] []\/F7 ae 255 [.c (.row 0 0),AV.s s] [] [⟨9,1,0,X,none⟩] (.c (.row 0 1)) [] [⟨9,1,1,X++[[sv s]],none⟩] []:=by
 cases h:(s.toList==(⟨#[]⟩:ByteArray).toList) with
 | true=>
  refine .inl ?_;refine jC 2 Tryz.func255 rfl (enters_of Tryz.func255 (by kernel_rfl) rfl) tabOk (by kernel_rfl) rfl rfl rfl rfl rfl fun w0 O _=>aBW [2,3] ?_;refine eu h ?_;refine aBW [] ?_;refine Ei [(0,0)] (Ai (Ai rfl (Ai ?_ (Ai ?_ ?_))) ?_)
  all_goals repeat' first|refine Ai ?_ ?_|exact rfl|exact⟨⟩|exact Ei _ rfl|refine aj ?_|refine bS ?_
 | false=>
  refine .inr ?_;refine jC 2 Tryz.func255 rfl (enters_of Tryz.func255 (by kernel_rfl) rfl) tabOk (by kernel_rfl) rfl rfl rfl rfl rfl fun w0 O _=>aBW [2,3] ?_;refine cQ h ?_;refine aBW [] ?_;refine Ai (.inl rfl) (Ai (show(X.length+1)*16<=140737488355328 by omega) (Ai (show X.length+1 < 140737488355328 by omega) ?_));refine Ei [(0,0)] (Ai (Ai rfl (Ai ?_ (Ai ?_ ?_))) ?_)
  all_goals repeat' first|refine Ai ?_ ?_|exact rfl|exact⟨⟩|exact Ei _ rfl|refine aj ?_|refine bS ?_
theorem P5 (a:cC):∃ r:ByteArray,(r.size<=201000)/\Ct ae 215 [.agg (a.enc.map .t)] (AV.s r) [] true:=by
 refine db (Φ:=fun (r:ByteArray)=>r.size<=201000) iz (cX Tryz.func215 rfl (by kernel_rfl) rfl (ck.bI [] [8,9,10,11,33,39,40,41,42] ?_));refine cY (pT a) ⟨fL (cC.enc _),trivial⟩ (fun b hb=>?_);refine cy (cS (fun hc=>?_) (fun hc=>?_))
 rotate_left
 ·exact bL _ (Ei [] (Ai rfl (Ai trivial rfl))) (by first|exact Nb rfl|((try dsimp only at *);omega)|exact Int.le_refl 0|(simp only[Lm] at *;omega)) rfl
 obtain⟨k1,k2,k3,k4,k5,k6,k7,k8⟩:=hb hc
 repeat' (first|(apply bY <;> intro _)|apply cy|(apply cS <;> intro _)|(apply bL;exact Ei [] (Ai rfl (Ai trivial rfl));exact(by first|exact Nb rfl|((try dsimp only at *);omega)|exact Int.le_refl 0|(simp only[Lm] at *;omega));rfl)|(apply ee 8 rfl;refine ck.lW [] ?_;refine ck.AD 8 7 500000 9 1 (tm 0) [1,3,4,5,6] [0] 500001 rfl ?_;refine Ai (ck.bI [] [8,9,10,11,33,39,40,41,42] ?_) (fun X hX=>ck.bI [] [8,9,10,11,33,39,40,41,42] ?_))|(refine ck.AD 9 7 500000 9 1 (tm 1) [1,4,5,6] [0] 500001 rfl ?_;refine Ai (ck.bI [] [8,9,10,11,33,39,40,41,42] ?_) (fun X hX=>ck.bI [] [8,9,10,11,33,39,40,41,42] ?_))|(refine ck.AD 10 7 500000 9 1 (tm 2) [1,5,6] [0] 500001 rfl ?_;refine Ai (ck.bI [] [8,9,10,11,33,39,40,41,42] ?_) (fun X hX=>ck.bI [] [8,9,10,11,33,39,40,41,42] ?_))|(refine ck.AD 11 7 500000 9 1 (tm 3) [1,6] [0] 500001 rfl ?_;refine Ai (ck.bI [] [8,9,10,11,33,39,40,41,42] ?_) (fun X hX=>ck.bI [] [8,9,10,11,33,39,40,41,42] ?_))|(refine ck.AD 33 7 500000 9 1 (tm 26) [1,6] [0] 500001 rfl ?_;refine Ai (ck.bI [] [8,9,10,11,33,39,40,41,42] ?_) (fun X hX=>ck.bI [] [8,9,10,11,33,39,40,41,42] ?_))|(refine ck.AD 39 7 500000 9 1 (tm 44) [1] [0] 500001 rfl ?_;refine Ai (ck.bI [] [8,9,10,11,33,39,40,41,42] ?_) (fun X hX=>ck.bI [] [8,9,10,11,33,39,40,41,42] ?_))|(refine ck.AD 40 7 500000 9 1 (tm 45) [1] [0] 500001 rfl ?_;refine Ai (ck.bI [] [8,9,10,11,33,39,40,41,42] ?_) (fun X hX=>ck.bI [] [8,9,10,11,33,39,40,41,42] ?_))|(refine ck.AD 41 7 500000 9 1 (tm 46) [1] [0] 500001 rfl ?_;refine Ai (ck.bI [] [8,9,10,11,33,39,40,41,42] ?_) (fun X hX=>ck.bI [] [8,9,10,11,33,39,40,41,42] ?_))|(refine ck.AD 42 7 500000 9 1 (tm 47) [] [] 500001 rfl ?_;refine Ai (ck.bI [] [8,9,10,11,33,39,40,41,42] ?_) (fun X hX=>ck.bI [] [8,9,10,11,33,39,40,41,42] ?_))|(refine gP.XO 12 8 7 500000 9 1 6 (by omega) (by omega) (fun i=>tm (3+i)) [1,6] [0] 500001 rfl ?_;refine Ai ?_ (fun i X h0 h1 hX=>ck.bI [] [8,9,10,11,33,39,40,41,42] ?_))|(refine gP.XO 17 9 7 500000 9 1 6 (by omega) (by omega) (fun i=>tm (9+i)) [1,6] [0] 500001 rfl ?_;refine Ai ?_ (fun i X h0 h1 hX=>ck.bI [] [8,9,10,11,33,39,40,41,42] ?_))|(refine gP.XO 22 10 7 500000 9 1 5 (by omega) (by omega) (fun i=>tm (15+i)) [1,6] [0] 500001 rfl ?_;refine Ai ?_ (fun i X h0 h1 hX=>ck.bI [] [8,9,10,11,33,39,40,41,42] ?_))|(refine gP.XO 27 11 7 500000 9 1 5 (by omega) (by omega) (fun i=>tm (20+i)) [1,6] [0] 500001 rfl ?_;refine Ai ?_ (fun i X h0 h1 hX=>ck.bI [] [8,9,10,11,33,39,40,41,42] ?_))|(refine gP.XO 34 12 7 500000 9 1 17 (by omega) (by omega) (fun i=>tm (26+i)) [1,6] [0] 500001 rfl ?_;refine Ai ?_ (fun i X h0 h1 hX=>ck.bI [] [8,9,10,11,33,39,40,41,42] ?_))|exact Ei [] (Ai (tm.nil (by omega)) (XM rfl rfl rfl rfl rfl))|exact Ei _ (Ai (by first|exact hX|exact hX.up (by omega)|exact hX.snoc (by omega) (by omega)) (SQ rfl rfl rfl rfl rfl rfl))|exact Ai ‹_› (Ei _ (Ai (by first|exact hX|exact hX.up (by omega)|exact hX.snoc (by omega) (by omega)) (SQ rfl rfl rfl rfl rfl rfl)))|(apply Vo;exact rfl;(first|assumption|omega|(simp only[ak,dM,aq,aw];omega)|(simp only[Lm] at *;omega)|decide);(first|assumption|omega|(simp only[aq,aw];omega)|(simp only[Lm] at *;omega)|decide);intro s hs)|(apply bj 251;refine cR P4 trivial ?_)|(apply bj 252;refine cR Ut trivial ?_)|(apply bj 253;refine cR P6 trivial ?_)|(apply bj 254;refine cR Uu trivial ?_)|(apply bj 255;rcases Uw X s (by have:=hX.2;omega) with hc|hc <;> refine cM [] [(500000,0)] hc ⟨⟨⟨rfl,rfl⟩,rfl,trivial⟩,trivial,⟨⟨rfl,rfl,rfl,rfl,rfl,rfl,rfl⟩,trivial⟩⟩ rfl ?_)|(apply bj 256;refine cY (Uv _ _ (by first|assumption|omega|(simp only[ak,dM,aq,aw];omega)|(simp only[Lm] at *;omega)|decide) (by first|assumption|omega|(simp only[ak,dM,aq,aw];omega)|(simp only[Lm] at *;omega)|decide)) ⟨rfl,rfl,trivial⟩ (fun _ _=>?_))|(apply bj 257;refine cY (BI _ (by first|assumption|omega|(simp only[ak,dM,aq,aw];omega)|(simp only[Lm] at *;omega)|decide) (by first|assumption|omega|(simp only[ak,dM,aq,aw];omega)|(simp only[Lm] at *;omega)|decide)) ⟨rfl,trivial⟩ (fun s hs=>?_))|(apply bj 258;refine cY (zt _ _ (Nb rfl) (by first|assumption|omega|(simp only[ak,dM,aq,aw];omega)|(simp only[Lm] at *;omega)|decide) (by first|assumption|omega|(simp only[ak,dM,aq,aw];omega)|(simp only[Lm] at *;omega)|decide)) ⟨rfl,fL (ej.enc _),trivial⟩ (fun s hs=>?_))|(apply bj 249;refine cY (GH _) ⟨rfl,trivial⟩ (fun s hs=>?_))|(apply bj 250;refine cY (GF _) ⟨rfl,trivial⟩ (fun s hs=>?_))|(apply Il;exact rfl;(first|exact Nb rfl|omega|(simp only[Lm] at *;omega));intro _)|refine Ai (.inl rfl) (Ai (by have:=hX.2;exact(show(X.length+1)*16<=140737488355328 by omega)) (Ai (by have:=hX.2;exact(show X.length+1 < 140737488355328 by omega)) ?_))|(apply bj 259;obtain⟨L,rfl,g1,g2⟩:=hX.list;refine cY (Qh L _ (by unfold ba;omega) g1 (by omega) (Nb rfl)) ⟨⟨rfl,rfl⟩,rfl,trivial⟩ (fun _ _=>?_)))
theorem LZ (a:Int):∃ r:Bool,True/\Ct ae 211 [.c (.t (iv a))] (aB0 r) [] true:=by
 refine db (Φ:=fun _=>True) dc (cX Tryz.func211 rfl (by kernel_rfl) rfl (ck.bI [] [] ?_))
 repeat' (first|(apply bY <;> intro _)|(apply bL;exact Ei [] (Ai rfl (Ai trivial rfl));exact(trivial);rfl))
theorem P2 (a:eb):∃ r:eb,True/\Ct ae 210 [.agg (a.enc.map .t)] ((fun r=>.agg (r.enc.map .t)) r) [] true:=by
 refine db (Φ:=fun _=>True) (fun _=>rfl) (cX Tryz.func210 rfl (by kernel_rfl) rfl (ck.bI [] [] ?_))
 repeat' (first|(apply bY <;> intro _)|(apply bL ⟨_,_,_,_,⟨_,_,_,_,_,_,_,_,_,_,⟨_,_⟩,⟨_,_⟩,⟨_,_⟩⟩⟩;refine Ei [] (Ai rfl (Ai trivial ?_));(repeat' first|refine Ai ?_ ?_|exact rfl|exact⟨⟩|exact Ei _ rfl|refine aj ?_|refine bS ?_);done))
theorem GC (a:eb):∃ r:Bool,(r=true->(a.kind=4\/a.kind=5)->a.sub.size<=32)/\Ct ae 160 [.agg (a.enc.map .t)] (aB0 r) [] true:=by
 refine db (Φ:=fun (r:Bool)=>r=true->(a.kind=4\/a.kind=5)->a.sub.size<=32) dc (cX Tryz.func160 rfl (by kernel_rfl) rfl (ck.bI [] [] ?_))
 repeat' (first|(apply bY <;> intro _)|apply cy|(apply cS <;> intro _)|(apply bL;exact Ei [] (Ai rfl (Ai trivial rfl));exact(by intro hr hk;first|exact Bool.noConfusion hr|(apply_assumption;assumption)|(exfalso;omega));rfl)|(apply bj 210;refine cY (P2 _) ⟨fL (eb.enc _),trivial⟩ (fun _ _=>?_))|(apply bj 211;refine cY (LZ _) ⟨rfl,trivial⟩ (fun _ _=>?_))|(apply bj 145;refine cY (BK _) ⟨rfl,trivial⟩ (fun _ _=>?_))|(apply bj 135;refine cY (pT _) ⟨fL (cC.enc _),trivial⟩ (fun _ _=>?_)))
theorem P3 (a:eb):∃ r:ByteArray,(r.size<=300000)/\Ct ae 161 [.agg (a.enc.map .t)] (AV.s r) [] true:=by
 refine db (Φ:=fun (r:ByteArray)=>r.size<=300000) iz (cX Tryz.func161 rfl (by kernel_rfl) rfl (ck.bI [] [] ?_))
 repeat' (first|(apply Il;exact rfl;((have hh:a.sub.size<=32:=by solve_by_elim [Or.inl,Or.inr]);omega);intro _)|(apply bY <;> intro _)|apply cy|(apply cS <;> intro _)|(apply bL;exact Ei [] (Ai rfl (Ai trivial rfl));exact(by first|exact Nb rfl|omega|(have hh:a.sub.size<=32:=by solve_by_elim [Or.inl,Or.inr]);omega);rfl)|(apply Il;exact rfl;(first|exact Nb rfl|omega|(simp only[Lm] at *;omega));intro _)|(apply Dh;exact rfl;(first|exact Nb rfl|omega|(simp only[Lm] at *;omega));intro _)|(apply qy;(first|exact Nb rfl|omega|(simp only[Lm] at *;omega));intro _)|(apply bj 160;refine cY (GC _) ⟨fL (eb.enc _),trivial⟩ (fun _ _=>?_))|(apply bj 212;refine cY (pU _) ⟨rfl,trivial⟩ (fun _ _=>?_))|(apply bj 213;refine cY (Qc _) ⟨rfl,trivial⟩ (fun _ _=>?_))|(apply bj 214;refine cY (P9 _) ⟨rfl,trivial⟩ (fun _ _=>?_))|(apply bj 215;refine cY (P5 _) ⟨fL (cC.enc _),trivial⟩ (fun _ _=>?_))|(apply bj 216;refine cY (zu _) ⟨rfl,trivial⟩ (fun _ _=>?_)))
theorem nk (a:List eb)(_ha:a.length*176<=ba):∃ r:ByteArray,True/\Ct ae 93 [.c (.t (.sl 20 (a.map eb.enc)))] (AV.s r) [] true:=by
 refine db (Φ:=fun _=>True) iz (cX Tryz.func93 rfl (by kernel_rfl) rfl (ck.bI [] [] ?_))
 repeat' (first|(apply bY <;> intro _)|apply cy|(apply cS <;> intro _)|(apply bL;exact Ei [] (Ai rfl (Ai trivial rfl));exact(trivial);rfl)|(apply eX 5 rfl;refine gP.up (β:=ByteArray) 5 4 ((((a.map eb.enc).length:Nat):Int)) (by first|omega|exact gV (by first|assumption|exact eO ‹_› ‹_› | exact eV _ ‹_›) rfl) (by omega) (fun p=>[(3,AV.s p)]) (fun i (p:ByteArray)=>(p.size:Int)<=i*400000) [0] [] 200000 rfl ?_;refine Ai ?_ (fun _ _ _ _ _=>ck.bI [] [] ?_))|exact Ei _ (Ai (by first|exact Nb rfl|((try dsimp only at *);omega)|exact Int.le_refl 0|(simp only[Lm] at *;omega)) (cE rfl rfl rfl rfl))|exact Ai (by first|assumption|omega) (Ei _ (Ai (by first|exact Nb rfl|((try dsimp only at *);omega)|exact Int.le_refl 0|(simp only[Lm] at *;omega)) (cE rfl rfl rfl rfl)))|(apply jf;(first|assumption|omega|(simp only[ak,dM,aq,aw];omega)|(simp only[Lm] at *;omega)|decide);(first|assumption|omega|(simp only[ak,dM,aq,aw];omega)|(simp only[Lm] at *;omega)|decide);intro _ _)|(apply Dh;exact rfl;(first|exact Nb rfl|omega|(simp only[Lm] at *;omega));intro _)|(apply qy;(first|exact Nb rfl|omega|(simp only[Lm] at *;omega));intro _)|(apply bj 160;refine cY (GC _) ⟨fL (eb.enc _),trivial⟩ (fun _ _=>?_))|(apply bj 161;refine cY (P3 _) ⟨fL (eb.enc _),trivial⟩ (fun _ _=>?_)))
theorem P0 (a:List eb)(ha:a.length*176<=ba):∃ r:Bool,True/\Ct ae 243 [.c (.t (.sl 20 (a.map eb.enc)))] (aB0 r) [] true:=by
 refine db (Φ:=fun _=>True) dc (cX Tryz.func243 rfl (by kernel_rfl) rfl (ck.bI [] [] ?_))
 repeat' (first|(apply bL;exact Ei [] (Ai rfl (Ai trivial rfl));exact(trivial);rfl)|(apply bj 93;refine cY (nk _ (by first|assumption|exact eO ‹_› ‹_› | exact eV _ ‹_›)) ⟨rfl,trivial⟩ (fun _ _=>?_)))
theorem Qf (a0:Int)(a1:Int)(a2:Int)(a3:Int)(a4:Int)(a5:Int):∃ r:eB,True/\Ct ae 274 [.agg [.t (iv a0),.t (iv a1),.t (iv a2),.t (iv a3),.t (iv a4),.t (iv a5)]] ((fun r=>.agg (r.enc.map .t)) r) [] true:=by
 refine db (Φ:=fun _=>True) (fun _=>rfl) (cX Tryz.func274 rfl (by kernel_rfl) rfl (ck.bI [] [] ?_))
 repeat' (first|(apply bL ⟨_,_,_,_,_,_,_⟩;refine Ei [] (Ai rfl (Ai trivial ?_));(repeat' first|refine Ai ?_ ?_|exact rfl|exact⟨⟩|exact Ei _ rfl|refine aj ?_|refine bS ?_);done)|(apply eX 3 rfl;refine gP.one 3 rfl (ck.bI [] [] ?_))|(apply ud;(first|assumption|omega|(simp only[ak];omega)|(simp only[Lm] at *;omega)|decide);(first|assumption|omega|(simp only[ak];omega)|(simp only[Lm] at *;omega)|decide);intro _))
theorem Qd (a:eB):∃ r:ByteArray,(r.size<=5000)/\Ct ae 273 [.agg (a.enc.map .t)] (AV.s r) [] true:=by
 refine db (Φ:=fun (r:ByteArray)=>r.size<=5000) iz (cX Tryz.func273 rfl (by kernel_rfl) rfl (ck.bI [] [] ?_));refine cY (SW a) ⟨fL (eB.enc _),trivial⟩ (fun b hb=>?_);refine cy (cS (fun hc=>?_) (fun hc=>?_))
 rotate_left
 ·exact bL _ (Ei [] (Ai rfl (Ai trivial rfl))) (by first|exact Nb rfl|((try dsimp only at *);omega)|exact Int.le_refl 0|(simp only[Lm] at *;omega)) rfl
 obtain⟨k1,k2,k3,k4,k5,k6,k7⟩:=hb hc
 repeat' (first|(apply bY <;> intro _)|(apply dx <;> intro _)|(apply cS <;> intro _)|(apply bL;exact Ei [] (Ai rfl (Ai trivial rfl));exact(by first|exact Nb rfl|((try dsimp only at *);omega)|exact Int.le_refl 0|(simp only[Lm] at *;omega));rfl)|(apply eX 5 rfl;refine gP.up (β:=ByteArray) 5 4 (2) (by first|omega|exact gV (by first|assumption|exact eO ‹_› ‹_› | exact eV _ ‹_›) rfl) (by omega) (fun p=>[(3,AV.s p)]) (fun i (p:ByteArray)=>(p.size:Int)<=i*40) [1] [0] 200000 rfl ?_;refine Ai ?_ (fun _ _ _ _ _=>ck.bI [] [] ?_))|(apply eX 11 rfl;refine gP.up (β:=ByteArray) 11 5 (5) (by first|omega|exact gV (by first|assumption|exact eO ‹_› ‹_› | exact eV _ ‹_›) rfl) (by omega) (fun p=>[(3,AV.s p)]) (fun i (p:ByteArray)=>(p.size:Int)<=300+i*400) [1] [0] 300000 rfl ?_;refine Ai ?_ ?_;rotate_left;intro i p h0 h1 hp;(rcases(by omega:i=0\/i=1\/i=2\/i=3\/i=4\/i=5) with rfl|rfl|rfl|rfl|rfl|rfl) <;> apply ck.bI [] [])|(apply eX 14 rfl;refine gP.up (β:=ByteArray) 14 6 (9) (by first|omega|exact gV (by first|assumption|exact eO ‹_› ‹_› | exact eV _ ‹_›) rfl) (by omega) (fun p=>[(3,AV.s p)]) (fun i (q:ByteArray)=>(q.size:Int)<=p.size+i*40) [1,5] [0] 400000 rfl ?_;refine Ai ?_ (fun _ _ _ _ _=>ck.bI [] [] ?_))|exact Ei _ (Ai (by first|exact Nb rfl|((try dsimp only at *);omega)|exact Int.le_refl 0|(simp only[Lm] at *;omega)) (cE rfl rfl rfl rfl))|exact Ai (by first|assumption|omega) (Ei _ (Ai (by first|exact Nb rfl|((try dsimp only at *);omega)|exact Int.le_refl 0|(simp only[Lm] at *;omega)) (cE rfl rfl rfl rfl)))|(apply Uc;(intro _ hh;exact hh);(intro _ hh;exact hh);(first|assumption|omega|(simp only[ak,dM,aq,aw];omega)|(simp only[Lm] at *;omega)|decide);(first|assumption|omega|(simp only[ak];omega)|(simp only[Lm] at *;omega)|decide);(first|assumption|omega|(simp only[ak];omega)|(simp only[Lm] at *;omega)|decide);intro _)|(apply ud;(first|assumption|omega|(simp only[ak,dM,aq,aw];omega)|(simp only[Lm] at *;omega)|decide);(first|assumption|omega|(simp only[ak,dM,aq,aw];omega)|(simp only[Lm] at *;omega)|decide);intro _)|(apply Dh;exact rfl;(first|exact Nb rfl|omega|(simp only[Lm] at *;omega));intro _)|(apply qy;(first|exact Nb rfl|omega|(simp only[Lm] at *;omega));intro _)|(apply bj 216;refine cY (zu _) ⟨rfl,trivial⟩ (fun _ _=>?_)))
theorem BM (a0:Int)(a1:Int)(a2:Int)(a3:Int)(a4:Int)(a5:Int):∃ r:ByteArray,(r.size<=5000)/\Ct ae 244 [.agg [.t (iv a0),.t (iv a1),.t (iv a2),.t (iv a3),.t (iv a4),.t (iv a5)]] (AV.s r) [] true:=by
 refine db (Φ:=fun (r:ByteArray)=>r.size<=5000) iz (cX Tryz.func244 rfl (by kernel_rfl) rfl (ck.bI [] [] ?_))
 repeat' (first|(apply bL;exact Ei [] (Ai rfl (Ai trivial rfl));exact(by first|exact Nb rfl|((try dsimp only at *);omega)|exact Int.le_refl 0|(simp only[Lm] at *;omega));rfl)|(apply bj 274;refine cY (Qf _ _ _ _ _ _) ⟨⟨rfl,rfl,rfl,rfl,rfl,rfl,trivial⟩,trivial⟩ (fun _ _=>?_))|(apply bj 273;refine cY (Qd _) ⟨fL (eB.enc _),trivial⟩ (fun _ _=>?_)))
theorem Yi (a:cZ)(b:Int)(ha:a.ok):∃ r:Bool,True/\Ct ae 207 [.agg (a.enc.map .t),.c (.t (iv b))] (aB0 r) [] true:=by
 have CH:=ha;obtain⟨S8,S7,S6,S5,UX⟩:=CH;refine db (Φ:=fun _=>True) dc (cX Tryz.func207 rfl (by kernel_rfl) rfl (ck.bI [] [6,7,8,11,14,17,20,23] ?_))
 repeat' (first|(apply bY <;> intro _)|apply cy|(apply cS <;> intro _)|(apply bL;exact Ei [] (Ai rfl (Ai trivial rfl));exact(trivial);rfl)|(apply ee 6 rfl;refine ck.cut (α:=Bool) 6 (fun p=>[(5,aB0 p)]) (fun _=>True) [2] [0] 200000 rfl ?_;refine Ai (ck.bI [] [6,7,8,11,14,17,20,23] ?_) (fun _ _=>ck.bI [] [6,7,8,11,14,17,20,23] ?_))|(apply ee 7 rfl;refine ck.cut (α:=Bool) 7 (fun p=>[(6,aB0 p)]) (fun _=>True) [2,5] [0] 300000 rfl ?_;refine Ai (ck.bI [] [6,7,8,11,14,17,20,23] ?_) (fun _ _=>ck.bI [] [6,7,8,11,14,17,20,23] ?_))|(apply ee 8 rfl;refine ck.cut (α:=Bool) 8 (fun p=>[(7,aB0 p)]) (fun _=>True) [2,5,6] [0] 400000 rfl ?_;refine Ai (ck.bI [] [6,7,8,11,14,17,20,23] ?_) (fun _ _=>ck.bI [] [6,7,8,11,14,17,20,23] ?_))|(apply ee 11 rfl;refine ck.cut (α:=Bool) 11 (fun p=>[(8,aB0 p)]) (fun _=>True) [2,5,6,7] [0] 500000 rfl ?_;refine Ai (ck.bI [] [6,7,8,11,14,17,20,23] ?_) (fun _ _=>ck.bI [] [6,7,8,11,14,17,20,23] ?_))|(apply ee 14 rfl;refine ck.cut (α:=Bool) 14 (fun p=>[(9,aB0 p)]) (fun _=>True) [2,5,6,7,8] [0] 600000 rfl ?_;refine Ai (ck.bI [] [6,7,8,11,14,17,20,23] ?_) (fun _ _=>ck.bI [] [6,7,8,11,14,17,20,23] ?_))|(apply ee 17 rfl;refine ck.cut (α:=Bool) 17 (fun p=>[(10,aB0 p)]) (fun _=>True) [2,5,6,7,8,9] [0] 700000 rfl ?_;refine Ai (ck.bI [] [6,7,8,11,14,17,20,23] ?_) (fun _ _=>ck.bI [] [6,7,8,11,14,17,20,23] ?_))|(apply ee 20 rfl;refine ck.cut (α:=Bool) 20 (fun p=>[(11,aB0 p)]) (fun _=>True) [2,5,6,7,8,9,10] [0] 800000 rfl ?_;refine Ai (ck.bI [] [6,7,8,11,14,17,20,23] ?_) (fun _ _=>ck.bI [] [6,7,8,11,14,17,20,23] ?_))|(apply ee 23 rfl;refine ck.cut (α:=Bool) 23 (fun p=>[(12,aB0 p)]) (fun _=>True) [5,6,7,8,9,10,11] [] 900000 rfl ?_;refine Ai (ck.bI [] [6,7,8,11,14,17,20,23] ?_) (fun _ _=>ck.bI [] [6,7,8,11,14,17,20,23] ?_))|exact Ei _ (Ai (trivial) (cE rfl rfl rfl rfl))|(apply bj 238;refine cY (PX _) ⟨rfl,trivial⟩ (fun _ _=>?_))|(apply bj 239;refine cY (PY _ _) ⟨rfl,rfl,trivial⟩ (fun _ _=>?_))|(apply bj 240;refine cY (Yj _ _) ⟨fL (F5.enc _),rfl,trivial⟩ (fun _ _=>?_))|(apply bj 241;refine cY (GD _) ⟨rfl,trivial⟩ (fun _ _=>?_))|(apply bj 79;refine cY (SX _) ⟨rfl,trivial⟩ (fun _ _=>?_))|(apply bj 242;refine cY (Yk _) ⟨fL (mG.enc _),trivial⟩ (fun _ _=>?_))|(apply bj 243;refine cY (P0 _ (by first|assumption|exact eO ‹_› ‹_› | exact eV _ ‹_›)) ⟨rfl,trivial⟩ (fun _ _=>?_))|(apply bj 244;refine cY (BM _ _ _ _ _ _) ⟨⟨rfl,rfl,rfl,rfl,rfl,rfl,trivial⟩,trivial⟩ (fun _ _=>?_))|(apply bj 245;refine cY (I4 _ _) ⟨rfl,fL (cC.enc _),trivial⟩ (fun _ _=>?_)))
theorem EA (a:List cZ)(b:Int)(ha:a.length*560<=ba)(ma:∀ y∈a,cZ.ok y):∃ r:Bool,True/\Ct ae 151 [.c (.t (.sl 64 (a.map cZ.enc))),.c (.t (iv b))] (aB0 r) [] true:=by
 refine db (Φ:=fun _=>True) dc (cX Tryz.func151 rfl (by kernel_rfl) rfl (ck.bI [] [] ?_))
 repeat' (first|(apply bY <;> intro _)|apply cy|(apply cS <;> intro _)|(apply bL;exact Ei [] (Ai rfl (Ai trivial rfl));exact(trivial);rfl)|(apply eX 2 rfl;refine gP.up (β:=Unit) 2 5 ((((a.map cZ.enc).length:Nat):Int)) (by first|omega|exact gV (by first|assumption|exact eO ‹_› ‹_› | exact eV _ ‹_›) rfl) (by omega) (fun _=>[]) (fun _ _=>True) [0,1] [] 200000 rfl ?_;refine Ai ?_ (fun _ _ _ _ _=>ck.bI [] [] ?_))|exact Ei () (Ai (trivial) (cE rfl rfl rfl rfl))|exact Ai (by first|assumption|omega) (Ei () (Ai (trivial) (cE rfl rfl rfl rfl)))|(apply jf;(first|assumption|omega|(simp only[ak,dM,aq,aw];omega)|(simp only[Lm] at *;omega)|decide);(first|assumption|omega|(simp only[ak,dM,aq,aw];omega)|(simp only[Lm] at *;omega)|decide);intro _ _)|(apply bj 207;refine cY (Yi _ _ (by first|assumption|exact eO ‹_› ‹_› | exact eV _ ‹_›)) ⟨fL (cZ.enc _),rfl,trivial⟩ (fun _ _=>?_)))
theorem Yf (a:cz)(ha:a.ok):∃ r:Bool,True/\Ct ae 84 [.agg (a.enc.map .t)] (aB0 r) [] true:=by
 have CH:=ha;obtain⟨S8,S7,S6,S5,UX,Yz,Yy,Yx,Yw,Yv⟩:=CH;refine db (Φ:=fun _=>True) dc (cX Tryz.func84 rfl (by kernel_rfl) rfl (ck.bI [] [1002,3,4,1006,1008,9,1013,14,1018,19,24] ?_))
 repeat' (first|(apply bY <;> intro _)|(apply dx <;> intro _)|apply cy|(apply cS <;> intro _)|(apply bL;exact Ei [] (Ai rfl (Ai trivial rfl));exact(trivial);rfl)|(apply ee 1002 rfl;refine ck.cut (α:=Bool) 1002 (fun p=>[(11,aB0 p)]) (fun _=>True) [1] [0] 200000 rfl ?_;refine Ai (ck.bI [] [1002,3,4,1006,1008,9,1013,14,1018,19,24] ?_) (fun _ _=>ck.bI [] [1002,3,4,1006,1008,9,1013,14,1018,19,24] ?_))|(apply ee 3 rfl;refine ck.cut (α:=Unit) 3 (fun _=>[]) (fun _=>True) [1] [0] 300000 rfl ?_;refine Ai (ck.bI [] [1002,3,4,1006,1008,9,1013,14,1018,19,24] ?_) (fun _ _=>ck.bI [] [1002,3,4,1006,1008,9,1013,14,1018,19,24] ?_))|(apply ee 4 rfl;refine ck.cut (α:=Bool) 4 (fun p=>[(3,aB0 p)]) (fun _=>True) [1] [0] 400000 rfl ?_;refine Ai (ck.bI [] [1002,3,4,1006,1008,9,1013,14,1018,19,24] ?_) (fun _ _=>ck.bI [] [1002,3,4,1006,1008,9,1013,14,1018,19,24] ?_))|(apply ee 1006 rfl;refine ck.cut (α:=Bool) 1006 (fun p=>[(43,aB0 p)]) (fun _=>True) [1,3] [0] 500000 rfl ?_;refine Ai (ck.bI [] [1002,3,4,1006,1008,9,1013,14,1018,19,24] ?_) (fun _ _=>ck.bI [] [1002,3,4,1006,1008,9,1013,14,1018,19,24] ?_))|(apply ee 1008 rfl;refine ck.cut (α:=Bool) 1008 (fun p=>[(53,aB0 p)]) (fun _=>True) [1,3] [0] 600000 rfl ?_;refine Ai (ck.bI [] [1002,3,4,1006,1008,9,1013,14,1018,19,24] ?_) (fun _ _=>ck.bI [] [1002,3,4,1006,1008,9,1013,14,1018,19,24] ?_))|(apply ee 9 rfl;refine ck.cut (α:=Unit) 9 (fun _=>[]) (fun _=>True) [1,3] [0] 700000 rfl ?_;refine Ai (ck.bI [] [1002,3,4,1006,1008,9,1013,14,1018,19,24] ?_) (fun _ _=>ck.bI [] [1002,3,4,1006,1008,9,1013,14,1018,19,24] ?_))|(apply ee 1013 rfl;refine ck.cut (α:=Bool) 1013 (fun p=>[(68,aB0 p)]) (fun _=>True) [1,3] [0] 800000 rfl ?_;refine Ai (ck.bI [] [1002,3,4,1006,1008,9,1013,14,1018,19,24] ?_) (fun _ _=>ck.bI [] [1002,3,4,1006,1008,9,1013,14,1018,19,24] ?_))|(apply ee 14 rfl;refine ck.cut (α:=Unit) 14 (fun _=>[]) (fun _=>True) [1,3] [0] 900000 rfl ?_;refine Ai (ck.bI [] [1002,3,4,1006,1008,9,1013,14,1018,19,24] ?_) (fun _ _=>ck.bI [] [1002,3,4,1006,1008,9,1013,14,1018,19,24] ?_))|(apply ee 1018 rfl;refine ck.cut (α:=Bool) 1018 (fun p=>[(83,aB0 p)]) (fun _=>True) [1,3] [0] 1000000 rfl ?_;refine Ai (ck.bI [] [1002,3,4,1006,1008,9,1013,14,1018,19,24] ?_) (fun _ _=>ck.bI [] [1002,3,4,1006,1008,9,1013,14,1018,19,24] ?_))|(apply ee 19 rfl;refine ck.cut (α:=Unit) 19 (fun _=>[]) (fun _=>True) [1,3] [0] 1100000 rfl ?_;refine Ai (ck.bI [] [1002,3,4,1006,1008,9,1013,14,1018,19,24] ?_) (fun _ _=>ck.bI [] [1002,3,4,1006,1008,9,1013,14,1018,19,24] ?_))|(apply ee 24 rfl;refine ck.cut (α:=Unit) 24 (fun _=>[]) (fun _=>True) [1,3] [0] 1200000 rfl ?_;refine Ai (ck.bI [] [1002,3,4,1006,1008,9,1013,14,1018,19,24] ?_) (fun _ _=>ck.bI [] [1002,3,4,1006,1008,9,1013,14,1018,19,24] ?_))|exact Ei () (Ai (trivial) (cE rfl rfl rfl rfl))|exact Ei _ (Ai (trivial) (cE rfl rfl rfl rfl))|(apply bj 135;refine cY (pT _) ⟨fL (cC.enc _),trivial⟩ (fun _ _=>?_))|(apply bj 93;refine cY (nk _ (by first|assumption|exact eO ‹_› ‹_› | exact eV _ ‹_›)) ⟨rfl,trivial⟩ (fun _ _=>?_))|(apply bj 147;refine cY (LW _) ⟨fL (pv.enc _),trivial⟩ (fun _ _=>?_))|(apply bj 148;refine cY (Yh _) ⟨fL (eh.enc _),trivial⟩ (fun _ _=>?_))|(apply bj 149;refine cY (Yg _) ⟨fL (gE.enc _),trivial⟩ (fun _ _=>?_))|(apply bj 150;refine cY (LV _ (by first|assumption|exact eO ‹_› ‹_› | exact eV _ ‹_›)) ⟨rfl,trivial⟩ (fun _ _=>?_))|(apply bj 151;refine cY (EA _ _ (by first|assumption|exact eO ‹_› ‹_› | exact eV _ ‹_›) (by first|assumption|exact eO ‹_› ‹_› | exact eV _ ‹_›)) ⟨rfl,rfl,trivial⟩ (fun _ _=>?_)))
theorem sS (a:List eb)(b:List eb)(ha:a.length*176<=ba)(_hb:b.length*176<=ba):∃ r:Bool,True/\Ct ae 208 [.c (.t (.sl 20 (a.map eb.enc))),.c (.t (.sl 20 (b.map eb.enc)))] (aB0 r) [] true:=by
 refine db (Φ:=fun _=>True) dc (cX Tryz.func208 rfl (by kernel_rfl) rfl (ck.bI [] [] ?_))
 repeat' (first|(apply bY <;> intro _)|(apply dx <;> intro _)|apply cy|(apply cS <;> intro _)|(apply bL;exact Ei [] (Ai rfl (Ai trivial rfl));exact(trivial);rfl)|(apply eX 4 rfl;refine gP.up (β:=Unit) 4 5 ((((a.map eb.enc).length:Nat):Int)) (by first|omega|exact gV (by first|assumption|exact eO ‹_› ‹_› | exact eV _ ‹_›) rfl) (by omega) (fun _=>[]) (fun _ _=>True) [0,1] [] 200000 rfl ?_;refine Ai ?_ (fun _ _ _ _ _=>ck.bI [] [] ?_))|exact Ei () (Ai (trivial) (cE rfl rfl rfl rfl))|exact Ai (by first|assumption|omega) (Ei () (Ai (trivial) (cE rfl rfl rfl rfl)))|(apply jf;(first|assumption|omega|(simp only[ak,dM,aq,aw];omega)|(simp only[Lm] at *;omega)|decide);(first|assumption|omega|(simp only[ak,dM,aq,aw];omega)|(simp only[Lm] at *;omega)|decide);intro _ _))
theorem PZ (a:cZ)(b:cZ)(ha:a.ok)(hb:b.ok):∃ r:Bool,True/\Ct ae 246 [.agg (a.enc.map .t),.agg (b.enc.map .t)] (aB0 r) [] true:=by
 have CH:=ha;obtain⟨S8,S7,S6,S5,UX⟩:=CH;have Rz:=hb;obtain⟨ob0,ob1,ob2,ob3,ob4⟩:=Rz;refine db (Φ:=fun _=>True) dc (cX Tryz.func246 rfl (by kernel_rfl) rfl (ck.bI [] [] ?_))
 repeat' (first|(apply bY <;> intro _)|(apply cS <;> intro _)|(apply bL;exact Ei [] (Ai rfl (Ai trivial rfl));exact(trivial);rfl)|(apply bj 208;refine cY (sS _ _ (by first|assumption|exact eO ‹_› ‹_› | exact eV _ ‹_›) (by first|assumption|exact eO ‹_› ‹_› | exact eV _ ‹_›)) ⟨rfl,rfl,trivial⟩ (fun _ _=>?_)))
theorem BG (a:List cZ)(b:List cZ)(ha:a.length*560<=ba)(ma:∀ y∈a,cZ.ok y)(_hb:b.length*560<=ba)(mb:∀ y∈b,cZ.ok y):∃ r:Bool,True/\Ct ae 209 [.c (.t (.sl 64 (a.map cZ.enc))),.c (.t (.sl 64 (b.map cZ.enc)))] (aB0 r) [] true:=by
 refine db (Φ:=fun _=>True) dc (cX Tryz.func209 rfl (by kernel_rfl) rfl (ck.bI [] [] ?_))
 repeat' (first|(apply bY <;> intro _)|(apply dx <;> intro _)|apply cy|(apply cS <;> intro _)|(apply bL;exact Ei [] (Ai rfl (Ai trivial rfl));exact(trivial);rfl)|(apply eX 4 rfl;refine gP.up (β:=Unit) 4 5 ((((a.map cZ.enc).length:Nat):Int)) (by first|omega|exact gV (by first|assumption|exact eO ‹_› ‹_› | exact eV _ ‹_›) rfl) (by omega) (fun _=>[]) (fun _ _=>True) [0,1] [] 200000 rfl ?_;refine Ai ?_ (fun _ _ _ _ _=>ck.bI [] [] ?_))|exact Ei () (Ai (trivial) (cE rfl rfl rfl rfl))|exact Ai (by first|assumption|omega) (Ei () (Ai (trivial) (cE rfl rfl rfl rfl)))|(apply jf;(first|assumption|omega|(simp only[ak,dM,aq,aw];omega)|(simp only[Lm] at *;omega)|decide);(first|assumption|omega|(simp only[ak,dM,aq,aw];omega)|(simp only[Lm] at *;omega)|decide);intro _ _)|(apply bj 246;refine cY (PZ _ _ (by first|assumption|exact eO ‹_› ‹_› | exact eV _ ‹_›) (by first|assumption|exact eO ‹_› ‹_› | exact eV _ ‹_›)) ⟨fL (cZ.enc _),fL (cZ.enc _),trivial⟩ (fun _ _=>?_)))
theorem PW (a:cz)(b:cz)(ha:a.ok)(hb:b.ok):∃ r:Bool,True/\Ct ae 159 [.agg (a.enc.map .t),.agg (b.enc.map .t)] (aB0 r) [] true:=by
 have CH:=ha;obtain⟨S8,S7,S6,S5,UX,Yz,Yy,Yx,Yw,Yv⟩:=CH;have Rz:=hb;obtain⟨ob0,ob1,ob2,ob3,ob4,ob5,ob6,ob7,ob8,ob9⟩:=Rz;refine db (Φ:=fun _=>True) dc (cX Tryz.func159 rfl (by kernel_rfl) rfl (ck.bI [] [] ?_))
 repeat' (first|(apply bY <;> intro _)|(apply dx <;> intro _)|apply cy|(apply cS <;> intro _)|(apply bL;exact Ei [] (Ai rfl (Ai trivial rfl));exact(trivial);rfl)|(apply eX 4 rfl;refine gP.up (β:=Unit) 4 5 ((((a.specs.map jL.enc).length:Nat):Int)) (by first|omega|exact gV (by first|assumption|exact eO ‹_› ‹_› | exact eV _ ‹_›) rfl) (by omega) (fun _=>[]) (fun _ _=>True) [2,3] [0,128] 200000 rfl ?_;refine Ai ?_ (fun _ _ _ _ _=>ck.bI [] [] ?_))|exact Ei () (Ai (trivial) (cE rfl rfl rfl rfl))|exact Ai (by first|assumption|omega) (Ei () (Ai (trivial) (cE rfl rfl rfl rfl)))|(apply jf;(first|assumption|omega|(simp only[ak,dM,aq,aw];omega)|(simp only[Lm] at *;omega)|decide);(first|assumption|omega|(simp only[ak,dM,aq,aw];omega)|(simp only[Lm] at *;omega)|decide);intro _ _)|(apply bj 208;refine cY (sS _ _ (by first|assumption|exact eO ‹_› ‹_› | exact eV _ ‹_›) (by first|assumption|exact eO ‹_› ‹_› | exact eV _ ‹_›)) ⟨rfl,rfl,trivial⟩ (fun _ _=>?_))|(apply bj 209;refine cY (BG _ _ (by first|assumption|exact eO ‹_› ‹_› | exact eV _ ‹_›) (by first|assumption|exact eO ‹_› ‹_› | exact eV _ ‹_›) (by first|assumption|exact eO ‹_› ‹_› | exact eV _ ‹_›) (by first|assumption|exact eO ‹_› ‹_› | exact eV _ ‹_›)) ⟨rfl,rfl,trivial⟩ (fun _ _=>?_)))
end
section
open Go Cg Go.RowKit
theorem lI (xs:List (List Tr))(h:xs.length*8<=ba):Ct ae 94 [.c (.t (.sl 1 xs))] (.c (.row 0 0)) [⟨3,1,0,xs,none⟩] false:=by
 refine cT Tryz.func94 rfl (by kernel_rfl) rfl fun w0 O _=>aBW [] ?_;refine Ai (.inl rfl) (Ai (eQ xs 8 h) (Ai (eA xs 8 (by decide) h) ?_));exact Ei [(0,128)] (Ai rfl (Ai (Ai ⟨rfl,rfl,rfl⟩ trivial) (Ai rfl ⟨rfl,rfl⟩)))
theorem ny (l:List Int)(h:l.length*8 < 140737488355328):Ct ae 94 [.c (.t (.sl 1 (l.map eI)))] (.c (.t (.sl 1 (l.map eI)))) [] false:=by
 refine cT Tryz.func94 rfl (by kernel_rfl) rfl fun w0 O _=>aBW [] ?_;refine Ai (.inl rfl) (Ai (show(([]:List (List Tr)).length+(l.map eI).length)*8<=_ by rw[Lm,aw];omega) (Ai (show([]:List (List Tr)).length+(l.map eI).length < _ by rw[Lm,aw];omega) ?_));exact Ei [] (Ai rfl (Ai trivial ⟨rfl,rfl,rfl⟩))
theorem iM (xs:List (List Tr))(h:xs.length*8<=ba):Ct ae 94 [.c (.t (.sl 1 xs))] (.c (.t (.sl 1 xs))) [] false:=by
 refine cT Tryz.func94 rfl (by kernel_rfl) rfl fun w0 O _=>aBW [] ?_;refine Ai (.inl rfl) (Ai (eQ xs 8 h) (Ai (eA xs 8 (by decide) h) ?_));exact Ei [] (Ai rfl (Ai trivial ⟨rfl,rfl,rfl⟩))
theorem w8 (a:cz)(h:a.ok):Ct ae 95 [.agg (a.enc.map .t)] (.agg (a.enc.map .t)) [] false:=by
 obtain⟨_,hm,hm2,_,_,hs,uf,he,py,_⟩:=h;refine cT Tryz.func95 rfl (by kernel_rfl) rfl fun w0 O _=>aBW [10] ?_;refine Ai (.inl rfl) (Ai (eQ _ 176 (cn _ _ _ hm)) (Ai (eA _ 176 (by decide) (cn _ _ _ hm)) ?_));refine Ai (.inl rfl) (Ai (eQ _ 144 (cn _ _ _ hs)) (Ai (eA _ 144 (by decide) (cn _ _ _ hs)) ?_));refine aBY (fun k:Nat=>⟨[(1,.ptr 0 0),(2,.ptr 128 0),(3,.ptr 384 0),(4,aBZ k)],[(0,a.enc.map .t),(128,List.replicate 72 .bot),(384,(a.enc.map .t).set 49 (.row 9000 0))],[(9000,⟨125,64,0,(a.dm.take k).map cZ.enc,none⟩)],10000⟩) (fun k=>k<=a.dm.length) (fun k=>a.dm.length - k) 0 ?_ (aD _) ?_
 ·refine bh [] rfl rfl ?_ ?_ ?_
  all_goals repeat' first|refine Ai ?_ ?_|exact rfl|exact⟨⟩|exact Ei _ rfl
 rintro k hk;refine aBW [10] ?_;refine cS (fun h=>?_) (fun h=>?_)
 ·have aS:=cN h;obtain⟨_,_,_,VX,Zs⟩:=py a.dm[k] (aI aS);refine Ei k (Ei (a.dm[k].enc) (Ai rfl (Ai (aQ _ _ k aS) ?_)));refine Ai (.inl rfl) (Ai (eQ _ 176 (cn _ _ _ VX)) (Ai (eA _ 176 (by decide) (cn _ _ _ VX)) ?_));refine Tp.lW [9000] (aBW [] ?_);refine Ai (.inl rfl) (Ai (fJ a.dm cZ.enc k aS _ 560 (by decide) he) (Ai (fh a.dm cZ.enc k aS _ 560 (by decide) he) ?_));refine Ei (k+1) (Ai (show k+1<=_ by omega) (Ai (show a.dm.length - (k+1) < a.dm.length - k by omega) ?_));refine bh [(9000,9000)] rfl rfl ?_ ?_ ?_
  all_goals repeat' first|refine Ai ?_ ?_|exact rfl|exact⟨⟩|exact Ei _ rfl|refine aj ?_|refine bS ?_
  exact ed k aS 560 (by decide) he;exact eN a.dm cZ.enc k aS
 ·have fS:=cP h hk;subst fS;refine Ei [] ?_
  repeat' first|refine Ai ?_ ?_|exact rfl|exact⟨⟩|exact Ei _ rfl
  exact gU a.dm cZ.enc 64
theorem Eb {α β:Type}(l:List α)(f:α->β):(l.take l.length).map f=l.map f:=by rw[bm]
theorem gM (s:aA)(h:s.ok):Ct ae 46 [.agg (s.enc.map .t)] (.agg ([.row 0 0,.row 1 0,.row 2 0]++(s.enc.drop 3).map .t)) [⟨163,14,0,s.az.map cq.enc,none⟩,⟨75,19,0,s.aa.map aE.enc,none⟩,⟨3,1,0,s.bw.map eI,none⟩] false:=by
 obtain⟨hp,sf,ho,VH,hb,hx,hs,uf,hw,Y4,hc,mZ,hxt⟩:=h;refine cT Tryz.func46 rfl (by kernel_rfl) rfl fun w0 O _=>aBW [] ?_;refine aBY (fun k:Nat=>⟨[(1,.ptr 0 0),(2,.ptr 128 0),(3,.ptr 384 0),(4,aBZ k)],[(0,s.enc.map .t),(128,List.replicate 19 .bot),(384,((s.enc.map .t).set 0 (.row 9000 0)))],[(9000,⟨163,14,0,(s.az.take k).map cq.enc,none⟩)],10000⟩) (fun k=>k<=s.az.length) (fun k=>s.az.length - k) 0 ?_ (aD _) ?_
 ·refine bh [] rfl rfl ?_ ?_ ?_
  all_goals repeat' first|refine Ai ?_ ?_|exact rfl|exact⟨⟩|exact Ei _ rfl
 rintro k hk;refine aBW [10] ?_;refine cS (fun h=>?_) (fun h=>?_)
 ·have aS:=cN h;obtain⟨e1,e2,e3⟩:=sf s.az[k] (aI aS);refine Ei k (Ei (s.az[k].enc) (Ai rfl (Ai (aQ _ _ k aS) ?_)));refine cR (iM _ (cn _ _ _ e1)) ⟨rfl,trivial⟩ ?_;refine cR (iM _ (cn _ _ _ e2)) ⟨rfl,trivial⟩ ?_;refine cR (iM _ (cn _ _ _ e3)) ⟨rfl,trivial⟩ ?_;refine Tp.lW [9000] (aBW [] ?_);refine Ai (.inl rfl) (Ai (fJ s.az cq.enc k aS _ 152 (by decide) hp) (Ai (fh s.az cq.enc k aS _ 152 (by decide) hp) ?_));refine Ei (k+1) (Ai (show k+1<=_ by omega) (Ai (show s.az.length - (k+1) < s.az.length - k by omega) ?_));refine bh [(9000,9000)] rfl rfl ?_ ?_ ?_
  all_goals repeat' first|refine Ai ?_ ?_|exact rfl|exact⟨⟩|exact Ei _ rfl|refine aj ?_|refine bS ?_
  exact ed k aS 152 (by decide) hp;exact eN s.az cq.enc k aS
 have Nz:=cP h hk;subst Nz;clear h hk;refine Ai (.inl rfl) (Ai (eQ _ 128 (cn _ _ _ ho)) (Ai (eA _ 128 (by decide) (cn _ _ _ ho)) ?_));refine cR (lI _ (cn _ _ _ hb)) ⟨rfl,trivial⟩ ?_;refine cR (iM _ (cn _ _ _ hx)) ⟨rfl,trivial⟩ ?_;refine aBY (fun k:Nat=>⟨[(1,.ptr 0 0),(2,.ptr 128 0),(3,.ptr 384 0),(6,aBZ k)],[(0,s.enc.map .t),(128,List.replicate 19 .bot),(384,(((((s.enc.map .t).set 0 (.row 9000 0)).set 1 (.row 9001 0)).set 2 (.row 9002 0)).set 4 (.row 9003 0)))],[(9000,⟨163,14,0,s.az.map cq.enc,none⟩),(9001,⟨75,19,0,s.aa.map aE.enc,none⟩),(9002,⟨3,1,0,s.bw.map eI,none⟩),(9003,⟨176,94,0,(s.stack.take k).map fq.enc,none⟩)],20000⟩) (fun k=>k<=s.stack.length) (fun k=>s.stack.length - k) 0 ?_ (aD _) ?_
 ·refine bh [(9000,9000),(9001,10640),(9002,11664)] rfl rfl ?_ ?_ ?_
  ·repeat' first|refine Ai ?_ ?_|exact rfl|exact⟨⟩|exact Ei _ rfl|refine aj ?_|refine bS ?_
   all_goals exact Eb s.az cq.enc
  ·repeat' first|refine Ai ?_ ?_|exact rfl|exact⟨⟩|exact Ei _ rfl|refine aj ?_|refine bS ?_
   all_goals exact Eb s.az cq.enc
  ·repeat' first|refine Ai ?_ ?_|exact rfl|exact⟨⟩|exact Ei _ rfl|refine aj ?_|refine bS ?_
   all_goals exact Eb s.az cq.enc
 rintro k hk;refine aBW [21] ?_;refine cS (fun h=>?_) (fun h=>?_)
 ·have aS:=cN h;obtain⟨e1,e2,_⟩:=uf s.stack[k] (aI aS);refine Ei k (Ei (s.stack[k].enc) (Ai rfl (Ai (aQ _ _ k aS) ?_)));refine cR (w8 s.stack[k].ai e1) ⟨fL s.stack[k].ai.enc,trivial⟩ ?_;refine Ai (.inl rfl) (Ai (eQ _ 16 (cn _ _ _ e2)) (Ai (eA _ 16 (by decide) (cn _ _ _ e2)) ?_));refine Tp.lW [9000,9001,9002,9003] (aBW [] ?_);refine Ai (.inl rfl) (Ai (fJ s.stack fq.enc k aS _ 824 (by decide) hs) (Ai (fh s.stack fq.enc k aS _ 824 (by decide) hs) ?_));refine Ei (k+1) (Ai (show k+1<=_ by omega) (Ai (show s.stack.length - (k+1) < s.stack.length - k by omega) ?_));refine bh [(9000,9000),(9001,9001),(9002,9002),(9003,9003)] rfl rfl ?_ ?_ ?_
  all_goals repeat' first|refine Ai ?_ ?_|exact rfl|exact⟨⟩|exact Ei _ rfl|refine aj ?_|refine bS ?_
  exact ed k aS 824 (by decide) hs;exact eN s.stack fq.enc k aS
 have hk1:=cP h hk;subst hk1;clear h hk;refine aBY (fun k:Nat=>⟨[(1,.ptr 0 0),(2,.ptr 128 0),(3,.ptr 384 0),(8,aBZ k)],[(0,s.enc.map .t),(128,List.replicate 19 .bot),(384,(((((s.enc.map .t).set 0 (.row 9000 0)).set 1 (.row 9001 0)).set 2 (.row 9002 0)).set 5 (.row 9003 0)))],[(9000,⟨163,14,0,s.az.map cq.enc,none⟩),(9001,⟨75,19,0,s.aa.map aE.enc,none⟩),(9002,⟨3,1,0,s.bw.map eI,none⟩),(9003,⟨72,89,0,(s.aaJ.take k).map bW.enc,none⟩)],30000⟩) (fun k=>k<=s.aaJ.length) (fun k=>s.aaJ.length - k) 0 ?_ (aD _) ?_
 ·refine bh [(9000,9000),(9001,9001),(9002,9002)] rfl rfl ?_ ?_ ?_
  ·repeat' first|refine Ai ?_ ?_|exact rfl|exact⟨⟩|exact Ei _ rfl|refine aj ?_|refine bS ?_
   all_goals exact gU s.stack fq.enc 94
  ·repeat' first|refine Ai ?_ ?_|exact rfl|exact⟨⟩|exact Ei _ rfl|refine aj ?_|refine bS ?_
   all_goals exact gU s.stack fq.enc 94
  ·repeat' first|refine Ai ?_ ?_|exact rfl|exact⟨⟩|exact Ei _ rfl|refine aj ?_|refine bS ?_
   all_goals exact gU s.stack fq.enc 94
 rintro k hk;refine aBW [28] ?_;refine cS (fun h=>?_) (fun h=>?_)
 ·have aS:=cN h;obtain⟨e1,_⟩:=Y4 s.aaJ[k] (aI aS);refine Ei k (Ei (s.aaJ[k].enc) (Ai rfl (Ai (aQ _ _ k aS) ?_)));refine cR (w8 s.aaJ[k].ai e1) ⟨fL s.aaJ[k].ai.enc,trivial⟩ ?_;refine Tp.lW [9000,9001,9002,9003] (aBW [] ?_);refine Ai (.inl rfl) (Ai (fJ s.aaJ bW.enc k aS _ 768 (by decide) hw) (Ai (fh s.aaJ bW.enc k aS _ 768 (by decide) hw) ?_));refine Ei (k+1) (Ai (show k+1<=_ by omega) (Ai (show s.aaJ.length - (k+1) < s.aaJ.length - k by omega) ?_));refine bh [(9000,9000),(9001,9001),(9002,9002),(9003,9003)] rfl rfl ?_ ?_ ?_
  all_goals repeat' first|refine Ai ?_ ?_|exact rfl|exact⟨⟩|exact Ei _ rfl|refine aj ?_|refine bS ?_
  exact ed k aS 768 (by decide) hw;exact eN s.aaJ bW.enc k aS
 have fS:=cP h hk;subst fS;clear h hk;refine aBY (fun k:Nat=>⟨[(1,.ptr 0 0),(2,.ptr 128 0),(3,.ptr 384 0),(10,aBZ k)],[(0,s.enc.map .t),(128,List.replicate 19 .bot),(384,(((((s.enc.map .t).set 0 (.row 9000 0)).set 1 (.row 9001 0)).set 2 (.row 9002 0)).set 6 (.row 9003 0)))],[(9000,⟨163,14,0,s.az.map cq.enc,none⟩),(9001,⟨75,19,0,s.aa.map aE.enc,none⟩),(9002,⟨3,1,0,s.bw.map eI,none⟩),(9003,⟨178,6,0,(s.dG.take k).map iS.enc,none⟩)],40000⟩) (fun k=>k<=s.dG.length) (fun k=>s.dG.length - k) 0 ?_ (aD _) ?_
 ·refine bh [(9000,9000),(9001,9001),(9002,9002)] rfl rfl ?_ ?_ ?_
  ·repeat' first|refine Ai ?_ ?_|exact rfl|exact⟨⟩|exact Ei _ rfl|refine aj ?_|refine bS ?_
   all_goals exact gU s.aaJ bW.enc 89
  ·repeat' first|refine Ai ?_ ?_|exact rfl|exact⟨⟩|exact Ei _ rfl|refine aj ?_|refine bS ?_
   all_goals exact gU s.aaJ bW.enc 89
  ·repeat' first|refine Ai ?_ ?_|exact rfl|exact⟨⟩|exact Ei _ rfl|refine aj ?_|refine bS ?_
   all_goals exact gU s.aaJ bW.enc 89
 rintro k hk;refine aBW [36] ?_;refine cS (fun h=>?_) (fun h=>?_)
 ·have aS:=cN h;obtain⟨e1,e2,_⟩:=mZ s.dG[k] (aI aS);refine Ei k (Ei (s.dG[k].enc) (Ai rfl (Ai (aQ _ _ k aS) ?_)));refine cR (iM _ (cn _ _ _ e1)) ⟨rfl,trivial⟩ ?_;refine Ai (.inl rfl) (Ai (eQ _ 176 (cn _ _ _ e2)) (Ai (eA _ 176 (by decide) (cn _ _ _ e2)) ?_));refine Tp.lW [9000,9001,9002,9003] (aBW [] ?_);refine Ai (.inl rfl) (Ai (fJ s.dG iS.enc k aS _ 80 (by decide) hc) (Ai (fh s.dG iS.enc k aS _ 80 (by decide) hc) ?_));refine Ei (k+1) (Ai (show k+1<=_ by omega) (Ai (show s.dG.length - (k+1) < s.dG.length - k by omega) ?_));refine bh [(9000,9000),(9001,9001),(9002,9002),(9003,9003)] rfl rfl ?_ ?_ ?_
  all_goals repeat' first|refine Ai ?_ ?_|exact rfl|exact⟨⟩|exact Ei _ rfl|refine aj ?_|refine bS ?_
  exact ed k aS 80 (by decide) hc;exact eN s.dG iS.enc k aS
 have hk3:=cP h hk;subst hk3;clear h hk;refine cR (iM _ (cn _ _ _ hxt)) ⟨rfl,trivial⟩ ?_;refine Ei [(0,9000),(1,9001),(2,9002)] ?_
 repeat' first|refine Ai ?_ ?_|exact rfl|exact⟨⟩|exact Ei _ rfl|refine aj ?_|refine bS ?_
 all_goals exact gU s.dG iS.enc 6
theorem vz (s:aA)(id:Int)(hs:s.aa.length*128<=ba):Ct ae 162 [.agg (s.enc.map .t),.c (.t (iv id))] (aBZ (o8 s.aa id)) [] true:=by
 refine Ct.lit (b:=false) ?_ rfl;refine cT Tryz.func162 rfl (by kernel_rfl) rfl fun w0 O _=>aBW [] ?_;refine aBY (fun k:Nat=>⟨[(1,.c (.t (iv id))),(2,.ptr 0 0),(5,aBZ k)],[(0,s.enc.map .t)],[],10000⟩) (fun k=>k<=s.aa.length/\∀ j (h:j < s.aa.length),j < k->(s.aa[j].id==id)=false) (fun k=>s.aa.length - k) 0 ?_ ⟨aD _,fun j _ h=>by omega⟩ ?_
 ·refine bh [] rfl rfl ?_ ⟨aV _ rfl,trivial⟩ ?_
  all_goals repeat' first|refine Ai ?_ ?_|exact rfl|exact⟨⟩|exact Ei _ rfl
 rintro k ⟨hk,eZ⟩;refine aBW [] ?_;refine cS (fun h=>?_) (fun h=>?_)
 ·have aS:=cN h;refine Ei k (Ei (s.aa[k].enc) (Ai rfl (Ai (aQ _ _ k aS) ?_)));refine cS (fun h=>?_) (fun h=>?_)
  ·refine Ei [] (Ai rfl (Ai trivial ?_));unfold o8;rw[ku _ _ k aS h eZ];exact rfl
  ·refine Ei (k+1) (Ai ⟨by omega,fun j hj Af=>?_⟩ (Ai (show s.aa.length - (k+1) < s.aa.length - k by omega) ?_))
   ·by_cases e:j=k
    ·subst e;exact h
    ·exact eZ j hj (by omega)
   refine bh [] rfl rfl ?_ ⟨aV _ rfl,trivial⟩ ?_
   all_goals repeat' first|refine Ai ?_ ?_|exact rfl|exact⟨⟩|exact Ei _ rfl
   exact ed k aS 128 (by decide) hs
 ·have fS:=cP h hk;refine Ei [] (Ai rfl (Ai trivial ?_));unfold o8;rw[jh _ _ (fun j hj=>eZ j hj (by omega))];exact rfl
theorem gk (s:aA)(id:Int)(hs:s.aa.length*128<=ba):Ct ae 96 [.agg (s.enc.map .t),.c (.t (iv id))] (.fH [.agg ((b9 s.aa id).enc.map .t),aB0 (er s.aa id)]) [] true:=by
 refine Ct.uc (b:=false) ?_ rfl;have hp:=vz s id hs;unfold o8 at hp;rcases im (fun o:aE=>o.id==id) s.aa with⟨e1,_,e2⟩|⟨i,hi,e1,_,e2⟩
 ·rw[e1] at hp;unfold b9 er;rw[e2];refine cT Tryz.func96 rfl (by kernel_rfl) rfl fun w0 O _=>aBW [] ?_;refine cR hp ⟨fL s.enc,rfl,trivial⟩ ?_;refine Ei [] ?_
  repeat' first|refine Ai ?_ ?_|exact rfl|exact⟨⟩|exact Ei _ rfl
 ·revert hp;generalize jS (fun o:aE=>o.id==id) s.aa=v at e1;intro hp;unfold b9 er;rw[e2];refine cT Tryz.func96 rfl (by kernel_rfl) rfl fun w0 O _=>aBW [] ?_;refine cR hp ⟨fL s.enc,rfl,trivial⟩ ?_;refine cS (fun h=>by have:=of_decide_eq_true h;omega) (fun _=>?_);subst e1;refine Ei i (Ei (s.aa[i].enc) (Ai rfl (Ai (aQ _ _ i hi) ?_)));refine Ei [] ?_
  repeat' first|refine Ai ?_ ?_|exact rfl|exact⟨⟩|exact Ei _ rfl
theorem DY (l:List Int)(n:Int)(hl:l.length*8<=ba):Ct ae 217 [.c (.t (.sl 1 (l.map eI))),.c (.t (iv n))] (.c (.t (.sl 1 ((l.filter fun i=>i != n).map eI)))) [] false:=by
 refine cT Tryz.func217 rfl (by kernel_rfl) rfl fun w0 O _=>aBW [] ?_;refine aBY (fun k:Nat=>⟨[(0,.c (.t (.sl 1 (l.map eI)))),(1,.c (.t (iv n))),(5,.c (.row 9000 0)),(6,aBZ k)],[],[(9000,⟨3,1,0,((l.take k).filter fun i=>i != n).map eI,none⟩)],10000⟩) (fun k=>k<=l.length) (fun k=>l.length - k) 0 ?_ (aD _) ?_
 ·refine bh [] rfl rfl ?_ ?_ ?_
  all_goals repeat' first|refine Ai ?_ ?_|exact rfl|exact⟨⟩|exact Ei _ rfl
 rintro k hk;have si:((l.take k).filter fun i=>i != n).length<=k:=bd (cx _ _) (by rw[aB];omega);refine aBW [] ?_;refine cS (fun h=>?_) (fun h=>?_)
 ·have aS:=cN h;have A0:l.take (k+1)=l.take k++[l[k]]:=by rw[List.take_add_one,cD aS];rfl
  refine Ei k (Ei (eI l[k]) (Ai rfl (Ai (aQ _ _ k aS) ?_)));refine cS (fun h=>?_) (fun h=>?_)
  ·refine Ei k (Ei (eI l[k]) (Ai rfl (Ai (aQ _ _ k aS) ?_)))
   have hb:(((l.take k).filter fun i=>i != n).map eI).length+[[iv l[k]]].length<=l.length+1:=by
    rw[Lm,aq,aw];omega
   refine Ai (.inl rfl) (Ai (AN hb (cG (dt (by decide) hl))) (Ai (wY hb (by decide) (dt (by decide) hl)) ?_));refine Ei (k+1) (Ai (show k+1<=_ by omega) (Ai (show l.length - (k+1) < l.length - k by omega) ?_));refine bh [(9000,9000)] rfl rfl ?_ ?_ ?_
   all_goals repeat' first|refine Ai ?_ ?_|exact rfl|exact⟨⟩|exact Ei _ rfl|refine aj ?_|refine bS ?_
   exact ed k aS 8 (by decide) hl;rw[A0,List.filter_append,aW];simp only[List.filter_cons,h,List.filter_nil];rfl
  ·refine Ei (k+1) (Ai (show k+1<=_ by omega) (Ai (show l.length - (k+1) < l.length - k by omega) ?_));refine bh [(9000,9000)] rfl rfl ?_ ?_ ?_
   all_goals repeat' first|refine Ai ?_ ?_|exact rfl|exact⟨⟩|exact Ei _ rfl|refine aj ?_|refine bS ?_
   exact ed k aS 8 (by decide) hl;rw[A0,List.filter_append,aW];simp only[List.filter_cons,h,List.filter_nil];simp
 ·have fS:=cP h hk;subst fS;refine Ei [] ?_
  repeat' first|refine Ai ?_ ?_|exact rfl|exact⟨⟩|exact Ei _ rfl
  rw[bm];exact rfl
end
end Go.Proofs.YtbmdcnkidjlbbaaGreat
