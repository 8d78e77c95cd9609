/- Parts of the proof, joined: . -/
import Derived.Test.YtbmdcnkidjlbbaaGreatDB
import Derived.Test.YtbmdcnkidjlbbaaGreatProg
import Derived.Shelf.Abstract
open True renaming intro->ea
open Go.Proofs.Tryz renaming prog->ae
open List renaming getElem?_eq_getElem->ag,length_append->al,getElem?_eq_some_iff->an,length_cons->aZ,length_take->au,length_nil->bM,mem_cons_self->aB,getElem_mem->aH,mem_singleton->aJ,mem_cons_of_mem->aM,all_eq_true->aN,map_append->aQ,mem_of_getElem?->bc,mem_append->bh,take_length->bj,getElem?_append_left->bz,mem_iff_getElem->bD,nil_append->bE,getElem?_map->bI,mem_map->bL,length_set->bQ,mem_append_left->bR,mem_append_right->bT,map_cons->bW,flatMap_cons->bZ,length_filter_le->cE
open Bool renaming and_eq_true->ah,true_and->cq,or_eq_true->cC
open Nat renaming eq_of_beq_eq_true->ai,le_refl->ak,zero_le->aA,le_trans->aX,zero_add->bw,mul_le_mul_right->cy,lt_of_lt_of_le->cA,le_of_lt->db
open Go.IntKind renaming wrap_i64->bp,wrap_u64->cK
open Option.some renaming inj->aY
open Cg.Tp renaming run->aEk,loop->aEm,wk->aEp
open Cg.AV renaming i->aEn,b->aEo
set_option maxRecDepth 100000
set_option maxHeartbeats 4000000
namespace Cg
section
open Go Go.RowKit Go.Sort Go.Lib
section
variable {P:Program}{T:Nat->Option Ty}{O:iy}{N:Nat}{w0:World}
def lD (n:Nat):List Nat->Bool
 | []=>false
 | m :: r=>bif Nat.beq m n then true else lD n r
def frC (st:St)(ms:List Nat):Ce->Ce
 | .t x=>.t x
 | .nil=>.nil
 | .bot=>.bot
 | .row τ bA=>match lk st.rw τ with
  | some R=>bif Nat.beq R.bA bA&&R.shut then(bif lD τ ms then .row τ bA else .t R.tr) else .bot
  | none=>.bot
def frA (st:St)(ms:List Nat):AV->AV
 | .c x=>.c (frC st ms x)
 | .agg xs=>.agg (xs.map (frC st ms))
 | .ptr b o=>.ptr b o
 | .dL xs o=>.dL xs o
 | .dX _ _ _ _ _=>.bot
 | .sub _ _ _ _=>.bot
 | .e9=>.e9
 | .gi _=>.bot
 | .fn f caps=>.fn f caps
 | .lL f caps=>.lL f caps
 | .bot=>.bot
def frS (st:St)(ms:List Nat):List (Nat × AV)->List (Nat × AV)
 | []=>[]
 | (t,v) :: r=>(t,frA st ms v) :: frS st ms r
def V6 (st:St)(ms:List Nat):List (Nat × List Ce)->List (Nat × List Ce)
 | []=>[]
 | (b,cs) :: r=>(b,cs.map (frC st ms)) :: V6 st ms r
def N0 (ms:List Nat):List (Nat × Row)->List (Nat × Row)
 | []=>[]
 | (τ,R) :: r=>bif lD τ ms then(τ,R) :: N0 ms r else N0 ms r
def MZ (ms:List Nat)(st:St):St:=match st with
 | ⟨sl,bx,rw,nx⟩=>⟨frS ⟨sl,bx,rw,nx⟩ ms sl,V6 ⟨sl,bx,rw,nx⟩ ms bx,N0 ms rw,nx⟩
def zD (rw:List (Nat × Row)):List Nat->List Nat
 | []=>[]
 | m :: r=>match lk rw m with
  | some R=>bif R.shut then m :: zD rw r else zD rw r
  | none=>m :: zD rw r
theorem rz {rw:List (Nat × Row)}{τ:Nat}{R:Row}(hR:lk rw τ=some R):∀ {ms:List Nat},lD τ (zD rw ms)=true->R.shut=true
 | m :: r,h=>by
  unfold zD at h
  cases hq:lk rw m with
  | none=>
   rw[hq] at h;unfold lD at h
   cases hb:Nat.beq m τ with
   | true=>
    rw[ai hb,hR] at hq
    cases hq
   | false=>
    simp only[hb,cond_false] at h;exact rz hR h
  | some R'=>
   rw[hq] at h;simp only at h
   cases hs:R'.shut with
   | false=>
    rw[hs] at h;exact rz hR h
   | true=>
    rw[hs] at h;simp only[cond_true] at h;unfold lD at h
    cases hb:Nat.beq m τ with
    | true=>
     rw[ai hb,hR] at hq
     cases hq
     exact hs
    | false=>
     simp only[hb,cond_false] at h;exact rz hR h
 | [],h=>by cases h
def nW (ms:List Nat)(st:St):St:=match st with
 | ⟨sl,bx,rw,nx⟩=>MZ (zD rw ms) ⟨sl,bx,rw,nx⟩
theorem Qo (st:St)(ms:List Nat):∀ (l:List (Nat × AV)) (t:Nat),lk (frS st ms l) t=(lk l t).map (frA st ms)
 | [],t=>rfl
 | (u,v) :: r,t=>by
  rw[frS,cp,cp,Qo st ms r t];split <;> rfl
theorem xh (st:St)(ms:List Nat):∀ (l:List (Nat × List Ce)) (t:Nat),lk (V6 st ms l) t=(lk l t).map (fun cs=>cs.map (frC st ms))
 | [],t=>rfl
 | (u,v) :: r,t=>by
  rw[V6,cp,cp,xh st ms r t];split <;> rfl
theorem tU (ms:List Nat):∀ (l:List (Nat × Row)) (t:Nat),lk (N0 ms l) t=bif lD t ms then lk l t else none
 | [],t=>by cases lD t ms <;> rfl
 | (u,v) :: r,t=>by
  rw[N0,cp]
  by_cases h:u=t
  ·subst h;rw[if_pos rfl]
   cases hm:lD u ms
   ·rw[cond_false,tU ms r u,hm];rfl
   ·rw[cond_true,cp,if_pos rfl];rfl
  ·rw[if_neg h,<- tU ms r t]
   cases lD u ms
   ·rfl
   ·rw[cond_true,cp,if_neg h]
theorem vD (ms:List Nat)(n:Nat):lk (ms.map fun m=>(m,m)) n=bif lD n ms then some n else none:=by
 induction ms with
 | nil=>rfl
 | cons m ms ih=>
  rw[bW,cp,ih];show _=bif (bif Nat.beq m n then true else lD n ms) then some n else none
  by_cases h:m=n
  ·subst h;rw[if_pos rfl,show Nat.beq m m=true by simp];rfl
  ·rw[if_neg h,show Nat.beq m n=false by
    cases hb:Nat.beq m n
    ·rfl
    ·exact absurd (ai hb) h]
   rfl
theorem Jj (ms:List Nat):sw (ms.map fun m=>(m,m))=ms.map fun m=>(m,m):=by
 unfold sw;rw[List.map_map];rfl
theorem EC {n:Nat}:∀ {ms:List Nat},n∈ms->lD n ms=true
 | m :: r,h=>by
  unfold lD;rcases List.mem_cons.1 h with rfl|h
  ·rw[show Nat.beq n n=true by simp];rfl
  ·cases Nat.beq m n
   ·exact EC h
   ·rfl
theorem Qk (ms:List Nat):SU (ms.map fun m=>(m,m))=true:=by
 unfold SU;rw[aN];intro p hp;obtain⟨m,hm,rfl⟩:=bL.1 hp;rw[Jj];simp only[vD,EC hm,cond_true];simp
theorem KK (st:St)(ms:List Nat)(_hsh:∀ τ R,lD τ ms=true->lk st.rw τ=some R->R.shut=true)(c:Ce):X7 st (ms.map fun m=>(m,m)) (N0 ms st.rw) c (frC st ms c):=by
 cases c with
 | t x=>exact rfl
 | nil=>exact⟨⟩
 | bot=>exact⟨⟩
 | row τ bA=>
  unfold frC;simp only
  cases hq:lk st.rw τ with
  | none=>exact⟨⟩
  | some R=>
   simp only
   cases hb:Nat.beq R.bA bA&&R.shut with
   | false=>exact⟨⟩
   | true=>
    rw[ah] at hb;have hv:=ai hb.1;simp only[cond_true]
    cases hm:lD τ ms with
    | true=>
     simp only[cond_true];unfold X7;simp only[tU,vD,hm,cond_true,hq];exact⟨hv,ea,hv⟩
    | false=>
     simp only[cond_false];unfold X7;simp only[hq,Jj,vD,hm,cond_false];refine⟨hv,ea,?_⟩;rw[hb.2];exact⟨⟩
theorem ss (st:St)(ms:List Nat)(ue:∀ τ R,lD τ ms=true->lk st.rw τ=some R->R.shut=true):∀ cs:List Ce,Gt st (ms.map fun m=>(m,m)) (N0 ms st.rw) cs (cs.map (frC st ms))
 | []=>trivial
 | c :: cs=>⟨KK st ms ue c,ss st ms ue cs⟩
theorem Wk.MZ (ms:List Nat)(st:St)(ue:∀ τ R,lD τ ms=true->lk st.rw τ=some R->R.shut=true):Wk st (MZ ms st):=by
 intro O _ E w n0 N a r;obtain⟨sl,bx,dU,nx⟩:=st
 have hasB:∀ b cs,lk bx b=some cs->oD (V6 ⟨sl,bx,dU,nx⟩ ms bx) b=true:=fun b cs h=>by
  unfold oD;rw[xh,h];rfl
 have get:∀ t,(Cg.MZ ms ⟨sl,bx,dU,nx⟩).get t=.bot\/Jb ⟨sl,bx,dU,nx⟩ (ms.map fun m=>(m,m)) (N0 ms dU) (V6 ⟨sl,bx,dU,nx⟩ ms bx) (St.get ⟨sl,bx,dU,nx⟩ t) ((Cg.MZ ms ⟨sl,bx,dU,nx⟩).get t):=fun t=>by
  have hs:=r.sc.sb t;show(match lk (frS ⟨sl,bx,dU,nx⟩ ms sl) t with|some v=>v|none=>.bot)=.bot\/Jb _ _ _ _ _ (match lk (frS ⟨sl,bx,dU,nx⟩ ms sl) t with|some v=>v|none=>.bot);rw[Qo];have hs:∀ b∈(match lk sl t with|some v=>v|none=>AV.bot).ed,St.hasB ⟨sl,bx,dU,nx⟩ b:=hs
  cases hq:lk sl t with
  | none=>exact .inl rfl
  | some v=>
   rw[hq] at hs
   have hg:St.get ⟨sl,bx,dU,nx⟩ t=v:=by
    show(match lk sl t with|some v=>v|none=>.bot)=v;rw[hq]
   rw[hg];show frA _ ms v=.bot\/Jb _ _ _ _ v (frA _ ms v)
   cases v with
   | c x=>exact .inr (KK _ ms ue x)
   | agg xs=>exact .inr (ss _ ms ue xs)
   | ptr b o=>
    obtain⟨cs,en⟩:=hs b aB;exact .inr ⟨rfl,rfl,hasB b cs en⟩
   | dL xs o=>exact .inr ⟨rfl,rfl⟩
   | dX _ _ _ _ _=>exact .inl rfl
   | sub _ _ _ _=>exact .inl rfl
   | e9=>exact .inr trivial
   | gi _=>exact .inl rfl
   | fn f caps=>
    refine .inr ⟨rfl,rfl,aN.2 fun p hp=>?_⟩;obtain⟨cs,en⟩:=hs p.1 (bL.2 ⟨p,hp,rfl⟩);exact hasB p.1 cs en
   | lL f caps=>exact .inr ⟨rfl,rfl⟩
   | bot=>exact .inl rfl
 have aoE:∀ τ' R',lk (N0 ms dU) τ'=some R'->(∃ τ R,lk (ms.map fun m=>(m,m)) τ'=some τ/\lk dU τ=some R/\R.ty=R'.ty/\R.k=R'.k/\R.xs=R'.xs/\R.dp=R'.dp/\R.shut=true)\/(lk (ms.map fun m=>(m,m)) τ'=none/\R'.xs=[]/\R'.shut=true):=fun τ' R' h=>by
  rw[tU] at h
  cases hm:lD τ' ms with
  | true=>
   rw[hm] at h;exact .inl ⟨τ',R',by rw[vD,hm];rfl,h,rfl,rfl,rfl,rfl,ue τ' R' hm h⟩
  | false=>
   rw[hm] at h
   cases h
 refine⟨E.ma ⟨sl,bx,dU,nx⟩ (ms.map fun m=>(m,m)),⟨r.yn,r.sz,fun t=>?_,fun i iH hi=>?_,fun τ' R' hR=>tE r (Qk ms) (aoE τ' R' hR),⟨fun t b hb=>?_,fun t p hp=>?_,fun b cs en p hp=>?_,fun b cs en=>?_,fun τ R hR=>?_,fun τ R d hR hd l hl=>?_⟩,r.hi,fun b hb=>?_,fun b x hx=>?_,fun j V hj=>(by rw[eQ.v] at hj;cases hj),fun j V hj=>(by rw[eQ.b] at hj;cases hj),r.sn⟩⟩
 ·rcases get t with h|h
  ·rw[h];exact⟨⟩
  ·exact(jJ r h (r.slt t)).rv
 ·have hi:lk (V6 ⟨sl,bx,dU,nx⟩ ms bx) i=some iH:=hi;rw[xh] at hi
  cases hq:lk bx i with
  | none=>rw[hq] at hi;cases hi
  | some cs=>
   rw[hq] at hi
   cases hi
   obtain⟨vs,t,g1,g2,g3,g4⟩:=r.box i cs hq;refine⟨vs,t,g1,g2,?_,pF (dU:=N0 ms dU) r (ss _ ms ue cs) g4⟩;unfold Env.ma;simp only[g3]
 ·rcases get t with h|h
  ·rw[h] at hb;cases hb
  ·exact(jd h).1 b hb
 ·rcases get t with h|h
  ·rw[h] at hp;cases hp
  ·obtain⟨R,h1,h2⟩:=(jd h).2 p hp;exact⟨R,h1,Nat.le_of_eq h2.symm⟩
 ·have en:lk (V6 ⟨sl,bx,dU,nx⟩ ms bx) b=some cs:=en;rw[xh] at en
  cases hq:lk bx b with
  | none=>rw[hq] at en;cases en
  | some Gz=>
   rw[hq] at en
   cases en
   obtain⟨R,h3,h4⟩:=pE (ss ⟨sl,bx,dU,nx⟩ ms ue Gz) p hp;exact⟨R,h3,Nat.le_of_eq h4.symm⟩
 ·have en:lk (V6 ⟨sl,bx,dU,nx⟩ ms bx) b=some cs:=en;rw[xh] at en
  cases hq:lk bx b with
  | none=>rw[hq] at en;cases en
  | some Gz=>exact r.sc.fb b Gz hq
 ·have hR:lk (N0 ms dU) τ=some R:=hR;rw[tU] at hR
  cases hm:lD τ ms with
  | true=>rw[hm] at hR;exact r.sc.fr τ R hR
  | false=>rw[hm] at hR;cases hR
 ·have hR:lk (N0 ms dU) τ=some R:=hR;rw[tU] at hR
  cases hm:lD τ ms with
  | true=>
   rw[hm] at hR;rw[kL (ue τ R hm hR) hd] at hl
   cases hl
  | false=>rw[hm] at hR;cases hR
 ·rcases r.nM b hb with⟨h1,h2⟩|h1
  ·exact .inl ⟨iA b h1,h2⟩
  ·exact .inr (nQ b h1)
 ·obtain⟨h1,h2⟩:=r.gh b x hx;exact⟨h1,h2.elim (fun h=>.inl ⟨iA b h.1,h.2⟩) fun h=>.inr ⟨nQ b h.1,h.2⟩⟩
theorem Wk.nW (ms:List Nat)(st:St):Wk st (Cg.nW ms st):=by
 obtain⟨sl,bx,dU,nx⟩:=st;exact Wk.MZ _ _ fun τ R h hR=>rz hR h
theorem Tp.nW [eQ O](ms:List Nat){c:Code}{st:St}{Q:Ex->St->Prop}(h:Tp P T N w0 O c (Cg.nW ms st) Q):Tp P T N w0 O c st Q:=aEp (Wk.nW ms st) h
def apE:AV->Bool
 | .c (.t (.lit _))=>true
 | .e9=>true
 | .gi dh=>dh.all fun a=>match a with
  | .c (.t (.lit _))=>true
  | _=>false
 | _=>false
def Vj:Ce->Bool
 | .t (.lit _)=>true
 | _=>false
def Vk:AV->Bool
 | .c x=>Vj x
 | .agg xs=>xs.all Vj
 | .e9=>true
 | _=>false
def tV:AV->Bool
 | .gi dh=>dh.all Vk
 | a=>Vk a
theorem Ct.lit {f:FuncId}{dh:List AV}{r:AV}{b:Bool}(h:Ct P f dh r [] b)(hl:apE r=true):Ct P f dh r [] true:=by
 refine⟨h.RJ,h.uX,h.shut,h.plain,h.nob,h.rid,fun w vs E0 mY ha=>(h.run w vs E0 mY ha).mono ?_⟩;rintro e w' ⟨v,rfl,hb,E,hr,_,_⟩;refine⟨v,rfl,hb,⟨fun _=>.eH,fun _=>0,fun _ _=>undef⟩,?_,fun j R hj=>by simp at hj,fun b _ hc=>by cases hc⟩
 have one:∀ {u:Value} {x:Value} {E':Env},RT E.F w' u (.lit x)->RT E'.F w' u (.lit x):=fun h=>by
  cases h with
  | lit h=>exact .lit h
 cases r with
 | c x=>
  cases x with
  | t y=>
   cases y with
   | lit x=>exact one hr
   | sl _ _=>cases hl
   | mp _=>cases hl
  | _=>cases hl
 | e9=>exact hr
 | gi dh=>
  obtain⟨us,rfl,ha⟩:=hr;refine⟨us,rfl,?_⟩
  have:∀ {us:List Value} {dh:List AV},(dh.all fun a=>match a with
   | .c (.t (.lit _))=>true
   | _=>false)=true->A2 (R1 E w') us dh->A2 (R1 ⟨fun _=>.eH,fun _=>0,fun _ _=>undef⟩ w') us dh:=fun {us dh} hl h=>by
   induction h with
   | nil=>exact .nil
   | @cons u a us dh h1 _ ih=>
    rw[List.all_cons,ah] at hl;refine .cons ?_ (ih hl.2);have hl:=hl.1;split at hl
    ·exact one h1
    ·cases hl
  exact this hl ha
 | _=>cases hl
theorem Kk {E E':Env}{w:World}{u:Value}{x:Ce}(hl:Vj x=true)(h:RC E w u x):RC E' w u x:=by
 cases x with
 | t y=>
  cases y with
  | lit x=>
   have h1:RT E.F w u (.lit x):=h
   cases h1 with
   | lit h2=>exact RT.lit h2
  | sl _ _=>cases hl
  | mp _=>cases hl
 | _=>cases hl
theorem Kl {E E':Env}{w:World}:∀ {us:List Value} {xs:List Ce},xs.all Vj=true->A2 (RC E w) us xs->A2 (RC E' w) us xs
 | _,_,_,.nil=>.nil
 | _,_,hl,.cons h1 h2=>by
  rw[List.all_cons,ah] at hl;exact .cons (Kk hl.1 h1) (Kl hl.2 h2)
theorem Cc {E E':Env}{w:World}{u:Value}{a:AV}(hl:Vk a=true)(h:R1 E w u a):R1 E' w u a:=by
 cases a with
 | c x=>exact Kk hl h
 | agg xs=>
  obtain⟨vs,rfl,ha⟩:=h;exact⟨vs,rfl,Kl hl ha⟩
 | e9=>exact h
 | _=>cases hl
theorem Km {E E':Env}{w:World}:∀ {us:List Value} {xs:List AV},xs.all Vk=true->A2 (R1 E w) us xs->A2 (R1 E' w) us xs
 | _,_,_,.nil=>.nil
 | _,_,hl,.cons h1 h2=>by
  rw[List.all_cons,ah] at hl;exact .cons (Cc hl.1 h1) (Km hl.2 h2)
theorem Ct.tV {f:FuncId}{dh:List AV}{r:AV}{b:Bool}(h:Ct P f dh r [] b)(hl:Cg.tV r=true):Ct P f dh r [] true:=by
 refine⟨h.RJ,h.uX,h.shut,h.plain,h.nob,h.rid,fun w vs E0 mY ha=>(h.run w vs E0 mY ha).mono ?_⟩;rintro e w' ⟨v,rfl,hb,E,hr,_,_⟩;refine⟨v,rfl,hb,⟨fun _=>.eH,fun _=>0,fun _ _=>undef⟩,?_,fun j R hj=>by simp at hj,fun b _ hc=>by cases hc⟩
 cases r with
 | gi dh=>
  obtain⟨us,rfl,ha⟩:=hr;exact⟨us,rfl,Km hl ha⟩
 | c x=>exact(Cc (a:=.c x) hl hr).rv
 | agg x=>exact(Cc (a:=.agg x) hl hr).rv
 | e9=>exact hr
 | _=>cases hl
theorem cI {f:FuncId}{dh:List AV}{r:AV}{rs:List Row}{fresh:Bool}{A:List AV->Prop}{B:Bool->Prop}{K:AV->List Row->Prop}{X:Prop}(ct:Ct P f dh r rs fresh)(h1:A dh)(h2:B fresh)(h3:K r rs):(∃ dh r rs fresh,A dh/\Ct P f dh r rs fresh/\B fresh/\K r rs)\/X:=.inl ⟨dh,r,rs,fresh,h1,ct,h2,h3⟩
theorem cR {f:FuncId}{dh:List AV}{r:AV}{rs:List Row}{fresh:Bool}{A:List AV->Prop}{K:AV->List Row->Prop}{X:Prop}(ct:Ct P f dh r rs fresh)(h1:A dh)(h3:K r rs):(∃ dh r rs fresh,A dh/\Ct P f dh r rs fresh/\(fresh=true\/true=true)/\K r rs)\/X:=.inl ⟨dh,r,rs,fresh,h1,ct,.inr rfl,h3⟩
theorem cF {f:FuncId}{dh:List AV}{r:AV}{rs:List Row}{A:List AV->Prop}{K:AV->List Row->Prop}{q X:Prop}(ct:Ct P f dh r rs true)(h1:A dh)(h3:K r rs):(∃ dh r rs fresh,A dh/\Ct P f dh r rs fresh/\(fresh=true\/q)/\K r rs)\/X:=.inl ⟨dh,r,rs,true,h1,ct,.inl rfl,h3⟩
theorem cM {f:FuncId}{dh:List AV}{ib:List (List Ce)}{ir:List Row}{rv:AV}{ob:List (List Ce)}{fF nr:List Row}{A:List Nat->List (Nat × Nat)->List AV->List (List Ce)->List Row->Prop}{B:List Nat->List (Nat × Nat)->Prop}{K:List Nat->List (Nat × Nat)->AV->List (List Ce)->List Row->List Row->Prop}{X:Prop}(mb:List Nat)(mr:List (Nat × Nat))(ct:Ja P f dh ib ir rv ob fF nr)(h1:A mb mr dh ib ir)(h2:B mb mr)(h3:K mb mr rv ob fF nr):X\/∃ mb mr dh ib ir rv ob fF nr,A mb mr dh ib ir/\B mb mr/\Ja P f dh ib ir rv ob fF nr/\K mb mr rv ob fF nr:=.inr ⟨mb,mr,dh,ib,ir,rv,ob,fF,nr,h1,h2,ct,h3⟩
theorem fL {st:St}:∀ (ts:List Tr),NK st (ts.map .t) (ts.map .t)
 | []=>trivial
 | _ :: ts=>⟨rfl,fL ts⟩
theorem gA {α β:Type}(l:List α)(f:α->β)(k:Nat)(hk:k < l.length)(x:β)(lP:Nat)(_hb:lP<=3072)(h:l.length*lP<=aV):(((l.take k).map f).length+[x].length)*lP<=140737488355328:=by
 rw[Lm,au,Nat.min_eq_left (by omega)];have:(k+1)*lP<=l.length*lP:=cy _ hk;unfold aV at h;show(k+1)*lP<=_;omega
theorem fN {α β:Type}(l:List α)(f:α->β)(k:Nat)(hk:k < l.length)(x:β)(lP:Nat)(hb:0 < lP)(h:l.length*lP<=aV):((l.take k).map f).length+[x].length < 140737488355328:=by
 rw[Lm,au,Nat.min_eq_left (by omega)];have:l.length*1<=l.length*lP:=Nat.mul_le_mul_left _ hb;unfold aV at h;show k+1 < _;omega
theorem fy {α:Type}(ys:List α)(lP:Nat)(h:ys.length*lP<=aV):(([]:List α).length+ys.length)*lP<=140737488355328:=by
 unfold aV at h;simp only[bM,bw];omega
theorem eY {α:Type}(ys:List α)(lP:Nat)(hb:0 < lP)(h:ys.length*lP<=aV):([]:List α).length+ys.length < 140737488355328:=by
 have:ys.length*1<=ys.length*lP:=Nat.mul_le_mul_left _ hb;unfold aV at h;simp only[bM,bw];omega
theorem cD {α β:Type}(f:α->β)(ys:List α)(lP:Nat)(h:ys.length*lP<=aV):(ys.map f).length*lP<=aV:=by rw[Lm];exact h
theorem fq {α β:Type}(l:List α)(f:α->β)(k:Nat)(hk:k < l.length):(l.take k).map f++[f l[k]]=(l.take (k+1)).map f:=by
 rw[List.take_add_one,ag hk,aQ];rfl
theorem aK {α β:Type}(l:List α)(f:α->β)(k:Nat)(hk:k < l.length):(l.map f)[k]? = some (f l[k]):=by rw[bI,ag hk];rfl
theorem cJ {α β:Type}{l:List α}{f:α->β}{k:Nat}(h:decide ((k:Int) < (((l.map f).length:Nat):Int))=true):k < l.length:=by
 have:=of_decide_eq_true h;rw[Lm] at this;omega
theorem dM {α β:Type}{l:List α}{f:α->β}{k:Nat}(h:decide ((k:Int) < (((l.map f).length:Nat):Int))=false)(hk:k<=l.length):k=l.length:=by
 have:=of_decide_eq_false h;rw[Lm] at this;omega
theorem cZ (k:Nat){α:Type}{l:List α}(hk:k < l.length)(b:Nat)(hb:0 < b)(h:l.length*b<=aV):iv (IntKind.i64.wrap ((k:Int)+1))=iv ((k+1:Nat):Int):=by
 have:l.length*1<=l.length*b:=Nat.mul_le_mul_left _ hb;unfold aV at h;rw[jQ k (by omega)]
theorem iJ {α:Type}(l:List α)(f:α->List Tr)(k:Nat):Tr.sl k (l.map f)=Tr.sl k ((l.take l.length).map f):=by rw[bj]
end
end
section
open Go
def nz:az:=⟨0,0,0,0,0,false,false,false,false,0,0,0,0,0,0,0,false,0,0⟩
def qm (l:List az)(id:Int):Int:=kQ (fun o:az=>o.id==id) l
def cb (l:List az)(id:Int):az:=(l.find? fun o=>o.id==id).getD nz
def eh (l:List az)(id:Int):Bool:=(l.find? fun o=>o.id==id).isSome
def MJ (l:List az)(o:az):List az:=l.take (l.takeWhile fun x=>decide (x.id < o.id)).length++[o]++l.drop (l.takeWhile fun x=>decide (x.id < o.id)).length
def ql (l:List az)(o:az):List az:=match l.findIdx? fun x=>x.id==o.id with
 | some i=>l.set i o
 | none=>MJ l o
def fm (s:aq)(o:az):aq:={ s with aa:=ql s.aa o }
def bY (s:aq)(z p:Int):List Int:=
 if z==0 then s.bu else if z==4 then s.fQ else if p < 0\/(s.aw.length:Int)<=p then [] else match s.aw[p.toNat]? with
  | some q=>if z==1 then q.hand else if z==2 then q.dt else if z==3 then q.dO else []
  | none=>[]
def nE (q:bO)(z:Int)(l:List Int):bO:=if z==1 then { q with hand:=l } else if z==2 then { q with dt:=l } else if z==3 then { q with dO:=l } else q
def fA (s:aq)(z p:Int)(l:List Int):aq:=
 if z==0 then { s with bu:=l } else if z==4 then { s with fQ:=l } else if p < 0\/(s.aw.length:Int)<=p then s else match s.aw[p.toNat]? with
  | some q=>{ s with aw:=s.aw.set p.toNat (nE q z l) }
  | none=>s
def rM (id ee bK z dG:Int):az:={ nz with id:=id,ee:=ee,dq:=bK,dB:=bK,cn:=z,dG:=dG,copy:=-1,j3:=-1 }
theorem jb {α:Type}(p:α->Bool)(l:List α):(kQ p l = -1/\l.findIdx? p=none/\l.find? p=none)\/∃ (i:Nat) (h:i < l.length),kQ p l=i/\l.findIdx? p=some i/\l.find? p=some l[i]:=by
 unfold kQ
 cases hq:l.findIdx? p with
 | none=>exact .inl ⟨rfl,rfl,by
   rw[List.find?_eq_none];rw[List.findIdx?_eq_none_iff] at hq;intro x hx;simp[hq x hx]⟩
 | some i=>
  have h1:=List.findIdx?_eq_some_iff_getElem.1 hq;obtain⟨h2,h3,h4⟩:=h1;refine .inr ⟨i,h2,rfl,rfl,?_⟩;rw[List.find?_eq_some_iff_getElem];exact⟨h3,i,h2,rfl,fun j hj=>by simpa using h4 j hj⟩
theorem mw {α:Type}(p:α->Bool):∀ (l:List α) (k:Nat),k<=l.length->(∀ j (h:j < l.length),j < k->p l[j]=true)->(k=l.length\/∃ h:k < l.length,p l[k]=false)->(l.takeWhile p).length=k
 | [],k,hk,_,_=>by
  have:k=0:=by simpa using hk
  rw[this];rfl
 | x :: l,0,_,_,hk=>by
  rcases hk with hk|⟨h,hk⟩
  ·simp at hk
  ·have:p x=false:=hk;rw[List.takeWhile_cons_of_neg (by simp[this])];rfl
 | x :: l,k+1,hk,h,hn=>by
  have hx:p x=true:=h 0 (by simp) (by omega);rw[List.takeWhile_cons_of_pos hx,aZ,mw p l k (by simpa using hk) (fun j hj Am=>h (j+1) (by simp;omega) (by omega)) ?_];rcases hn with hn|⟨h2,hn⟩
  ·left;simpa using hn
  ·right;exact⟨by simpa using h2,hn⟩
theorem C5 {qk ys:List (List Tr)}{n b:Nat}(h:qk.length+ys.length<=n)(hb:n*b<=140737488355328):(qk.length+ys.length)*b<=140737488355328:=aX (cy _ h) hb
theorem ya {qk ys:List (List Tr)}{n b:Nat}(h:qk.length+ys.length<=n)(h0:0 < b)(hb:n*b < 140737488355328):qk.length+ys.length < 140737488355328:=by
 have:n*1<=n*b:=Nat.mul_le_mul_left _ h0;omega
theorem dJ {n b:Nat}(hb:b<=3000)(h:n*b<=aV):(n+1)*b < 140737488355328:=by
 unfold aV at h;rw[Nat.add_mul];omega
section
def eR (n a b:Int):Bool:=decide (n>=a)&&decide (n<=b)
def allI {α:Type}(p:Nat->α->Bool):Nat->List α->Bool
 | _,[]=>true
 | k,x :: r=>p k x&&allI p (k+1) r
theorem lQ {α:Type}{p:Nat->α->Bool}:∀ {k:Nat} {l:List α},allI p k l=true↔∀ j (h:j < l.length),p (k+j) l[j]=true
 | k,[]=>⟨fun _ j h=>by simp at h,fun _=>rfl⟩
 | k,x :: r=>by
  rw[allI,ah,lQ];refine⟨fun ⟨h1,h2⟩ j h=>?_,fun h=>⟨h 0 (by simp),fun j hj=>?_⟩⟩
  ·cases j with
   | zero=>exact h1
   | succ j=>have:=h2 j (by simpa using h);rwa [show k+1+j=k+(j+1) by omega] at this
  ·have:=h (j+1) (by simpa using hj)
   rwa [show k+1+j=k+(j+1) by omega]
def lp (l:List Int)(n:Int):Int:=((l.count n:Nat):Int)
def fJ (s:aq)(z w:Int)(l:List Int):Bool:=l.all fun id=>eh s.aa id&&((cb s.aa id).cn==z&&((!decide (w>=0)||(cb s.aa id).dq==w)&&lp l id==1))
def oG (a b c d e f:Int):Bool:=(!decide (a < 0)&&!decide (a > 1000000))&&((!decide (b < 0)&&!decide (b > 1000000))&&((!decide (c < 0)&&!decide (c > 1000000))&&((!decide (d < 0)&&!decide (d > 1000000))&&((!decide (e < 0)&&!decide (e > 1000000))&&(!decide (f < 0)&&!decide (f > 1000000))))))
def uK (s:aq)(i:Nat)(p:bO):Bool:=eR p.jC (-1000000) 1000000&&(eR p.ll 0 1000000&&(eR p.Aj 0 1000000&&(oG p.wL p.wK p.wJ p.wI p.wH p.wG&&(fJ s 2 i p.dt&&(fJ s 1 i p.hand&&fJ s 3 i p.dO)))))
def fw (s:aq):Bool:=eR s.aw.length 2 4&&(allI (uK s) 0 s.aw&&(fJ s 0 (-1) s.bu&&fJ s 4 (-1) s.fQ))
def rp (s:aq)(id:Int):Int:=((s.stack.countP (fun x=>x.kind==1&&x.id==id):Nat):Int)
def iK (s:aq)(o:az):Bool:=if o.cn==5 then rp s o.id==1 else lp (bY s o.cn o.dq) o.id==1
def F2 (o:az):az:={ o with j3:=-1,blocked:=false,blocks:=0 }
def xM (o:az):az:={ o with fX:=0,jH:=false,nD:=0 }
def Ax (a b c:Int):Bool:=(!decide (a < 0)&&!decide (a > 1000000))&&((!decide (b < 0)&&!decide (b > 1000000))&&(!decide (c < 0)&&!decide (c > 1000000)))
def wy (o:az):Bool:=o.j3==-1&&(!o.blocked&&(o.blocks==0&&(o.fX==0&&(!o.jH&&(o.nD==0&&(!o.fe&&(!o.qh&&(o.de==0&&(o.dd==0&&o.dA==0)))))))))
def mh (o:az)(aE aw:Int):Bool:=
 (!decide (o.id < 1)&&(!decide (o.ee < 0)&&(!decide (o.ee>=aE)&&(!decide (o.dq < 0)&&(!decide (o.dq>=aw)&&(!decide (o.dB < 0)&&(!decide (o.dB>=aw)&&(!decide (o.cn < 0)&&!decide (o.cn > 5))))))))) &&
 ((!decide (o.fX < 0)&&(!decide (o.fX > 1000000)&&(!decide (o.dG < 0)&&(!decide (o.dG > 1000000)&&(!decide (o.blocks < 0)&&(!decide (o.blocks > 1000000)&&(!decide (o.nD < 0)&&!decide (o.nD > 1000000)))))))) &&
 ((Ax o.de o.dd o.dA&&(!decide (o.copy < -1)&&(!decide (o.copy>=aE)&&(!decide (o.j3 < -1)&&!decide (o.j3>=aw)))))&&(o.cn==0||wy o)))
def jB (aE:Int)(s:aq)(i:Nat)(o:az):Bool:=mh o aE s.aw.length&&(!decide (o.id>=s.bC)&&(!decide (o.dG>=s.bF)&&((!decide ((i:Int) > 0)||!decide ((s.aa.getD (i - 1) nz).id>=o.id))&&iK s o)))
def kv (aE:Int)(s:aq):Bool:=!decide ((s.aa.length:Int) > 2048)&&allI (jB aE s) 0 s.aa
def qn (s:aq)(p:Int):Bool:=eR p 0 ((s.aw.length:Int) - 1)
structure uA where
 ab:bJ->Bool
 zero:bJ->Bool
 set:List Int->Bool
 txt:List dR->ByteArray
def mC (q:uA)(s:aq)(x:dW):Bool:=
 (eR x.id 1 (s.bC - 1)&&(eR x.x 0 1000000&&(!decide ((x.targets.length:Int) > 4)&&qn s x.dB))) &&
 (if x.kind==1 then x.dC==x.id&&(eh s.aa x.id&&((cb s.aa x.id).cn==5&&(q.zero x.aj||q.ab x.aj))) else x.kind==2&&(!eh s.aa x.id&&q.ab x.aj))
def jX (q:uA)(s:aq)(i:Nat)(x:dW):Bool:=mC q s x&&(s.stack.take i).all fun y=>!(y.id==x.id)
def lj (q:uA)(s:aq)(w:aP):Bool:=qn s w.dB&&(w.aj.kind==4&&q.ab w.aj)
def fY (q:uA)(s:aq)(c:dI):Bool:=qn s c.dB&&(!decide (c.dG>=s.bF)&&(eR c.Bl 1 2&&(q.set c.aa&&!((q.txt c.cH).toList==(⟨#[]⟩:ByteArray).toList))))
def gd (q:uA)(s:aq):Bool:=(!decide ((s.stack.length:Int) > 64)&&(!decide ((s.iM.length:Int) > 64)&&!decide ((s.dD.length:Int) > 64)))&&(allI (jX q s) 0 s.stack&&(s.iM.all (lj q s)&&s.dD.all (fY q s)))
def EU (s:aq):Bool:=eR s.bC 1 1000000&&(eR s.bF 1 1000000&&(eR s.tt 0 500&&(eR s.step 0 10&&!decide ((s.aa.length:Int) > 2048))))
def uR (s:aq):Bool:=fw s&&(qn s s.lT&&(qn s s.priority&&(eR s.lC 0 s.aw.length&&(!decide ((s.extra.length:Int) > 500)&&eR s.oy 0 2))))
def ta (s:aq):Bool:=if s.oy==1 then qn s s.jR else s.jR==-1
def iQ (q:uA)(aE:Int)(s:aq):Bool:=EU s&&(uR s&&(s.extra.all (qn s)&&(ta s&&(kv aE s&&gd q s))))
theorem Br {α:Type}{l:List α}{i:Int}(h0:0<=i)(hl:i.toNat < l.length):l.take (i+1).toNat=l.take i.toNat++[l[i.toNat]]:=by
 rw[show(i+1).toNat=i.toNat+1 by omega,List.take_append_getElem hl]
theorem Wv {l:List Int}{i n:Int}(h0:0<=i)(hl:i.toNat < l.length)(h:l[i.toNat]=n):((((l.take (i+1).toNat).count n:Nat)):Int)=((l.take i.toNat).count n:Nat)+1:=by
 rw[Br h0 hl,List.count_append,h];simp
theorem R9 {l:List Int}{i n:Int}(h0:0<=i)(hl:i.toNat < l.length)(h:¬ l[i.toNat]=n):((((l.take (i+1).toNat).count n:Nat)):Int)=((l.take i.toNat).count n:Nat):=by
 rw[Br h0 hl,List.count_append];simp[h]
theorem K6 {α:Type}{l:List α}{p:α->Bool}{i:Int}(h0:0<=i)(hl:i.toNat < l.length):((((l.take (i+1).toNat).countP p:Nat)):Int)=((l.take i.toNat).countP p:Nat)+(if p l[i.toNat] then 1 else 0):=by
 rw[Br h0 hl,List.countP_append]
 by_cases h:p l[i.toNat]
 ·simp[h]
 ·simp[h]
theorem vX {α:Type}{l:List α}{i:Int}(h1:¬ i < (l.length:Int)):l.take i.toNat=l:=List.take_of_length_le (by omega)
def Up {α:Type}(p:Nat->α->Bool)(l:List α)(i:Int):Prop:=∀ j (h:j < l.length),(j:Int) < i->p j l[j]=true
theorem Up.zero {α:Type}{p:Nat->α->Bool}{l:List α}:Up p l 0:=fun j h hj=>by omega
theorem Up.step {α:Type}{p:Nat->α->Bool}{l:List α}{i:Int}(h0:0<=i)(h:Up p l i)(hl:i.toNat < l.length)(hp:p i.toNat l[i.toNat]=true):Up p l (i+1):=fun j hj hji=>by
 by_cases e:j=i.toNat
 ·subst e;exact hp
 ·exact h j hj (by omega)
theorem Up.all {α:Type}{p:Nat->α->Bool}{l:List α}{i:Int}(h:Up p l i)(h1:¬ i < (l.length:Int)):allI p 0 l=true:=lQ.2 fun j hj=>by rw[bw];exact h j hj (by omega)
theorem Up.WO {α:Type}{p:α->Bool}{l:List α}{i:Int}(h:Up (fun _=>p) l i)(h1:¬ i < (l.length:Int)):l.all p=true:=aN.2 fun x hx=>by
 obtain⟨j,hj,rfl⟩:=bD.1 hx;exact h j hj (by omega)
theorem yd {α:Type}{p:α->Bool}{l:List α}{i:Nat}(hl:i < l.length)(hp:p l[i]=false):l.all p=false:=by
 rw[<- Bool.not_eq_true,aN];intro h;rw[h _ (aH hl)] at hp
 cases hp
theorem C8 {α:Type}{p:Nat->α->Bool}{l:List α}{i:Nat}(hl:i < l.length)(hp:p i l[i]=false):allI p 0 l=false:=by
 rw[<- Bool.not_eq_true,lQ];intro h;have:=h i hl;rw[bw,hp] at this
 cases this
theorem zo {a:List Int}{b i p:Int}(h0:0<=i)(hle:i<=(((a.map eI).length:Nat):Int))(hb:a.length*8<=aV)(hp:p=((a.take i.toNat).count b:Nat)/\p<=i)(hl:i.toNat < a.length)(h:a[i.toNat]=b):IntKind.i64.wrap (p+1)=((a.take (i+1).toNat).count b:Nat)/\IntKind.i64.wrap (p+1)<=i+1:=by
 obtain⟨h1,h2⟩:=hp;rw[Lm] at hle;unfold aV at hb
 have hw:IntKind.i64.wrap (p+1)=p+1:=by
  have:0<=p:=by rw[h1];exact Int.natCast_nonneg _
  rw[bp];omega
 rw[hw,Wv h0 hl h,h1];exact⟨rfl,by omega⟩
theorem zp {a:List Int}{b i p:Int}(h0:0<=i)(hp:p=((a.take i.toNat).count b:Nat)/\p<=i)(hl:i.toNat < a.length)(h:¬ a[i.toNat]=b):p=((a.take (i+1).toNat).count b:Nat)/\p<=i+1:=by
 rw[R9 h0 hl h];exact⟨hp.1,by omega⟩
theorem Lv {a:List Int}{b i p:Int}(hp:p=((a.take i.toNat).count b:Nat)/\p<=i)(h:¬ i < (((a.map eI).length:Nat):Int)):p=lp a b:=by
 rw[Lm] at h;rw[hp.1,vX h];rfl
theorem zk {n b:Nat}(h:n*b<=aV)(hb:Nat.blt 0 b=true):IntKind.i64.wrap ((n:Int) - 1)=(n:Int) - 1:=by
 unfold aV at h;have:=Nb hb;have:n*1<=n*b:=Nat.mul_le_mul (ak _) this;rw[bp];omega
theorem FR {α:Type}{f:α->List Tr}{a:List α}{p:α->Bool}{i q:Int}(h0:0<=i)(hle:i<=(((a.map f).length:Nat):Int)){b:Nat}(hb:a.length*b<=aV)(NV:Nat.blt 0 b=true)(hp:q=((a.take i.toNat).countP p:Nat)/\q<=i)(hl:i.toNat < a.length)(h:p a[i.toNat]=true):IntKind.i64.wrap (q+1)=((a.take (i+1).toNat).countP p:Nat)/\IntKind.i64.wrap (q+1)<=i+1:=by
 obtain⟨h1,h2⟩:=hp;rw[Lm] at hle;unfold aV at hb;have pS:=Nb NV;have:a.length*1<=a.length*b:=Nat.mul_le_mul (ak _) pS
 have hw:IntKind.i64.wrap (q+1)=q+1:=by
  have:0<=q:=by rw[h1];exact Int.natCast_nonneg _
  rw[bp];omega
 rw[hw,K6 h0 hl,h,h1];exact⟨rfl,by omega⟩
theorem FT {α:Type}{a:List α}{p:α->Bool}{i q:Int}(h0:0<=i)(hp:q=((a.take i.toNat).countP p:Nat)/\q<=i)(hl:i.toNat < a.length)(h:p a[i.toNat]=false):q=((a.take (i+1).toNat).countP p:Nat)/\q<=i+1:=by
 rw[K6 h0 hl,h];exact⟨by simpa using hp.1,by omega⟩
theorem Sb {α:Type}{f:α->List Tr}{a:List α}{p:α->Bool}{i q:Int}(hp:q=((a.take i.toNat).countP p:Nat)/\q<=i)(h:¬ i < (((a.map f).length:Nat):Int)):q=((a.countP p:Nat):Int):=by
 rw[Lm] at h;rw[hp.1,vX h]
theorem UT {aE:Int}{s:aq}{i:Int}(_h0:0<=i)(hl:i.toNat < s.aa.length)(h:jB aE s i.toNat s.aa[i.toNat]=false):false=kv aE s:=by
 unfold kv;rw[C8 hl h,Bool.and_false]
theorem PX {aE:Int}{s:aq}{i:Int}{f:az->List Tr}(hn:¬ (((s.aa.map f).length:Nat):Int) > 2048)(h:Up (jB aE s) s.aa i)(h1:¬ i < (((s.aa.map f).length:Nat):Int)):true=kv aE s:=by
 rw[Lm] at hn h1;unfold kv;rw[h.all h1,decide_eq_false hn];rfl
section
variable {s:aq}{o:az}{i:Int}{a:List bd}{f:bd->List Tr}{g:bO->List Tr}
theorem zY (h1:mh o (((a.map f).length:Nat):Int) (((s.aw.map g).length:Nat):Int)=true)(h2:¬ o.id>=s.bC)(h3:¬ o.dG>=s.bF)(h4:i.toNat=0\/¬ (s.aa.getD (i.toNat - 1) nz).id>=o.id)(h5:iK s o=true):jB ((a.length:Nat):Int) s i.toNat o=true:=by
 rw[Lm,Lm] at h1;unfold jB;rw[h1,h5,decide_eq_false h2,decide_eq_false h3];rcases h4 with h4|h4
 ·rw[h4];rfl
 ·rw[decide_eq_false h4];simp
theorem P3 (h1:mh o (((a.map f).length:Nat):Int) (((s.aw.map g).length:Nat):Int)=false):jB ((a.length:Nat):Int) s i.toNat o=false:=by
 rw[Lm,Lm] at h1;unfold jB;rw[h1];rfl
theorem P2 {c:Int}(h:o.id>=s.bC):jB c s i.toNat o=false:=by
 unfold jB;rw[decide_eq_true h];simp
theorem P1 {c:Int}(h:o.dG>=s.bF):jB c s i.toNat o=false:=by
 unfold jB;rw[decide_eq_true h];simp
theorem P0 {c:Int}(h0:i > 0)(h:(s.aa.getD (i.toNat - 1) nz).id>=o.id):jB c s i.toNat o=false:=by
 unfold jB;rw[decide_eq_true h,decide_eq_true (show((i.toNat:Nat):Int) > 0 by omega)];simp
theorem PZ {c:Int}(h:iK s o=false):jB c s i.toNat o=false:=by
 unfold jB;rw[h];simp
end
theorem wM {s:aq}{i:Int}{p:bO}(h0:0<=i):uK s i.toNat p=(eR p.jC (-1000000) 1000000&&(eR p.ll 0 1000000&&(eR p.Aj 0 1000000&&(oG p.wL p.wK p.wJ p.wI p.wH p.wG&&(fJ s 2 i p.dt&&(fJ s 1 i p.hand&&fJ s 3 i p.dO)))))):=by
 unfold uK;rw[Int.toNat_of_nonneg h0]
theorem UD {s:aq}{f:bO->List Tr}(h:eR (((s.aw.map f).length:Nat):Int) 2 4=false):false=fw s:=by
 rw[Lm] at h;unfold fw;rw[h];rfl
theorem UC {s:aq}{i:Int}(hl:i.toNat < s.aw.length)(h:uK s i.toNat s.aw[i.toNat]=false):false=fw s:=by
 unfold fw;rw[C8 hl h];simp
theorem PM {s:aq}{i:Int}{f:bO->List Tr}{r:Bool}(hn:eR (((s.aw.map f).length:Nat):Int) 2 4=true)(h:Up (uK s) s.aw i)(h1:¬ i < (((s.aw.map f).length:Nat):Int))(hr:r=(fJ s 0 (-1) s.bu&&fJ s 4 (-1) s.fQ)):r=fw s:=by
 rw[Lm] at hn h1;unfold fw;rw[hn,h.all h1,hr];rfl
theorem afD {n:Int}(h:eR n 1 1000000=true):IntKind.i64.wrap (n - 1)=n - 1:=by
 unfold eR at h;simp only[ah,decide_eq_true_eq] at h;rw[bp];omega
section
variable {q:uA}{s:aq}{x:dW}{i k:Int}
theorem ER {f:dW->List Tr}(hi:i < (((s.stack.map f).length:Nat):Int))(h1:mC q s x=true)(h2:Up (fun _ (y:dW)=>!(y.id==x.id)) s.stack k)(h3:¬ k < i):jX q s i.toNat x=true:=by
 rw[Lm] at hi;unfold jX;rw[h1,cq,aN];intro y hy;obtain⟨j,hj,rfl⟩:=bD.1 hy;rw[au] at hj;rw[List.getElem_take];exact h2 j (by omega) (by omega)
theorem VG (h1:mC q s x=false):jX q s i.toNat x=false:=by
 unfold jX;rw[h1];rfl
theorem VF (h0:0<=k)(hk:k < i)(hl:k.toNat < s.stack.length)(h:s.stack[k.toNat].id=x.id):jX q s i.toNat x=false:=by
 unfold jX;rw[yd (i:=k.toNat) (by rw[au];omega) (by rw[List.getElem_take,h];simp),Bool.and_false]
theorem GQ {f:dW->List Tr}{g:aP->List Tr}{c:dI->List Tr}(h:(((s.stack.map f).length:Nat):Int) > 64\/(((s.iM.map g).length:Nat):Int) > 64\/(((s.dD.map c).length:Nat):Int) > 64):false=gd q s:=by
 rw[Lm,Lm,Lm] at h;unfold gd;rcases h with h|h|h <;> rw[decide_eq_true h] <;> simp
theorem Yn (hl:i.toNat < s.stack.length)(h:jX q s i.toNat s.stack[i.toNat]=false):false=gd q s:=by
 unfold gd;rw[C8 hl h];simp
theorem Ym (hl:i.toNat < s.iM.length)(h:lj q s s.iM[i.toNat]=false):false=gd q s:=by
 unfold gd;rw[yd hl h];simp
theorem Yl (hl:i.toNat < s.dD.length)(h:fY q s s.dD[i.toNat]=false):false=gd q s:=by
 unfold gd;rw[yd (p:=fY q s) hl h];simp
theorem Tt {j:Int}{f:dW->List Tr}{g:aP->List Tr}{c:dI->List Tr}(g1:¬ (((s.stack.map f).length:Nat):Int) > 64)(g2:¬ (((s.iM.map g).length:Nat):Int) > 64)(g3:¬ (((s.dD.map c).length:Nat):Int) > 64)
  (h1:Up (jX q s) s.stack i) (e1:¬ i < (((s.stack.map f).length:Nat):Int)) (h2:Up (fun _=>lj q s) s.iM j) (e2:¬ j < (((s.iM.map g).length:Nat):Int)) (h3:Up (fun _=>fY q s) s.dD k) (e3:¬ k < (((s.dD.map c).length:Nat):Int)):true=gd q s:=by
 rw[Lm] at g1 g2 g3 e1 e2 e3;unfold gd;rw[decide_eq_false g1,decide_eq_false g2,decide_eq_false g3,h1.all e1,h2.WO e2,h3.WO e3];rfl
end
section
variable {q:uA}{s:aq}{c:dI}
theorem xQ (h1:qn s c.dB=true)(h2:¬ c.dG>=s.bF)(h3:eR c.Bl 1 2=true)(h4:q.set c.aa=true)(h5:((q.txt c.cH).toList==(⟨#[]⟩:ByteArray).toList)=false):fY q s c=true:=by
 unfold fY;rw[h1,decide_eq_false h2,h3,h4,h5];rfl
theorem CV (h:qn s c.dB=false):fY q s c=false:=by
 unfold fY;rw[h];rfl
theorem CU (h:c.dG>=s.bF):fY q s c=false:=by
 unfold fY;rw[decide_eq_true h];simp
theorem CT (h:eR c.Bl 1 2=false):fY q s c=false:=by
 unfold fY;rw[h];simp
theorem CS (h:q.set c.aa=false):fY q s c=false:=by
 unfold fY;rw[h];simp
theorem CR (h:((q.txt c.cH).toList==(⟨#[]⟩:ByteArray).toList)=true):fY q s c=false:=by
 unfold fY;rw[h,Bool.not_true,Bool.and_false,Bool.and_false,Bool.and_false,Bool.and_false]
end
section
variable {q:uA}{c:Int}{s:aq}{i:Int}
theorem aiF (h:EU s=false):false=iQ q c s:=by unfold iQ;rw[h];rfl
theorem aiE (h:uR s=false):false=iQ q c s:=by unfold iQ;rw[h];simp
theorem aiD (hl:i.toNat < s.extra.length)(h:qn s s.extra[i.toNat]=false):false=iQ q c s:=by unfold iQ;rw[yd hl h];simp
theorem aiC (h:ta s=false):false=iQ q c s:=by unfold iQ;rw[h];simp
theorem ZK {f:Int->List Tr}{r:Bool}(hA:EU s=true)(hB:uR s=true)(h:Up (fun _=>qn s) s.extra i)(h1:¬ i < (((s.extra.map f).length:Nat):Int))(hW:ta s=true)(hr:r=(kv c s&&gd q s)):r=iQ q c s:=by
 rw[Lm] at h1;unfold iQ;rw[hA,hB,h.WO h1,hW,hr];rfl
theorem aiG {f:bO->List Tr}{g:Int->List Tr}(h1:fw s=true)(h2:qn s s.lT=true)(h3:qn s s.priority=true)(h4:eR s.lC 0 (((s.aw.map f).length:Nat):Int)=true)(h5:¬ (((s.extra.map g).length:Nat):Int) > 500)(h6:eR s.oy 0 2=true):uR s=true:=by
 rw[Lm] at h4 h5;unfold uR;rw[h1,h2,h3,h4,decide_eq_false h5,h6];rfl
theorem ZO (h1:s.oy=1)(h2:qn s s.jR=true):ta s=true:=by unfold ta;rw[h1,h2];rfl
theorem ZN (h1:¬ s.oy=1)(h2:s.jR = -1):ta s=true:=by unfold ta;rw[if_neg (by simpa using h1),h2];rfl
theorem ZQ (h1:s.oy=1)(h2:qn s s.jR=false):ta s=false:=by unfold ta;rw[h1,h2];rfl
theorem ZP (h1:¬ s.oy=1)(h2:¬ s.jR = -1):ta s=false:=by unfold ta;rw[if_neg (by simpa using h1)];simpa using h2
theorem Z2 (h:eR s.bC 1 1000000=false):EU s=false:=by unfold EU;rw[h];simp
theorem Z1 (h:eR s.bF 1 1000000=false):EU s=false:=by unfold EU;rw[h];simp
theorem Z0 (h:eR s.tt 0 500=false):EU s=false:=by unfold EU;rw[h];simp
theorem ZZ (h:eR s.step 0 10=false):EU s=false:=by unfold EU;rw[h];simp
theorem ZY {f:az->List Tr}(h:(((s.aa.map f).length:Nat):Int) > 2048):EU s=false:=by
 rw[Lm] at h;unfold EU;rw[decide_eq_true h];simp
theorem aiH {f:az->List Tr}(h1:eR s.bC 1 1000000=true)(h2:eR s.bF 1 1000000=true)(h3:eR s.tt 0 500=true)(h4:eR s.step 0 10=true)(h5:¬ (((s.aa.map f).length:Nat):Int) > 2048):EU s=true:=by
 rw[Lm] at h5;unfold EU;rw[h1,h2,h3,h4,decide_eq_false h5];rfl
theorem ZW (h:fw s=false):uR s=false:=by unfold uR;rw[h];simp
theorem ZV (h:qn s s.lT=false):uR s=false:=by unfold uR;rw[h];simp
theorem ZU (h:qn s s.priority=false):uR s=false:=by unfold uR;rw[h];simp
theorem ZT (h:eR s.oy 0 2=false):uR s=false:=by unfold uR;rw[h];simp
theorem ZS {f:bO->List Tr}(h:eR s.lC 0 (((s.aw.map f).length:Nat):Int)=false):uR s=false:=by
 rw[Lm] at h;unfold uR;rw[h];simp
theorem ZR {f:Int->List Tr}(h:(((s.extra.map f).length:Nat):Int) > 500):uR s=false:=by
 rw[Lm] at h;unfold uR;rw[decide_eq_true h];simp
end
end
end
end Cg
namespace Go.Proofs.YtbmdcnkidjlbbaaGreat
section
open Go Cg
abbrev zI:Ce:=.t (.lit (.int .i64 0))
abbrev zB:Ce:=.t (.lit (.bool false))
abbrev zS:Ce:=.t (.lit (.string ⟨#[]⟩))
abbrev zU:Ce:=.t (.lit (.int .u64 0))
def y5:Ty:=⟨.int .u8,1,1,[.t (.lit (.int .u8 0))],[]⟩
def y21:Ty:=⟨.int .i32,1,4,[.t (.lit (.int .i32 0))],[]⟩
def y30:Ty:=⟨.str [(0,23),(1,24),(2,25),(3,25),(4,26),(5,27),(6,28),(7,3),(8,3),(9,3),(10,4),(11,3),(12,3),(13,3),(14,3),(15,29),(16,25),(17,3),(18,3)],19,280,[.nil,.nil,.nil,.nil,.nil,.nil,.nil,zI,zI,zI,zB,zI,zI,zI,zI,zU,.nil,zI,zI],[]⟩
def y33:Ty:=⟨.str [(0,3),(1,3),(2,3),(3,3),(4,3),(5,3),(6,3),(7,3),(8,3),(9,3),(10,4),(11,4),(12,32)],15,112,[zI,zI,zI,zI,zI,zI,zI,zI,zI,zI,zB,zB,zI,zI,zI],[.int,.int,.int,.int,.int,.int,.int,.int,.int,.int,.bool,.bool,.int,.int,.int]⟩
def y43:Ty:=⟨.str [(0,22),(1,31),(20,31),(39,34)],54,696,[.nil,.nil,.nil,.nil,.nil,.nil,.nil,.nil,zI,zI,zI,zB,zI,zI,zI,zI,zU,.nil,zI,zI,.nil,.nil,.nil,.nil,.nil,.nil,.nil,zI,zI,zI,zB,zI,zI,zI,zI,zU,.nil,zI,zI,zI,zI,zI,zI,zI,zI,zI,zI,zI,zI,zB,zB,zI,zI,zI],[]⟩
def y47:Ty:=⟨.str [(0,3),(1,3),(2,46)],7,56,[zI,zI,zI,zI,zI,zI,zI],[.int,.int,.int,.int,.int,.int,.int]⟩
def y50:Ty:=⟨.str [(0,3),(1,3),(2,49)],3,40,[zI,zI,.nil],[]⟩
def y53:Ty:=⟨.str [(0,9),(1,4),(2,48),(9,3),(10,51),(13,3),(14,3),(15,3),(16,52)],17,176,[zS,zB,zI,zI,zI,zI,zI,zI,zI,zI,zI,zI,.nil,zI,zI,zI,.nil],[]⟩
def y55:Ty:=⟨.str [(0,3),(1,3)],2,16,[zI,zI],[.int,.int]⟩
def y57:Ty:=⟨.str [(0,3),(1,3),(2,3),(3,3),(4,3),(5,3),(6,3),(7,9),(8,3),(9,3),(10,56),(12,56),(14,56)],16,136,[zI,zI,zI,zI,zI,zI,zI,zS,zI,zI,zI,zI,zI,zI,zI,zI],[.int,.int,.int,.int,.int,.int,.int,.str,.int,.int,.int,.int,.int,.int,.int,.int]⟩
def y60:Ty:=⟨.str [(0,48),(7,4),(8,4),(9,3)],10,72,[zI,zI,zI,zI,zI,zI,zI,zB,zB,zI],[.int,.int,.int,.int,.int,.int,.int,.bool,.bool,.int]⟩
def y62:Ty:=⟨.str [(0,3),(1,3),(2,58)],18,152,[zI,zI,zI,zI,zI,zI,zI,zI,zI,zS,zI,zI,zI,zI,zI,zI,zI,zI],[.int,.int,.int,.int,.int,.int,.int,.int,.int,.str,.int,.int,.int,.int,.int,.int,.int,.int]⟩
def y66:Ty:=⟨.str [(0,3),(1,3),(2,58),(18,3),(19,3),(20,3),(21,3)],22,184,[zI,zI,zI,zI,zI,zI,zI,zI,zI,zS,zI,zI,zI,zI,zI,zI,zI,zI,zI,zI,zI,zI],[.int,.int,.int,.int,.int,.int,.int,.int,.int,.str,.int,.int,.int,.int,.int,.int,.int,.int,.int,.int,.int,.int]⟩
def y68:Ty:=⟨.str [(0,3),(1,58),(17,59),(18,61),(28,4),(29,63),(47,4),(48,64),(49,65),(50,67)],72,640,[zI,zI,zI,zI,zI,zI,zI,zI,zS,zI,zI,zI,zI,zI,zI,zI,zI,.nil,zI,zI,zI,zI,zI,zI,zI,zB,zB,zI,zB,zI,zI,zI,zI,zI,zI,zI,zI,zI,zS,zI,zI,zI,zI,zI,zI,zI,zI,zB,.nil,.nil,zI,zI,zI,zI,zI,zI,zI,zI,zI,zS,zI,zI,zI,zI,zI,zI,zI,zI,zI,zI,zI,zI],[]⟩
def y71:Ty:=⟨.str [(0,3),(1,3),(2,69),(74,34)],89,768,[zI,zI,zI,zI,zI,zI,zI,zI,zI,zI,zS,zI,zI,zI,zI,zI,zI,zI,zI,.nil,zI,zI,zI,zI,zI,zI,zI,zB,zB,zI,zB,zI,zI,zI,zI,zI,zI,zI,zI,zI,zS,zI,zI,zI,zI,zI,zI,zI,zI,zB,.nil,.nil,zI,zI,zI,zI,zI,zI,zI,zI,zI,zS,zI,zI,zI,zI,zI,zI,zI,zI,zI,zI,zI,zI,zI,zI,zI,zI,zI,zI,zI,zI,zI,zI,zB,zB,zI,zI,zI],[]⟩
def y74:Ty:=⟨.str [(0,3),(1,3),(2,3),(3,3),(4,3),(5,4),(6,4),(7,4),(8,4),(9,3),(10,32),(13,3),(14,3),(15,3),(16,4),(17,3),(18,3)],19,128,[zI,zI,zI,zI,zI,zB,zB,zB,zB,zI,zI,zI,zI,zI,zI,zI,zB,zI,zI],[.int,.int,.int,.int,.int,.bool,.bool,.bool,.bool,.int,.int,.int,.int,.int,.int,.int,.bool,.int,.int]⟩
def y76:Ty:=⟨.str [(0,3),(1,3),(2,3),(3,3),(4,3)],5,40,[zI,zI,zI,zI,zI],[.int,.int,.int,.int,.int]⟩
def y89:Ty:=⟨.str [(0,31),(19,38),(20,86),(21,87),(22,88),(23,87)],24,400,[.nil,.nil,.nil,.nil,.nil,.nil,.nil,zI,zI,zI,zB,zI,zI,zI,zI,zU,.nil,zI,zI,.nil,.nil,.nil,.nil,.nil],[]⟩
def y99:Ty:=⟨.str [(0,3),(1,3),(2,3),(3,69),(75,4)],76,672,[zI,zI,zI,zI,zI,zI,zI,zI,zI,zI,zI,zS,zI,zI,zI,zI,zI,zI,zI,zI,.nil,zI,zI,zI,zI,zI,zI,zI,zB,zB,zI,zB,zI,zI,zI,zI,zI,zI,zI,zI,zI,zS,zI,zI,zI,zI,zI,zI,zI,zI,zB,.nil,.nil,zI,zI,zI,zI,zI,zI,zI,zI,zI,zS,zI,zI,zI,zI,zI,zI,zI,zI,zI,zI,zI,zI,zB],[]⟩
def afB:Ty:=⟨.str [(0,31),(19,31),(38,38),(39,38),(40,34)],55,720,[.nil,.nil,.nil,.nil,.nil,.nil,.nil,zI,zI,zI,zB,zI,zI,zI,zI,zU,.nil,zI,zI,.nil,.nil,.nil,.nil,.nil,.nil,.nil,zI,zI,zI,zB,zI,zI,zI,zI,zU,.nil,zI,zI,.nil,.nil,zI,zI,zI,zI,zI,zI,zI,zI,zI,zI,zB,zB,zI,zI,zI],[]⟩
def afA:Ty:=⟨.str [(0,31),(19,31),(38,38),(39,38),(40,34),(55,25)],56,744,[.nil,.nil,.nil,.nil,.nil,.nil,.nil,zI,zI,zI,zB,zI,zI,zI,zI,zU,.nil,zI,zI,.nil,.nil,.nil,.nil,.nil,.nil,.nil,zI,zI,zI,zB,zI,zI,zI,zI,zU,.nil,zI,zI,.nil,.nil,zI,zI,zI,zI,zI,zI,zI,zI,zI,zI,zB,zB,zI,zI,zI,.nil],[]⟩
def aeZ:Ty:=⟨.str [(0,3),(1,3),(2,3),(3,69)],75,664,[zI,zI,zI,zI,zI,zI,zI,zI,zI,zI,zI,zS,zI,zI,zI,zI,zI,zI,zI,zI,.nil,zI,zI,zI,zI,zI,zI,zI,zB,zB,zI,zB,zI,zI,zI,zI,zI,zI,zI,zI,zI,zS,zI,zI,zI,zI,zI,zI,zI,zI,zB,.nil,.nil,zI,zI,zI,zI,zI,zI,zI,zI,zI,zS,zI,zI,zI,zI,zI,zI,zI,zI,zI,zI,zI,zI],[]⟩
def aeY:Ty:=⟨.str [(0,3),(1,3),(2,3),(3,58)],19,160,[zI,zI,zI,zI,zI,zI,zI,zI,zI,zI,zS,zI,zI,zI,zI,zI,zI,zI,zI],[.int,.int,.int,.int,.int,.int,.int,.int,.int,.int,.str,.int,.int,.int,.int,.int,.int,.int,.int]⟩
def aeX:Ty:=⟨.arr 6 3,6,48,[zI,zI,zI,zI,zI,zI],[.int,.int,.int,.int,.int,.int]⟩
def aeW:Ty:=⟨.str [(0,3),(1,119),(19,121),(38,3),(39,3),(40,9),(41,58),(57,123),(63,59)],64,560,[zI,zI,zI,zI,zI,zI,zI,zI,zI,zI,zS,zI,zI,zI,zI,zI,zI,zI,zI,zI,zI,zI,zI,zI,zI,zI,zI,zI,zI,zS,zI,zI,zI,zI,zI,zI,zI,zI,zI,zI,zS,zI,zI,zI,zI,zI,zI,zI,zS,zI,zI,zI,zI,zI,zI,zI,zI,zI,zI,zI,zI,zI,zI,.nil],[]⟩
def aeV:Ty:=⟨.str [(0,9),(1,48),(8,3),(9,51),(12,3),(13,3),(14,3),(15,52),(16,3)],17,176,[zS,zI,zI,zI,zI,zI,zI,zI,zI,zI,zI,.nil,zI,zI,zI,.nil,zI],[]⟩
def aeU:Ty:=⟨.str [(0,3),(1,3),(2,3),(3,3),(4,4),(5,25),(6,58),(22,59)],23,224,[zI,zI,zI,zI,zB,.nil,zI,zI,zI,zI,zI,zI,zI,zS,zI,zI,zI,zI,zI,zI,zI,zI,.nil],[]⟩
def aeT:Ty:=⟨.str [(0,4),(1,4),(2,58)],18,144,[zB,zB,zI,zI,zI,zI,zI,zI,zI,zS,zI,zI,zI,zI,zI,zI,zI,zI],[.bool,.bool,.int,.int,.int,.int,.int,.int,.int,.str,.int,.int,.int,.int,.int,.int,.int,.int]⟩
def aeS:Ty:=⟨.str [(0,3),(1,3),(2,3),(3,123),(9,4),(10,4),(11,25),(12,25),(13,25)],14,152,[zI,zI,zI,zI,zI,zI,zI,zI,zI,zB,zB,.nil,.nil,.nil],[]⟩
def aeR:Ty:=⟨.str [(0,3),(1,3),(2,3),(3,3),(4,3),(5,4),(6,69),(78,174),(79,34)],94,824,[zI,zI,zI,zI,zI,zB,zI,zI,zI,zI,zI,zI,zI,zI,zS,zI,zI,zI,zI,zI,zI,zI,zI,.nil,zI,zI,zI,zI,zI,zI,zI,zB,zB,zI,zB,zI,zI,zI,zI,zI,zI,zI,zI,zI,zS,zI,zI,zI,zI,zI,zI,zI,zI,zB,.nil,.nil,zI,zI,zI,zI,zI,zI,zI,zI,zI,zS,zI,zI,zI,zI,zI,zI,zI,zI,zI,zI,zI,zI,.nil,zI,zI,zI,zI,zI,zI,zI,zI,zI,zI,zB,zB,zI,zI,zI],[]⟩
def aeQ:Ty:=⟨.str [(0,3),(1,3),(2,3),(3,3),(4,25),(5,59)],6,80,[zI,zI,zI,zI,.nil,.nil],[]⟩
def aeP:Ty:=⟨.str [(0,3),(1,3),(2,3),(3,9),(4,58)],20,176,[zI,zI,zI,zS,zI,zI,zI,zI,zI,zI,zI,zS,zI,zI,zI,zI,zI,zI,zI,zI],[.int,.int,.int,.str,.int,.int,.int,.int,.int,.int,.int,.str,.int,.int,.int,.int,.int,.int,.int,.int]⟩
def tab:List (Nat × Ty):=[(2,⟨.int .i64,1,8,[zI],[]⟩),(3,⟨.int .i64,1,8,[zI],[]⟩),(4,⟨.bas,1,1,[zB],[.bool]⟩),(5,y5),(6,y5),(9,⟨.string,1,16,[zS],[]⟩),(12,⟨.int .u64,1,8,[zU],[]⟩),(15,⟨.ptr 314,1,8,[.bot],[]⟩),(16,⟨.ptr 317,1,8,[.bot],[]⟩),(17,⟨.ptr 326,1,8,[.bot],[]⟩),(21,y21),(22,⟨.iU 54,1,24,[.nil],[]⟩),(23,⟨.iU 163,1,24,[.nil],[]⟩),(24,⟨.iU 75,1,24,[.nil],[]⟩),(25,⟨.iU 3,1,24,[.nil],[]⟩),(26,⟨.iU 176,1,24,[.nil],[]⟩),(27,⟨.iU 72,1,24,[.nil],[]⟩),(28,⟨.iU 178,1,24,[.nil],[]⟩),(29,⟨.int .u64,1,8,[zU],[]⟩),(30,y30),(31,y30),(32,⟨.arr 3 3,3,24,[zI,zI,zI],[.int,.int,.int]⟩),(33,y33),(34,y33),(38,⟨.iU 138,1,24,[.nil],[]⟩),(43,y43),(44,y43),(46,⟨.arr 5 3,5,40,[zI,zI,zI,zI,zI],[.int,.int,.int,.int,.int]⟩),(47,y47),(48,y47),(49,⟨.iU 9,1,24,[.nil],[]⟩),(50,y50),(51,y50),(52,⟨.iU 69,1,24,[.nil],[]⟩),(53,y53),(54,y53),(55,y55),(56,y55),(57,y57),(58,y57),(59,⟨.iU 198,1,24,[.nil],[]⟩),(60,y60),(61,y60),(62,y62),(63,y62),(64,⟨.iU 149,1,24,[.nil],[]⟩),(65,⟨.iU 125,1,24,[.nil],[]⟩),(66,y66),(67,y66),(68,y68),(69,y68),(71,y71),(72,y71),(74,y74),(75,y74),(76,y76),(77,y76),(82,⟨.int .i64,1,8,[zI],[]⟩),(86,⟨.iU 143,1,24,[.nil],[]⟩),(87,⟨.iU 4,1,24,[.nil],[]⟩),(88,⟨.iU 25,1,24,[.nil],[]⟩),(89,y89),(90,y89),(95,⟨.iU 100,1,24,[.nil],[]⟩),(99,y99),(100,y99),(105,afB),(106,afB),(109,afA),(110,afA),(111,⟨.iU 115,1,24,[.nil],[]⟩),(114,aeZ),(115,aeZ),(118,y62),(119,y62),(120,aeY),(121,aeY),(122,aeX),(123,aeX),(124,aeW),(125,aeW),(137,aeV),(138,aeV),(142,aeU),(143,aeU),(148,aeT),(149,aeT),(162,aeS),(163,aeS),(174,⟨.iU 328,1,24,[.nil],[]⟩),(175,aeR),(176,aeR),(177,aeQ),(178,aeQ),(197,aeP),(198,aeP),(199,⟨.iU 87,1,24,[.nil],[]⟩),(245,⟨.int .u64,1,8,[zU],[]⟩),(281,⟨.iU 5,1,24,[.nil],[]⟩),(283,⟨.arr 2 9,2,32,[zS,zS],[.str,.str]⟩),(284,⟨.arr 6 9,6,96,[zS,zS,zS,zS,zS,zS],[.str,.str,.str,.str,.str,.str]⟩),(290,⟨.int .i64,1,8,[zI],[]⟩),(298,⟨.int .u32,1,4,[.t (.lit (.int .u32 0))],[]⟩),(301,⟨.int .u64,1,8,[zU],[]⟩),(305,⟨.ptr 3,1,8,[.bot],[]⟩),(309,⟨.ptr 301,1,8,[.bot],[]⟩),(319,y5),(320,y5),(322,⟨.ptr 5,1,8,[.bot],[]⟩),(323,y21),(324,y21),(327,y55),(328,y55)]
def T (t:Nat):Option Ty:=lk tab t
theorem tabOk:dz ae T:=Oy ae tab (by kernel_rfl) (by kernel_rfl)
end
end Go.Proofs.YtbmdcnkidjlbbaaGreat
namespace Cg
section
open Go Go.RowKit Go.Sort Go.Lib
section
variable {P:Program}{T:Nat->Option Ty}{N:Nat}
def Eqs (e:Ex)(s:St):Ex->St->Prop:=fun e2 s2=>e2=e/\s2=s
section
variable (P:Program)(T:Nat->Option Ty)(N:Nat)
def ny (c:Code)(s:St)(e:Ex)(s':St):Prop:=∀ w0 (O:iy) [eQ O],Tp P T N w0 O c s (Eqs e s')
def cc (c:Code)(s:St)(Q:Ex->St->Prop):Prop:=∃ e s',ny P T N c s e s'/\Q e s'
inductive S9 (c:Code) (e:Ex) (s':St):Nat->St->Prop
  | stop {s:St}:ny P T N c s e s'->e≠.iV->S9 c e s' 0 s
  | next {n:Nat} {s s1 s2:St}:ny P T N c s .iV s1->Wk s1 s2->S9 c e s' n s2->S9 c e s' (n+1) s
def fM (c:Code)(s:St)(Q:Ex->St->Prop):Prop:=∃ n e s',S9 P T N c e s' n s/\Q e s'
def WS (cs:List Nat)(id:Nat)(ops:Array Oper)(d:Bool)(st:St)(Q:Ex->St->Prop):Prop:=match st with
  | ⟨Lx,Ny,LB,Eu⟩=>match cs.contains id with
    | true=>cc P T N (.region id ops d) ⟨Lx,Ny,LB,Eu⟩ Q
    | false=>match !d||xe T ⟨Lx,Ny,LB,Eu⟩ (qI ops.toList []) ops.toList with
      | true=>kg P T ops Eu 0 ops.toList ⟨Lx,Ny,LB,Eu⟩ fun dc=>match dc with
        | ⟨sl,bx,rw,_⟩=>nY (Eu+128*ops.size) fun nx=>Q .iV ⟨sl,bx,rw,nx⟩
      | false=>False
def WT (cs:List Nat)(c:Code):St->(Ex->St->Prop)->Prop:=
  Code.rec (motive:=fun _=>St->(Ex->St->Prop)->Prop) (fun st Q=>Q .iV st) (fun id ops d st Q=>WS P T N cs id ops d st Q) (fun _ _ QT QS st Q=>QT st (xb (fun dc=>QS dc Q) Q))
    (fun c _ _ QT QS st Q=>SD c st (QT st Q) (QS st Q)) (fun id _ ih st Q=>ih st (sN id Q)) (fun c _ st Q=>fM P T N c st Q) (fun _ _ _ _ _ _ _ _=>False) (fun id st Q=>Q (.exit id) st)
    (fun _ _ _ _=>False) (fun _ _ _=>False) (fun _ _ _=>False) (fun st Q=>Q .ret st) (fun _ _ _=>False) c
end
theorem ny.skip (s:St):ny P T N .skip s .iV s:=fun _ _ _ _ _ E _ _ r hb=>wp_skip ⟨s,E,⟨rfl,rfl⟩,r,hb⟩
theorem ny.ret (s:St):ny P T N .ret s .ret s:=fun _ _ _ _ _ E _ _ r hb=>wp_ret ⟨s,E,⟨rfl,rfl⟩,r,hb⟩
theorem ny.exit (id:Nat)(s:St):ny P T N (.exit id) s (.exit id) s:=fun _ _ _ _ _ E _ _ r hb=>wp_exit ⟨s,E,⟨rfl,rfl⟩,r,hb⟩
theorem ny.seq {x y:Code}{s s1 s':St}{e:Ex}(h:ny P T N x s .iV s1)(k:ny P T N y s1 e s'):ny P T N (.seq x y) s e s':=fun w0 O _ hT hc E a w r hb=>by
  unfold alN at hc;rw[ah] at hc;refine wp_seq (wp_mono (h w0 O hT hc.1 E a w r hb) fun e' a' w' hp=>?_)
  cases e' with
  | normal=>
    obtain⟨dc,E',⟨_,rfl⟩,r',fa⟩:=hp;exact k w0 O hT hc.2 E' a' w' r' fa
  | exit id=>
    obtain⟨dc,E',⟨hq,_⟩,r',fa⟩:=hp
    cases hq
  | ret=>
    obtain⟨dc,E',⟨hq,_⟩,r',fa⟩:=hp
    cases hq
  | goto l=>exact hp.elim
  | panic ch=>exact hp.elim
  | outgrown=>exact hp.elim
theorem ny.out {x y:Code}{s s':St}{e:Ex}(h:ny P T N x s e s')(he:e≠.iV):ny P T N (.seq x y) s e s':=fun w0 O _ hT hc E a w r hb=>by
  unfold alN at hc;rw[ah] at hc;refine wp_seq (wp_mono (h w0 O hT hc.1 E a w r hb) fun e' a' w' hp=>?_)
  cases e' with
  | normal=>
    obtain⟨dc,E',⟨hq,_⟩,r',fa⟩:=hp;exact absurd hq.symm he
  | exit id=>exact hp
  | ret=>exact hp
  | goto l=>exact hp.elim
  | panic ch=>exact hp.elim
  | outgrown=>exact hp.elim
theorem ny.cond {c:Operand}{x y:Code}{s s':St}{e:Ex}{t:Bool}(ht:ev s c=.c (.t (.lit (.bool t))))(h1:t=true->ny P T N x s e s')(h2:t=false->ny P T N y s e s'):ny P T N (.cond c x y) s e s':=fun w0 O _ hT hc E a w r hb=>by
  unfold alN at hc;rw[ah] at hc;have hv:=dy r c;rw[ht] at hv;refine wp_cond_split (eC hv) (fun e=>?_) fun e=>?_
  · exact h1 e w0 O hT hc.1 E a w r hb
  · exact h2 e w0 O hT hc.2 E a w r hb
theorem ny.block {id:Nat}{c:Code}{s s':St}{e e':Ex}(h:ny P T N c s e s')(he:e'=match e with
    | .exit i=>bif Nat.beq i id then .iV else .exit i
    | e=>e):ny P T N (.block id c) s e' s':=fun w0 O _ hT hc E a w r hb=>by
  unfold alN at hc;refine wp_block (wp_mono (h w0 O hT hc E a w r hb) fun e2 a' w' hp=>?_)
  cases e2 with
  | normal=>
    obtain⟨dc,E',⟨rfl,rfl⟩,r',fa⟩:=hp;exact⟨dc,E',⟨he.symm,rfl⟩,r',fa⟩
  | exit i=>
    obtain⟨dc,E',⟨rfl,rfl⟩,r',fa⟩:=hp;simp only at he;show(if i=id then mq w0 N O (Eqs e' dc) .normal a' w' else mq w0 N O (Eqs e' dc) (.exit i) a' w')
    by_cases hi:i=id
    · subst hi
      rw[show Nat.beq i i=true by simp,cond_true] at he;rw[if_pos rfl];exact⟨dc,E',⟨he.symm,rfl⟩,r',fa⟩
    · rw[show Nat.beq i id=false by
        cases hb:Nat.beq i id
        · rfl
        · exact absurd (ai hb) hi,cond_false] at he
      rw[if_neg hi];exact⟨dc,E',⟨he.symm,rfl⟩,r',fa⟩
  | ret=>
    obtain⟨dc,E',⟨rfl,rfl⟩,r',fa⟩:=hp;exact⟨dc,E',⟨he.symm,rfl⟩,r',fa⟩
  | goto l=>exact hp.elim
  | panic ch=>exact hp.elim
  | outgrown=>exact hp.elim
theorem ny.wk {c:Code}{s s1 s':St}{e:Ex}(hw:Wk s s1)(h:ny P T N c s1 e s'):ny P T N c s e s':=fun w0 O _=>aEp hw (h w0 O)
theorem S9.wk {c:Code}{s s1 s':St}{e:Ex}{n:Nat}(hw:Wk s s1)(h:S9 P T N c e s' n s1):S9 P T N c e s' n s:=by
  cases h with
  | stop h1 h2=>exact .stop (h1.wk hw) h2
  | next h1 h2 h3=>exact .next (h1.wk hw) h2 h3
theorem cc.wk {c:Code}{s s1:St}{Q:Ex->St->Prop}(hw:Wk s s1)(h:cc P T N c s1 Q):cc P T N c s Q:=by
  obtain⟨e,s',h1,h2⟩:=h;exact⟨e,s',h1.wk hw,h2⟩
theorem fM.wk {c:Code}{s s1:St}{Q:Ex->St->Prop}(hw:Wk s s1)(h:fM P T N c s1 Q):fM P T N c s Q:=by
  obtain⟨n,e,s',h1,h2⟩:=h;exact⟨n,e,s',h1.wk hw,h2⟩
theorem cc.nW (ms:List Nat){c:Code}{s:St}{Q:Ex->St->Prop}(h:cc P T N c (Cg.nW ms s) Q):cc P T N c s Q:=h.wk (Wk.nW ms s)
theorem S9.run {c:Code}{s s':St}{e:Ex}{n:Nat}(h:S9 P T N c e s' n s):ny P T N (.loop c) s e s':=fun w0 O _ hT hc E a w r hb=>by
  unfold alN at hc;refine ph (fun n a w=>∃ x E,S9 P T N c e s' n x/\iE O E w w0.heap.size N x a/\Below w0.heap.size w0 w) (n:=n) ⟨s,E,h,r,hb⟩ ?_;rintro n a w ⟨x,E,hx,r,hb⟩
  cases hx with
  | stop h1 h2=>
    refine wp_mono (h1 w0 O hT hc E a w r hb) fun e2 a' w' hp=>?_
    cases e2 with
    | normal=>
      obtain⟨dc,E',⟨hq,_⟩,_⟩:=hp;exact absurd hq.symm h2
    | exit id=>exact hp
    | ret=>exact hp
    | goto l=>exact hp.elim
    | panic ch=>exact hp.elim
    | outgrown=>exact hp.elim
  | @next n s s1 s2 h1 h2 h3=>
    refine wp_mono (h1 w0 O hT hc E a w r hb) fun e2 a' w' hp=>?_
    cases e2 with
    | normal=>
      obtain⟨dc,E',⟨_,rfl⟩,r',fa⟩:=hp;obtain⟨E2,r2⟩:=h2 O E' w' _ N a' r';exact⟨n,Nat.lt_succ_self n,s2,E2,h3,r2,fa⟩
    | exit id=>
      obtain⟨dc,E',⟨hq,_⟩,_⟩:=hp
      cases hq
    | ret=>
      obtain⟨dc,E',⟨hq,_⟩,_⟩:=hp
      cases hq
    | goto l=>exact hp.elim
    | panic ch=>exact hp.elim
    | outgrown=>exact hp.elim
theorem fM.tpx {c:Code}{s:St}{Q:Ex->St->Prop}(h:fM P T N c s Q):cc P T N (.loop c) s Q:=by
  obtain⟨n,e,s',h1,h2⟩:=h;exact⟨e,s',h1.run,h2⟩
theorem ny.region {id:Nat}{ops:Array Oper}{d:Bool}{s:St}{K:St->Prop}(oW:(!d||xe T s (qI ops.toList []) ops.toList)=true)(h:kg P T ops s.nx 0 ops.toList s K):∃ sl bx rw nx,K ⟨sl,bx,rw,nx⟩/\ny P T N (.region id ops d) s .iV ⟨sl,bx,rw,s.nx+128*ops.size⟩:=by
  obtain⟨L,hL,hp,⟨sl,bx,dU,nx⟩,hK,he⟩:=jA ops.toList [] s _ (kT.refl _) (fun j o d hj=>by simp at hj) h;rw[bE] at hp he;refine⟨sl,bx,dU,nx,hK,fun w0 O _ hT hc E a w r hb=>?_⟩;have ja:kC N ops d=true:=hc;have k0:=r.kb;have r0:cx O E w w0.heap.size N (s.nx+128*ops.size) s a:=r.mono (by omega)
  have fin:∀ E' w' a',cx O E' w' w0.heap.size N (s.nx+128*ops.size) (bU s L) a'->Below w0.heap.size w0 w'->mq w0 N O (Eqs .iV ⟨sl,bx,dU,s.nx+128*ops.size⟩) .normal a' w':=fun E' w' a' r' fa=>by
    refine⟨_,E',⟨rfl,rfl⟩,?_,fa⟩;have he':kT (bU s L) ⟨sl,bx,dU,s.nx+128*ops.size⟩:=⟨he.sl,he.bx,he.rw⟩
    exact he'.rep r'
  cases d with
  | false=>
    refine wp_region ?_;rw[List.range_eq_range'];exact rS hT ja hL hp k0 (ak _) ops.size 0 E w a (by omega) (by simpa [bU] using r0) fun E' w' a' r' fa=>fin E' w' a' r' (hb.trans fa)
  | true=>
    refine wp_region_any hT.mixed ?_
    have akT:∀ i,(Array.replicate ops.size false).getD i false=false:=fun i=>by
      rw[Array.getD_eq_getD_getElem?]
      cases hq:(Array.replicate ops.size false)[i]? with
      | none=>rfl
      | some x=>
        rw[Array.getElem?_replicate] at hq;split at hq
        · cases hq;rfl
        · cases hq
    have Iq:nq s L (fun i=>(Array.replicate ops.size false).getD i false)=s:=by
      unfold nq;rw[oK fun k _=>akT _];rfl
    have hw:({ w with drawn:=w.drawn+1 }:World).heap=w.heap:=rfl;refine u4 hT ja (by simpa using oW) hL hp k0 (ak _) ops.size _ E _ a (by simp) ?_ ⟨?_,?_,?_,?_⟩ fun E' w' a' r' fa=>fin E' w' a' r' (hb.trans ⟨fa.os,fa.tape,fa.output,fa.size,fa.block⟩)
    · have:∀ n,N1 (fun i=>(Array.replicate ops.size false).getD i false) n<=n:=fun n=>by
        induction n with
        | zero=>exact ak _
        | succ n ih=>
          unfold N1;rw[akT n];simp only[cond_false];omega
      exact this _
    · rw[Iq]
      exact r0.heap hw
    · intro j o hj hD
      have hD:(Array.replicate ops.size false).getD j false=true:=hD;rw[akT] at hD
      cases hD
    · intro b cs en
      rw[Iq] at en;exact .inl (k0.1 b cs en)
    · intro b cs en
      rw[Iq] at en;exact .inl (k0.2 b cs en)
theorem cc.run (cs:List Nat):∀ {c:Code} {st:St} {Q:Ex->St->Prop},WT P T N cs c st Q->cc P T N c st Q
  | .skip,st,Q,h=>⟨_,_,ny.skip st,h⟩
  | .region id ops d,⟨Lx,Ny,LB,Eu⟩,Q,h=>by
    have h:WS P T N cs id ops d ⟨Lx,Ny,LB,Eu⟩ Q:=h;unfold WS at h;simp only at h
    cases hc:cs.contains id with
    | true=>rw[hc] at h;exact h
    | false=>
      rw[hc] at h;simp only at h;split at h
      · rename_i hm
        obtain⟨sl,bx,dU,nx,hK,hr⟩:=ny.region (N:=N) (id:=id) (d:=d) (s:=⟨Lx,Ny,LB,Eu⟩) hm h;simp only[la] at hK;exact⟨_,_,hr,hK⟩
      · exact h.elim
  | .seq x y,st,Q,h=>by
    have h:WT P T N cs x st (xb (fun dc=>WT P T N cs y dc Q) Q):=h;obtain⟨e,s1,h1,h2⟩:=cc.run cs h
    cases e with
    | iV=>
      obtain⟨e2,s2,h3,h4⟩:=cc.run cs (show WT P T N cs y s1 Q from h2);exact⟨e2,s2,h1.seq h3,h4⟩
    | exit id=>exact⟨_,_,h1.out (by simp),h2⟩
    | ret=>exact⟨_,_,h1.out (by simp),h2⟩
  | .cond c x y,st,Q,h=>by
    have h:SD c st (WT P T N cs x st Q) (WT P T N cs y st Q):=h;unfold SD at h;split at h
    · rename_i t ht
      cases t with
      | true=>
        obtain⟨e,s',h1,h2⟩:=cc.run cs (show WT P T N cs x st Q from h);exact⟨e,s',ny.cond ht (fun _=>h1) (fun h=>by cases h),h2⟩
      | false=>
        obtain⟨e,s',h1,h2⟩:=cc.run cs (show WT P T N cs y st Q from h);exact⟨e,s',ny.cond ht (fun h=>by cases h) fun _=>h1,h2⟩
    · exact h.elim
  | .block id c,st,Q,h=>by
    have h:WT P T N cs c st (sN id Q):=h;obtain⟨e,s',h1,h2⟩:=cc.run cs h
    cases e with
    | iV=>exact⟨_,_,h1.block rfl,h2⟩
    | ret=>exact⟨_,_,h1.block rfl,h2⟩
    | exit i=>
      unfold sN at h2;simp only at h2
      cases hb:Nat.beq i id with
      | true=>
        rw[hb] at h2;exact⟨.iV,s',h1.block (by simp only[hb,cond_true]),h2⟩
      | false=>
        rw[hb] at h2;exact⟨.exit i,s',h1.block (by simp only[hb,cond_false]),h2⟩
  | .loop c,st,Q,h=>fM.tpx h
  | .exit id,st,Q,h=>⟨_,_,ny.exit id st,h⟩
  | .ret,st,Q,h=>⟨_,_,ny.ret st,h⟩
  | .label _,_,_,h=>h.elim
  | .goto _,_,_,h=>h.elim
  | .rangeFunc ..,_,_,h=>h.elim
  | .refuse _,_,_,h=>h.elim
theorem fM.once {c:Code}{s:St}{Q:Ex->St->Prop}(h:cc P T N c s (fun e s1=>match e with
    | .iV=>fM P T N c s1 Q
    | e=>Q e s1)):fM P T N c s Q:=by
  obtain⟨e,s1,h1,h2⟩:=h
  cases e with
  | iV=>
    obtain⟨n,e,s',h3,h4⟩:=h2;exact⟨n+1,e,s',.next h1 (Wk.refl _) h3,h4⟩
  | exit id=>exact⟨0,_,_,.stop h1 (by simp),h2⟩
  | ret=>exact⟨0,_,_,.stop h1 (by simp),h2⟩
theorem fM.loop {c:Code}{st:St}{Q:Ex->St->Prop}{α:Type}(I:α->St)(ok:α->Prop)(μ:α->Nat)(x0:α)(h0:Wk st (I x0))(mI:ok x0)
   (round:∀ x,ok x->cc P T N c (I x) (fun e dc=>match e with
     | .iV=>∃ y,ok y/\μ y < μ x/\Wk dc (I y)
     | e=>Q e dc)):fM P T N c st Q:=by
  have key:∀ n x,μ x=n->ok x->fM P T N c (I x) Q:=by
    intro n
    induction n using Nat.strongRecOn with
    | _ n ih=>
      intro x hn hx;obtain⟨e,s1,h1,h2⟩:=round x hx
      cases e with
      | iV=>
        obtain⟨y,h3,h4,h5⟩:=h2;obtain⟨k,e,s',h6,h7⟩:=ih (μ y) (by omega) y rfl h3;exact⟨k+1,e,s',.next h1 h5 h6,h7⟩
      | exit id=>exact⟨0,_,_,.stop h1 (by simp),h2⟩
      | ret=>exact⟨0,_,_,.stop h1 (by simp),h2⟩
  exact(key _ x0 rfl mI).wk h0
theorem acE {f:FuncId}{fn:Func}{c:Code}{dh:List AV}{G:AV->List Row->Prop}(hf:P.funcs[f]? = some fn)(hb:fn.body=some c)(he:N3 P f)(hT:dz P T)(hc:alN fn.ntmps c=true)(hn:Nat.ble dh.length fn.ntmps=true)(om:dh.all AV.plain=true)
    (h:cc P T fn.ntmps c ⟨kx 0 dh,[],[],0⟩ fun e st=>∃ rv rs,G rv rs/\(Nat.ble rs.length 128=true/\yT rv rs=true)/\zi T fn rv rs e st):∃ rv rs,G rv rs/\Ct P f dh rv rs false:=by
  obtain⟨e,s',h1,rv,rs,h2,h3,h4⟩:=h;exact⟨rv,rs,h2,XY hf hb he hT hc hn om h3.1 h3.2 fun w0 O _=>Tp.mono (h1 w0 O) fun e2 s2 ⟨a,b⟩=>by subst a b;exact h4⟩
end
section
variable {P:Program}{T:Nat->Option Ty}{O:iy}
def qt {α:Type}:Nat->List α->List (Nat × α)
  | _,[]=>[]
  | i,x :: r=>(i,x) :: qt (i+1) r
theorem px {α:Type}:∀ (l:List α) (i t:Nat),lk (qt i l) t=if i<=t then l[t - i]? else none
  | [],i,t=>by simp[qt,lk]
  | a :: l,i,t=>by
    rw[qt,cp,px l (i+1) t]
    by_cases h:i=t
    · subst h
      simp
    · rw[if_neg h]
      by_cases h2:i<=t
      · rw[if_pos h2,if_pos (by omega),show t - i=t - (i+1)+1 by omega,List.getElem?_cons_succ]
      · rw[if_neg h2,if_neg (by omega)]
section
variable (st:St)(m:List (Nat × Nat))(dU:List (Nat × Row))(fG:List (Nat × List Ce))
def AvN (v:AV):AV->Prop
  | .dX j u k i o=>(match v,lk m j,lk dU j with
    | .dX τ bA k' i' o',some τ',some R'=>τ'=τ/\R'.bA=u/\(match lk st.rw τ with
      | some R=>R.bA=bA
      | none=>False)/\k'=k/\i'=i/\o'=o
    | _,_,_=>False)
  | v'=>Jb st m dU fG v v'
def SJ (T:Nat->Option Ty):List ResultVar->List AV->Prop
  | [],[]=>True
  | x :: xs,r :: rs=>(match BK T st x with
    | some v=>AvN st m dU fG v r
    | none=>False)/\SJ T xs rs
  | _,_=>False
def SE:Nat->List Row->Prop
  | _,[]=>True
  | j,R :: Rs=>(match R.bA with
    | 0=>lk m j=some j/\(match lk st.rw j with
      | some R'=>R'.bA=0
      | none=>False)
    | 1=>True
    | _=>False)/\SE (j+1) Rs
end
def alU (T:Nat->Option Ty)(fn:Func)(rv:AV)(ob:List (List Ce))(fF nr:List Row)(e:Ex)(st:St):Prop:=match e with
  | .exit _=>False
  | _=>∃ m,(SU m=true/\X3 st m (jV 0 0 (fF++nr))/\SE st m 0 fF/\BxM st m (jV 0 0 (fF++nr)) (qt 0 ob))/\(match fn.results.toList with
    | [x]=>(match BK T st x with
      | some v=>AvN st m (jV 0 0 (fF++nr)) (qt 0 ob) v rv
      | none=>False)
    | xs=>(match rv with
      | .gi ys=>SJ st m (jV 0 0 (fF++nr)) (qt 0 ob) T xs ys
      | _=>False))
section
variable {E:Env}{w:World}{n0 N n:Nat}{st:St}{a:Act}{m:List (Nat × Nat)}{dU:List (Nat × Row)}{fG:List (Nat × List Ce)}
theorem Sn (r:cx O E w n0 N n st a){u:Value}{v v':AV}(h:AvN st m dU fG v v')(hv:RV E w u v):R1 (E.ma st m) w u v':=by
  cases v' with
  | dX j u' k i o=>
    unfold AvN at h;simp only at h;split at h
    · rename_i τ bA k' i' o' τ' R' h1 h2
      obtain⟨rfl,_,h3,rfl,rfl,rfl⟩:=h;obtain⟨g,n,c,h4,h5⟩:=hv;split at h3
      · rename_i R hR
        subst h3;refine⟨g,n,c,?_,h5⟩;unfold Env.ma;simp only[h1,hR];exact h4
      · exact h3.elim
    · exact h.elim
  | c x=>exact jJ (dU:=dU) (fG:=fG) (v':=.c x) r h hv
  | agg x=>exact jJ (dU:=dU) (fG:=fG) (v':=.agg x) r h hv
  | ptr b o=>exact jJ (dU:=dU) (fG:=fG) (v':=.ptr b o) r h hv
  | dL x o=>exact jJ (dU:=dU) (fG:=fG) (v':=.dL x o) r h hv
  | e9=>exact jJ (dU:=dU) (fG:=fG) (v':=.e9) r h hv
  | gi x=>exact jJ (dU:=dU) (fG:=fG) (v':=.gi x) r h hv
  | fn f x=>exact jJ (dU:=dU) (fG:=fG) (v':=.fn f x) r h hv
  | lL f x=>exact jJ (dU:=dU) (fG:=fG) (v':=.lL f x) r h hv
  | sub x y z i=>exact jJ (dU:=dU) (fG:=fG) (v':=.sub x y z i) r h hv
  | bot=>exact⟨⟩
theorem Sp {v v':AV}(h:AvN st m dU fG v v'):(∀ b∈v'.ed,∃ cs,lk fG b=some cs)/\∀ p∈v'.cP,∃ R,lk dU p.1=some R/\R.bA=p.2:=by
  cases v' with
  | dX j u' k i o=>
    unfold AvN at h;simp only at h;split at h
    · rename_i τ bA k' i' o' τ' R' h1 h2
      obtain⟨_,h3,_⟩:=h;refine⟨fun _ h=>(by cases h),fun p hp=>?_⟩;obtain rfl:p=(j,u'):=by simpa [AV.cP,AV.ig] using hp
      exact⟨R',h2,h3⟩
    · exact h.elim
  | c x=>exact jd (st:=st) (m:=m) (v:=v) (v':=.c x) h
  | agg x=>exact jd (st:=st) (m:=m) (v:=v) (v':=.agg x) h
  | ptr b o=>exact jd (st:=st) (m:=m) (v:=v) (v':=.ptr b o) h
  | dL x o=>exact jd (st:=st) (m:=m) (v:=v) (v':=.dL x o) h
  | e9=>exact jd (st:=st) (m:=m) (v:=v) (v':=.e9) h
  | gi x=>exact jd (st:=st) (m:=m) (v:=v) (v':=.gi x) h
  | fn f x=>exact jd (st:=st) (m:=m) (v:=v) (v':=.fn f x) h
  | lL f x=>exact jd (st:=st) (m:=m) (v:=v) (v':=.lL f x) h
  | sub x y z i=>exact jd (st:=st) (m:=m) (v:=v) (v':=.sub x y z i) h
  | bot=>exact⟨fun _ h=>(by cases h),fun _ h=>by cases h⟩
theorem DC:∀ {fF:List Row} {i:Nat},SE st m i fF->∀ (j:Nat) R,fF[j]? = some R->R.bA=0->lk m (i+j)=some (i+j)/\∃ R',lk st.rw (i+j)=some R'/\R'.bA=0
  | R0 :: fF,i,h,0,R,hj,hv=>by
    obtain rfl:=aY hj;obtain⟨h1,_⟩:=h;rw[hv] at h1;obtain⟨h2,h3⟩:=h1;split at h3
    · rename_i R' Fk
      exact⟨h2,R',Fk,h3⟩
    · exact h3.elim
  | R0 :: fF,i,h,j+1,R,hj,hv=>by
    have:=DC h.2 j R hj hv;rw[show i+1+j=i+(j+1) by omega] at this;exact this
  | [],_,_,j,R,hj,_=>by simp at hj
def Env.Xm (E:Env)(st:St)(m:List (Nat × Nat))(q:Nat)(V:Nat->Value):Env:=⟨(E.ma st m).rl,E.bk,fun j u=>if j < q/\u=0 then V j else(E.ma st m).vl j u⟩
theorem HY {V:Nat->Value}{fF nr:List Row}(hV:∀ j,j < fF.length->(∃ R,lk st.rw j=some R)->E.vl j 0=V j)(fW:SE st m 0 fF){j:Nat}{R:Row}(hj:(fF++nr)[j]? = some R):(E.Xm st m fF.length V).vl j R.bA=(E.ma st m).vl j R.bA:=by
  unfold Env.Xm;simp only;split
  · rename_i h
    rw[bz h.1] at hj;obtain⟨h1,R',h2,h3⟩:=DC fW j R hj h.2;rw[bw] at h1 h2;rw[<- hV j h.1 ⟨R',h2⟩];unfold Env.ma;simp only[h1,h2,h3]
  · rfl
theorem Zq {V:Nat->Value}{fF nr:List Row}(hV:∀ j,j < fF.length->(∃ R,lk st.rw j=some R)->E.vl j 0=V j)(fW:SE st m 0 fF){u:Value}{v:AV}(hn:∀ p∈v.ig,∃ R,lk (jV 0 0 (fF++nr)) p.1=some R/\R.bA=p.2)(h:R1 (E.ma st m) w u v):R1 (E.Xm st m fF.length V) w u v:=by
  refine R1.fr (E:=E.ma st m) (E':=E.Xm st m fF.length V) (ak _) (fun b hb _=>⟨rfl,hb⟩) (fun p hp=>?_) (fun _ _=>rfl) h;obtain⟨R,h1,h2⟩:=hn p hp;rw[fc,if_pos (by omega)] at h1;rw[<- h2];exact HY hV fW (by simpa using h1)
end
theorem DS {E:Env}{w:World}{n0 N n:Nat}{st:St}{a:Act}{m:List (Nat × Nat)}{dU:List (Nat × Row)}{fG:List (Nat × List Ce)}(hT:dz P T)(r:cx O E w n0 N n st a):∀ {xs:List ResultVar} {rs:List AV},SJ st m dU fG T xs rs->∃ us:List Value,(xs.mapM (lv a)).run P w=.ok us w/\A2 (R1 (E.ma st m) w) us rs/\(∀ b∈rs.flatMap AV.iu,∃ cs,lk fG b=some cs)/\∀ p∈rs.flatMap AV.ig,∃ R,lk dU p.1=some R/\R.bA=p.2
  | [],[],_=>⟨[],by simp,.nil,fun _ h=>(by cases h),fun _ h=>by cases h⟩
  | x :: xs,y :: ys,h=>by
    obtain⟨h1,h2⟩:=h;split at h1
    · rename_i v hv
      obtain⟨u,hu,hr⟩:=lu hT r hv;obtain⟨us,pz,ha,hb,SX⟩:=DS hT r h2;have hr1:=Sn r h1 hr;obtain⟨g1,g2⟩:=Sp h1
      have e:y.ed=y.iu/\y.cP=y.ig:=by
        cases y with
        | gi _=>exact hr1.elim
        | _=>exact⟨rfl,rfl⟩
      rw[e.1] at g1;rw[e.2] at g2;refine⟨u :: us,?_,.cons hr1 ha,fun b fa=>?_,fun p hp=>?_⟩
      · rw[List.mapM_cons,Sem.run_bind,hu]
        simp only[Result.andThen_ok,Sem.run_bind,pz,Sem.run_pure]
      · rw[bZ] at fa
        exact(bh.1 fa).elim (g1 b) (hb b)
      · rw[bZ] at hp
        exact(bh.1 hp).elim (g2 p) (SX p)
    · exact h1.elim
  | [],_ :: _,h=>h.elim
  | _ :: _,[],h=>h.elim
theorem DT {st:St}{m:List (Nat × Nat)}{dU:List (Nat × Row)}{fG:List (Nat × List Ce)}:∀ {xs:List ResultVar} {rs:List AV},SJ st m dU fG T xs rs->xs.length=rs.length
  | [],[],_=>rfl
  | _ :: _,_ :: _,h=>by simp[DT h.2]
  | [],_ :: _,h=>h.elim
  | _ :: _,[],h=>h.elim
theorem Rz {E:Env}{w:World}{n0 N n:Nat}{st:St}{a:Act}{m:List (Nat × Nat)}{fn:Func}{rv:AV}{dU:List (Nat × Row)}{fG:List (Nat × List Ce)}(hT:dz P T)(r:cx O E w n0 N n st a)(h:match fn.results.toList with
    | [x]=>(match BK T st x with
      | some v=>AvN st m dU fG v rv
      | none=>False)
    | xs=>(match rv with
      | .gi ys=>SJ st m dU fG T xs ys
      | _=>False)):(∃ u,(results fn a.tmps).run P w=.ok u w/\RV (E.ma st m) w u rv)/\(∀ b∈rv.ed,∃ cs,lk fG b=some cs)/\∀ p∈rv.cP,∃ R,lk dU p.1=some R/\R.bA=p.2:=by
  have e:(results fn a.tmps).run P w=((fn.results.toList.mapM (lv a)).run P w).andThen fun vs w'=>.ok (if h:vs.toArray.size=1 then vs.toArray[0] else .tuple vs.toArray) w':=by
    have e3:results fn a.tmps=(do
        let vs <- fn.results.mapM (lv a)
        Pure.pure (if h:vs.size=1 then vs[0] else .tuple vs)):=by
      unfold results
      exact congrArg (fun g:ResultVar->Sem Value=>(do
        let vs <- fn.results.mapM g
        Pure.pure (if h:vs.size=1 then vs[0] else .tuple vs):Sem Value)) (funext fun x=>by cases x <;> rfl)
    rw[e3,Array.mapM_eq_mapM_toList];simp only[Sem.run_bind,Sem.run_map,Sem.run_pure]
    cases ((fn.results.toList.mapM (lv a)).run P w) <;> rfl
  rw[e];split at h
  · rename_i x hx
    rw[hx];split at h
    · rename_i v hv
      obtain⟨u,hu,hr⟩:=lu hT r hv;refine⟨⟨u,?_,(Sn r h hr).rv⟩,Sp h⟩;rw[List.mapM_cons,List.mapM_nil,Sem.run_bind,hu];simp
    · exact h.elim
  · rename_i xs iR
    split at h
    · rename_i ys
      obtain⟨us,pz,ha,hb,SX⟩:=DS hT r h;have hl:=DT h;refine⟨⟨.tuple us.toArray,?_,⟨us,rfl,ha⟩⟩,hb,SX⟩;rw[pz]
      have:¬ us.toArray.size=1:=fun h1=>by
        have h2:=ha.len;rw[List.size_toArray] at h1;rw[h1,<- hl] at h2
        cases hq:fn.results.toList with
        | nil=>rw[hq] at h2;cases h2
        | cons x l=>
          cases l with
          | nil=>exact iR x hq
          | cons _ _=>rw[hq] at h2;simp at h2
      simp only[Result.andThen_ok,dif_neg this]
    · exact h.elim
def vB (p q:Nat)(bs:List Nat)(rs:List (Nat × Nat)):Bool:=bs.all (fun b=>Nat.blt b p)&&rs.all fun x=>Nat.blt x.1 q&&Nat.beq x.2 0
theorem xd {p q:Nat}{bs:List Nat}{rs:List (Nat × Nat)}(h:vB p q bs rs=true):(∀ b∈bs,b < p)/\∀ x∈rs,x.1 < q/\x.2=0:=by
  unfold vB at h;rw[ah] at h;refine⟨fun b hb=>Nb (aN.1 h.1 b hb),fun x hx=>?_⟩;have:=aN.1 h.2 x hx;rw[ah] at this;exact⟨Nb this.1,ai this.2⟩
def HU (p:Nat)(rv:AV)(ob:List (List Ce))(rs:List Row):Bool:=rv.ed.all (fun b=>Nat.blt b p)&&(rs.all Row.shut&&(rv.cP++ob.flatMap fun cs=>cs.flatMap Ce.cP).all fun x=>match rs[x.1]? with
  | some R=>Nat.ble x.2 R.bA
  | none=>false)
theorem Mo {p:Nat}{rv:AV}{ob:List (List Ce)}{rs:List Row}(h:HU p rv ob rs=true):(∀ b∈rv.ed,b < p)/\(∀ x∈rv.cP,∃ R,rs[x.1]? = some R/\x.2<=R.bA)/\(∀ (i:Nat) cs,ob[i]? = some cs->∀ x∈cs.flatMap Ce.cP,∃ R,rs[x.1]? = some R/\x.2<=R.bA)/\∀ R∈rs,R.shut=true:=by
  unfold HU at h;rw[ah,ah] at h
  have key:∀ x∈rv.cP++ob.flatMap fun cs=>cs.flatMap Ce.cP,∃ R,rs[x.1]? = some R/\x.2<=R.bA:=fun x hx=>by
    have:=aN.1 h.2.2 x hx;split at this
    · rename_i R hR
      exact⟨R,hR,Nb this⟩
    · cases this
  exact⟨fun b hb=>Nb (aN.1 h.1 b hb),fun x hx=>key x (bR _ hx),fun i cs hi x hx=>key x (bT _ (List.mem_flatMap.2 ⟨cs,bc hi,hx⟩)),fun R hR=>aN.1 h.2.1 R hR⟩
class SL (n1:Nat)(O:iy):Prop extends GlC O where
  v:∀ j,n1<=j->O.v j=none
  b:∀ j,n1<=j->O.b j=none
open Classical in
theorem kz {f:FuncId}{fn:Func}{c:Code}{dh:List AV}{ib:List (List Ce)}{ir:List Row}{rv:AV}{ob:List (List Ce)}{fF nr:List Row}(n1:Nat)(hf:P.funcs[f]? = some fn)(hb:fn.body=some c)(he:N3 P f)(hT:dz P T)(hc:alN fn.ntmps c=true)(hn:Nat.ble dh.length fn.ntmps=true)
    (hk:(Nat.ble ib.length n1&&(Nat.ble ir.length n1&&(Nat.beq ob.length ib.length&&(Nat.beq fF.length ir.length&&(Nat.ble nr.length 128&&ir.all fun R=>Nat.beq R.bA 0&&R.shut)))))=true)
    (Dh:(vB ib.length ir.length (dh.flatMap AV.iu) (dh.flatMap AV.ig)&&ib.all fun cs=>vB ib.length ir.length [] (cs.flatMap Ce.cP))=true) (apY:(dh.all fun a=>match a with
      | .gi _=>false
      | _=>true)=true) (oA:HU ib.length rv ob (fF++nr)=true)
    (h:∀ w0 O [SL n1 O],Tp P T fn.ntmps w0 O c ⟨kx 0 dh,qt 0 ib,qt 0 ir,n1⟩ (alU T fn rv ob fF nr)):Ja P f dh ib ir rv ob fF nr:=by
  simp only[ah] at hk Dh;obtain⟨k1,k2,k3,k4,k5,k6⟩:=hk;have k1:=Nb k1;have k2:=Nb k2;have k3:=ai k3;have k4:=ai k4;have k5:=Nb k5;have hn:=Nb hn;obtain⟨nb,nr1⟩:=xd Dh.1;have nbx:∀ cs∈ib,∀ x∈cs.flatMap Ce.cP,x.1 < ir.length/\x.2=0:=fun cs en=>(xd (aN.1 Dh.2 cs en)).2;obtain⟨r1,r2,r3,r4⟩:=Mo oA;refine⟨he,k5,r4,k3,k4,r1,r2,r3,fun w0 w vs E0 mY hgr oZ ha asD Cn ik Iw=>?_⟩;have hlen:=ha.len;refine calls_of_wp hf hb ?_
  have slot:∀ (t:Nat) (a:AV),dh[t]? = some a->a.ed=a.iu/\a.cP=a.ig:=fun t a ht=>by
    have:=aN.1 apY a (bc ht)
    cases a with
    | gi _=>cases this
    | _=>exact⟨rfl,rfl⟩
  have lkB:∀ (i:Nat) (cs:List Ce),lk (qt 0 ib) i=some cs->ib[i]? = some cs:=fun i cs hi=>by
    rw[px,if_pos (aA _)] at hi;simpa using hi
  have lkR:∀ (i:Nat) (R:Row),lk (qt 0 ir) i=some R->ir[i]? = some R:=fun i R hi=>by
    rw[px,if_pos (aA _)] at hi;simpa using hi
  have hasB:∀ b,b < ib.length->∃ cs,lk (qt 0 ib) b=some cs:=fun b hb=>⟨ib[b],by rw[px,if_pos (aA _),Nat.sub_zero,ag hb]⟩
  have lJ:∀ b,b < ir.length->∃ R,lk (qt 0 ir) b=some R:=fun b hb=>⟨ir[b],by rw[px,if_pos (aA _),Nat.sub_zero,ag hb]⟩
  have jO:iE ⟨fun b=>E0.rl b=.bH,fun b=>if E0.rl b=.bH\/E0.rl b=.eH then w.heap[b]? else none,fun j=>if j < ir.length then some (E0.vl j 0) else none,fun i=>if i < ib.length then some (E0.bk i) else none,w.heap.size,[]⟩ E0 w w0.heap.size fn.ntmps ⟨kx 0 dh,qt 0 ib,qt 0 ir,n1⟩ { tmps:=vs.toArray++Array.replicate (fn.ntmps - vs.toArray.size) undef,defers:=[] }:=by
    refine⟨rfl,by simp only[Array.size_append,List.size_toArray,Array.size_replicate];omega,fun t=>?_,fun i cs hi=>asD i cs (lkB i cs hi),fun j R hj=>Cn j R (lkR j R hj),⟨fun t b hb=>?_,fun t p hp=>?_,fun b cs en p hp=>?_,fun b cs en=>?_,fun τ R hR=>?_,fun τ R d hR hd l hl=>?_⟩,oZ.size,fun b hb=>?_,fun b x hx=>?_,fun j V hj=>?_,fun j V hj=>?_,ak _⟩
    · show RV E0 w _ (match lk (kx 0 dh) t with|some v=>v|none=>.bot)
      rw[j6,if_pos (aA _),Nat.sub_zero]
      cases ht:dh[t]? with
      | none=>exact⟨⟩
      | some a=>
        obtain⟨u,hu,hr⟩:=ha.get t a ht;have aU:=(an.1 hu).1;rw[Array.getD_eq_getD_getElem?,Array.getElem?_append_left (by simpa using aU),List.getElem?_toArray,hu];exact hr.rv
    · have hb:b∈(match lk (kx 0 dh) t with|some v=>v|none=>AV.bot).ed:=hb
      rw[j6,if_pos (aA _),Nat.sub_zero] at hb
      cases ht:dh[t]? with
      | none=>rw[ht] at hb;cases hb
      | some a=>
        rw[ht] at hb;have hb:b∈a.ed:=hb;rw[(slot t a ht).1] at hb;exact hasB b (nb b (List.mem_flatMap.2 ⟨a,bc ht,hb⟩))
    · have hp:p∈(match lk (kx 0 dh) t with|some v=>v|none=>AV.bot).cP:=hp
      rw[j6,if_pos (aA _),Nat.sub_zero] at hp
      cases ht:dh[t]? with
      | none=>rw[ht] at hp;cases hp
      | some a=>
        rw[ht] at hp;have hp:p∈a.cP:=hp;rw[(slot t a ht).2] at hp;obtain⟨h1,h2⟩:=nr1 p (List.mem_flatMap.2 ⟨a,bc ht,hp⟩);obtain⟨R,hR⟩:=lJ p.1 h1;exact⟨R,hR,by rw[h2];exact aA _⟩
    · obtain⟨h1,h2⟩:=nbx cs (bc (lkB b cs en)) p hp
      obtain⟨R,hR⟩:=lJ p.1 h1;exact⟨R,hR,by rw[h2];exact aA _⟩
    · have:=(an.1 (lkB b cs en)).1
      exact cA this k1
    · have:=(an.1 (lkR τ R hR)).1
      exact cA this k2
    · have:=aN.1 k6 R (bc (lkR τ R hR))
      rw[ah] at this;rw[kL this.2 hd] at hl
      cases hl
    · exact(Iw b hb).imp (fun h=>⟨h,h⟩) id
    · have hx:(if E0.rl b=.bH\/E0.rl b=.eH then w.heap[b]? else none)=some x:=hx
      split at hx
      · rename_i hq
        refine⟨hx,hq.imp (fun h=>⟨h,h⟩) fun h=>⟨h,fun h2=>?_⟩⟩;have h2:E0.rl b=.bH:=h2;rw[h] at h2
        cases h2
      · cases hx
    · have hj:(if j < ir.length then some (E0.vl j 0) else none)=some V:=hj
      split at hj
      · rename_i aU
        cases hj
        exact⟨rfl,lJ j aU⟩
      · cases hj
    · have hj:(if j < ib.length then some (E0.bk j) else none)=some V:=hj
      split at hj
      · rename_i aU
        cases hj
        exact⟨rfl,hasB j aU⟩
      · cases hj
  refine wp_mono (@h w0 _ { Cy mY (if_pos hgr) with v:=fun j hj=>if_neg (by omega),b:=fun j hj=>if_neg (by omega) } hT hc E0 _ w jO oZ) fun e a' w' hp=>?_
  have fin:∀ st E',alU T fn rv ob fF nr .ret st->iE ⟨fun b=>E0.rl b=.bH,fun b=>if E0.rl b=.bH\/E0.rl b=.eH then w.heap[b]? else none,fun j=>if j < ir.length then some (E0.vl j 0) else none,fun i=>if i < ib.length then some (E0.bk i) else none,w.heap.size,[]⟩ E' w' w0.heap.size fn.ntmps st a'->Below w0.heap.size w0 w'->a'.defers=[]/\∃ v,(results fn a'.tmps).run P w'=.ok v w'/\∃ v',Ending.returned v=.returned v'/\Below w0.heap.size w0 w'/\w.heap.size<=w'.heap.size/\∃ E,RV E w' v' rv/\(∀ i,i < ib.length->E.bk i=E0.bk i)/\(∀ (i:Nat) cs,ob[i]? = some cs->RB E w' w0.heap.size i cs)/\(∀ (j:Nat) R,(fF++nr)[j]? = some R->RR E w' w0.heap.size j R)/\(∀ j,j < ir.length->E.vl j 0=E0.vl j 0)/\
      ∀ b,b < w.heap.size->E0.rl b=.bH\/E0.rl b=.eH->w'.heap[b]? = w.heap[b]?/\E.rl b=E0.rl b:=fun st E' hq r fa=>by
    obtain⟨m,⟨g1,g2,g3,g4⟩,g5⟩:=hq;obtain⟨⟨u,hu,hr⟩,hnb,SZ⟩:=Rz hT r g5;have hV:∀ j,j < fF.length->(∃ R,lk st.rw j=some R)->E'.vl j 0=E0.vl j 0:=fun j hj _=>(r.Zu j (E0.vl j 0) (by show(if j < ir.length then some (E0.vl j 0) else none)=_;rw[if_pos (by omega)])).1;have SR:∀ {u:Value} {v:AV},(∀ p∈v.ig,∃ R,lk (jV 0 0 (fF++nr)) p.1=some R/\R.bA=p.2)->R1 (E'.ma st m) w' u v->R1 (E'.Xm st m fF.length fun j=>E0.vl j 0) w' u v:=fun hn h=>Zq hV g3 hn h;refine⟨r.yn,u,hu,u,rfl,fa,r.sn,E'.Xm st m fF.length fun j=>E0.vl j 0,?_,fun i hi=>?_,fun i cs hi=>?_,fun j R hj=>?_,fun j hj=>?_,fun b aU hq=>?_⟩
    · cases rv with
      | gi ys=>
        obtain⟨us,rfl,uj⟩:=hr;refine⟨us,rfl,?_⟩
        have:∀ {us:List Value} {ys:List AV},(∀ p∈ys.flatMap AV.ig,∃ R,lk (jV 0 0 (fF++nr)) p.1=some R/\R.bA=p.2)->A2 (R1 (E'.ma st m) w') us ys->A2 (R1 (E'.Xm st m fF.length fun j=>E0.vl j 0) w') us ys:=fun {us ys} hn h=>by
          induction h with
          | nil=>exact .nil
          | cons h1 _ ih=>
            rw[bZ] at hn;exact .cons (SR (fun p hp=>hn p (bR _ hp)) h1) (ih fun p hp=>hn p (bT _ hp))
        exact this SZ uj
      | c x=>exact(SR (v:=.c x) SZ hr).rv
      | agg x=>exact(SR (v:=.agg x) SZ hr).rv
      | ptr b o=>exact(SR (v:=.ptr b o) SZ hr).rv
      | dL x o=>exact(SR (v:=.dL x o) SZ hr).rv
      | dX a b c d e=>exact(SR (v:=.dX a b c d e) SZ hr).rv
      | sub a b c d=>exact(SR (v:=.sub a b c d) SZ hr).rv
      | e9=>exact(SR (v:=.e9) SZ hr).rv
      | fn f x=>exact(SR (v:=.fn f x) SZ hr).rv
      | lL f x=>exact(SR (v:=.lL f x) SZ hr).rv
      | bot=>exact⟨⟩
    · exact(r.MA i (E0.bk i) (by show(if i < ib.length then some (E0.bk i) else none)=_;rw[if_pos hi])).1
    · obtain⟨Gz,h1,h2⟩:=pJ g4 i cs (eD (by rw[px,if_pos (aA _)];simpa using hi))
      obtain⟨us,t,h3,h4,h5,h6⟩:=r.box i Gz h1;have h7:=pF r h2 h6;refine⟨us,t,h3,h4,?_,A2.fr (E:=E'.ma st m) (E':=E'.Xm st m fF.length fun j=>E0.vl j 0) (ak _) (fun b hb _=>⟨rfl,hb⟩) (fun p hp=>?_) h7⟩
      · show(E'.ma st m).rl (E'.bk i)=_
        unfold Env.ma;simp only[h5]
      · obtain⟨R,h8,h9⟩:=pE h2 p hp
        rw[fc,if_pos (by omega)] at h8;rw[<- h9];exact HY hV g3 (by simpa using h8)
    · have hm:=eD (l:=jV 0 0 (fF++nr)) (n:=j) (x:=R) (by rw[fc,if_pos (by omega)];simpa using hj)
      have h1:=tE r g1 (nG g2 j R hm);exact RR.to (R:=R) (h:=h1) (ak _) rfl rfl rfl rfl (wq g2 j R hm) (HY hV g3 hj) (fun _ h _=>h) (fun _ _ _ h=>h) fun _ _ _ _ _ h=>h
    · show(if j < fF.length/\(0:Nat)=0 then E0.vl j 0 else _)=_
      rw[if_pos ⟨by omega,rfl⟩]
    · obtain⟨x,hx⟩:∃ x,w.heap[b]? = some x:=⟨w.heap[b],Array.getElem?_eq_getElem aU⟩
      obtain⟨h1,h2⟩:=r.gh b x (by show(if E0.rl b=.bH\/E0.rl b=.eH then w.heap[b]? else none)=_;rw[if_pos hq,hx]);refine⟨h1.trans hx.symm,?_⟩;show(E'.ma st m).rl b=_;rcases h2 with⟨h2,h3⟩|⟨h2,h3⟩
      · have h3:E0.rl b=.bH:=h3
        rw[iA b h2,h3]
      · have h3:¬ E0.rl b=.bH:=h3
        rw[nQ b h2];rcases hq with hq|hq
        · exact absurd hq h3
        · exact hq.symm
  cases e with
  | normal=>
    obtain⟨st,E',hq,r,fa⟩:=hp;exact fin st E' hq r fa
  | ret=>
    obtain⟨st,E',hq,r,fa⟩:=hp;exact fin st E' hq r fa
  | exit id=>
    obtain⟨st,E',hq,r,fa⟩:=hp;exact hq.elim
  | goto l=>exact hp.elim
  | panic ch=>exact hp.elim
  | outgrown=>exact hp.elim
def SlI (st:St):List (Nat × AV)->Prop
  | []=>True
  | (t,v) :: r=>st.get t=v/\SlI st r
def BxI (st:St):List (Nat × List Ce)->Prop
  | []=>True
  | (b,cs) :: r=>lk st.bx b=some cs/\BxI st r
def RwI (st:St):List (Nat × Row)->Prop
  | []=>True
  | (τ,R) :: r=>lk st.rw τ=some R/\RwI st r
theorem Jp {st:St}:∀ {l:List (Nat × AV)},SlI st l->∀ t v,(t,v)∈l->st.get t=v
  | (t,v) :: r,h,t',v',hm=>by
    rcases List.mem_cons.1 hm with e|hm
    · cases e;exact h.1
    · exact Jp h.2 t' v' hm
  | [],_,_,_,hm=>by cases hm
theorem C0 {st:St}:∀ {l:List (Nat × List Ce)},BxI st l->∀ t v,(t,v)∈l->lk st.bx t=some v
  | (t,v) :: r,h,t',v',hm=>by
    rcases List.mem_cons.1 hm with e|hm
    · cases e;exact h.1
    · exact C0 h.2 t' v' hm
  | [],_,_,_,hm=>by cases hm
theorem BE {st:St}:∀ {l:List (Nat × Row)},RwI st l->∀ t v,(t,v)∈l->lk st.rw t=some v
  | (t,v) :: r,h,t',v',hm=>by
    rcases List.mem_cons.1 hm with e|hm
    · cases e;exact h.1
    · exact BE h.2 t' v' hm
  | [],_,_,_,hm=>by cases hm
def WkL (O:iy)(st dc:St):Prop:=∀ (E:Env) (w:World) (n0 N:Nat) (a:Act),iE O E w n0 N st a->iE O E w n0 N dc a
theorem Tp.W6 {N:Nat}{w0:World}{c:Code}{st dc:St}{Q:Ex->St->Prop}(hw:WkL O st dc)(h:Tp P T N w0 O c dc Q):Tp P T N w0 O c st Q:=fun hT hc E a w r hb=>h hT hc E a w (hw E w _ N a r) hb
theorem Tp.mT {N:Nat}{w0:World}{c:Code}{st:St}{Q:Ex->St->Prop}{α:Type}(I:α->St)(ok:α->Prop)(μ:α->Nat)(x0:α)(h0:WkL O st (I x0))(mI:ok x0)
   (round:∀ x,ok x->Tp P T N w0 O c (I x) (fun e dc=>match e with
     | .iV=>∃ y,ok y/\μ y < μ x/\WkL O dc (I y)
     | e=>Q e dc)):Tp P T N w0 O (.loop c) st Q:=fun hT hc E a w r hb=>by
  unfold alN at hc;refine ph (fun n a w=>∃ x E,ok x/\μ x=n/\iE O E w w0.heap.size N (I x) a/\Below w0.heap.size w0 w) (n:=μ x0) ⟨x0,E,mI,rfl,h0 E w _ N a r,hb⟩ ?_;rintro n a w ⟨x,E,hx,rfl,r,hb⟩;refine wp_mono (round x hx hT hc E a w r hb) fun e a' w' hp=>?_
  cases e with
  | normal=>
    obtain⟨dc,E',⟨y,h1,h2,h3⟩,r',fa⟩:=hp;exact⟨μ y,h2,y,E',h1,rfl,h3 E' w' _ N a' r',fa⟩
  | exit id=>
    obtain⟨dc,E',hq,r',fa⟩:=hp;exact⟨dc,E',hq,r',fa⟩
  | ret=>
    obtain⟨dc,E',hq,r',fa⟩:=hp;exact⟨dc,E',hq,r',fa⟩
  | goto l=>exact hp.elim
  | panic ch=>exact hp.elim
  | outgrown=>exact hp.elim
def Qm (dU:List (Nat × Row))(R:Row):Bool:=match R.dp with
  | none=>true
  | some d=>d.ln.all fun l=>match lk dU l.2.2.1 with
    | some R'=>Nat.ble l.2.2.2 R'.bA
    | none=>false
instance [h:eQ O]:SL 0 O:={ h.toGlC with v:=fun j _=>eQ.v j,b:=fun j _=>eQ.b j }
def Xw (n1:Nat)(st:St)(ox:List (Nat × AV))(fG:List (Nat × List Ce))(dU:List (Nat × Row)):Bool:=
  (st.bx.all (fun p=>Nat.ble n1 p.1||(match lk fG p.1 with
    | some _=>true
    | none=>false))&&st.rw.all fun p=>Nat.ble n1 p.1||(match lk dU p.1 with
    | some _=>true
    | none=>false)) &&
  (ox.all (fun p=>p.2.ed.all (fun b=>match lk fG b with
    | some _=>true
    | none=>false)&&p.2.cP.all fun q=>match lk dU q.1 with
    | some R=>Nat.ble q.2 R.bA
    | none=>false) &&
  (fG.all (fun p=>(p.2.flatMap Ce.cP).all fun q=>match lk dU q.1 with
    | some R=>Nat.ble q.2 R.bA
    | none=>false)&&dU.all fun p=>Qm dU p.2))
theorem dN {n1:Nat}[SL n1 O]{st:St}{ox:List (Nat × AV)}{fG:List (Nat × List Ce)}{dU:List (Nat × Row)}{w8:Nat}(hk:Xw n1 st ox fG dU=true)(hn:below w8 fG dU=true)(hs:SlI st ox)(hb:BxI st fG)(hr:RwI st dU):WkL O st ⟨ox,fG,dU,w8⟩:=by
  intro E w n0 N a r;unfold Xw at hk;unfold below at hn;simp only[ah] at hk hn;obtain⟨⟨q1,q2⟩,q3,q4,q5⟩:=hk
  have kb:∀ b cs,lk st.bx b=some cs->b < n1->lk fG b=some cs:=fun b cs h aU=>by
    have:=aN.1 q1 (b,cs) (eD h);simp only[cC] at this;rcases this with this|this
    · have:=Nb this
      omega
    · split at this
      · rename_i x hx
        rw[C0 hb b x (eD hx)] at h;rw[hx,h]
      · cases this
  have kr:∀ b cs,lk st.rw b=some cs->b < n1->lk dU b=some cs:=fun b cs h aU=>by
    have:=aN.1 q2 (b,cs) (eD h);simp only[cC] at this;rcases this with this|this
    · have:=Nb this
      omega
    · split at this
      · rename_i x hx
        rw[BE hr b x (eD hx)] at h;rw[hx,h]
      · cases this
  have get:∀ t,(St.get ⟨ox,fG,dU,w8⟩ t)=.bot\/(t,St.get ⟨ox,fG,dU,w8⟩ t)∈ox:=fun t=>by
    show(match lk ox t with|some v=>v|none=>.bot)=.bot\/(t,(match lk ox t with|some v=>v|none=>.bot))∈ox
    cases hq:lk ox t with
    | none=>exact .inl rfl
    | some v=>exact .inr (eD hq)
  have row:∀ (q:Nat × Nat),(match lk dU q.1 with
    | some R=>Nat.ble q.2 R.bA
    | none=>false)=true->St.lJ ⟨ox,fG,dU,w8⟩ q:=fun q h=>by
    split at h
    · rename_i R hR
      exact⟨R,hR,Nb h⟩
    · cases h
  have box:∀ (b:Nat),(match lk fG b with
    | some _=>true
    | none=>false)=true->St.hasB ⟨ox,fG,dU,w8⟩ b:=fun b h=>by
    split at h
    · rename_i cs en
      exact⟨cs,en⟩
    · cases h
  refine⟨r.yn,r.sz,fun t=>?_,fun i cs hi=>r.box i cs (C0 hb i cs (eD hi)),fun τ R hR=>r.row τ R (BE hr τ R (eD hR)),⟨fun t b fa=>?_,fun t p hp=>?_,fun b cs en p hp=>?_,fun b cs en=>?_,fun τ R hR=>?_,fun τ R d hR hd l hl=>?_⟩,r.hi,r.nM,r.gh,fun j V hj=>?_,fun j b hj=>?_,r.sn⟩
  · rcases get t with h|h
    · rw[h];exact⟨⟩
    · rw[<- Jp hs t _ h];exact r.slt t
  · rcases get t with h|h
    · rw[h] at fa;cases fa
    · have:=aN.1 q3 _ h
      rw[ah] at this;exact box b (aN.1 this.1 b fa)
  · rcases get t with h|h
    · rw[h] at hp;cases hp
    · have:=aN.1 q3 _ h
      rw[ah] at this;exact row p (aN.1 this.2 p hp)
  · exact row p (aN.1 (aN.1 q4 (b,cs) (eD en)) p hp)
  · exact Nb (aN.1 hn.1 (b,cs) (eD en))
  · exact Nb (aN.1 hn.2 (τ,R) (eD hR))
  · have:=aN.1 q5 (τ,R) (eD hR)
    unfold Qm at this;rw[hd] at this;exact row (l.2.2.1,l.2.2.2) (aN.1 this l hl)
  · obtain⟨h1,R,h2⟩:=r.Zu j V hj
    refine⟨h1,R,kr j R h2 (Nat.lt_of_not_le fun hle=>?_)⟩;rw[SL.v j hle] at hj
    cases hj
  · obtain⟨h1,cs,h2⟩:=r.MA j b hj
    refine⟨h1,cs,kb j cs h2 (Nat.lt_of_not_le fun hle=>?_)⟩;rw[SL.b j hle] at hj
    cases hj
end
section
variable {P:Program}{T:Nat->Option Ty}{O:iy}[GlC O]
omit [GlC O] in
theorem Tp.Ih {N:Nat}{w0:World}{c:Code}{st:St}{Q:Ex->St->Prop}(rs:List (Nat × Row))(n:Nat)
  (hw:∀ (E:Env) (w:World) (a:Act),iE O E w w0.heap.size N st a->∃ E',cx O E' w w0.heap.size N (st.nx+n) (st.app none ⟨.bot,[],rs⟩) a)
  (h:Tp P T N w0 O c ⟨st.sl,st.bx,rs++st.rw,st.nx+n⟩ Q):Tp P T N w0 O c st Q:=fun hT hc E a w r hb=>by
 obtain⟨E',r'⟩:=hw E w a r;exact h hT hc E' a w ⟨r'.yn,r'.sz,r'.slt,r'.box,r'.row,⟨r'.sc.sb,r'.sc.sr,r'.sc.br,r'.sc.fb,r'.sc.fr,r'.sc.rl⟩,r'.hi,r'.nM,r'.gh,r'.Zu,r'.MA,r'.sn⟩ hb
theorem Mv.Ih {st:St}{E E':Env}{w:World}{X Y:Nat->Prop}(lo:∀ b,E.rl b=.bH\/E.rl b=.eH\/(∃ i,E.rl b=.bx i)->E'.rl b=E.rl b)(bk:E'.bk=E.bk)(vl:∀ τ R v,lk st.rw τ=some R->v<=R.bA->E'.vl τ v=E.vl τ v)(rw_:∀ τ,(∃ R,lk st.rw τ=some R)->¬ Y τ->∀ g,(E.rl g=.rw τ->E'.rl g=.rw τ)/\∀ j o,E.rl g=.jo τ j o->E'.rl g=.jo τ j o):Mv st E w E' w X Y:=
 ⟨ak _,fun b _ h=>lo b (h.elim .inl fun h=>.inr (.inl h)),fun b h _=>⟨rfl,(lo b (.inl h)).trans h⟩,fun i cs _=>by rw[bk],fun i cs _ _ _ h=>⟨rfl,(lo _ (.inr (.inr ⟨i,h⟩))).trans h⟩,vl,fun τ R hR hY g _ _ h=>⟨rfl,((rw_ τ ⟨R,hR⟩ hY g).1 h)⟩,fun _ _ _=>rfl,fun τ R hR hY g j o _ h=>⟨rfl,(rw_ τ ⟨R,hR⟩ hY g).2 j o h⟩⟩
omit [GlC O] in
theorem Tp.deep {N:Nat}{w0:World}{c:Code}{st:St}{Q:Ex->St->Prop}(τ:Nat)(D:List (Nat × Nat × Nat)){R:Row}(hR:lk st.rw τ=some R)(hd:R.dp=none)(h:Tp P T N w0 O c ⟨st.sl,st.bx,(τ,{ R with dp:=some ⟨D,0,[]⟩ }) :: st.rw,st.nx⟩ Q)(hM:Dp.iQ ⟨D,0,[]⟩=false:=by rfl):Tp P T N w0 O c st Q:=by
 refine Tp.Ih [(τ,{ R with dp:=some ⟨D,0,[]⟩ })] 0 (fun E w a r=>⟨E,?_⟩) h;have mv:Mv st E w E w (fun i=>∃ cs,lk ([]:List (Nat × List Ce)) i=some cs) (fun τ'=>∃ R',lk [(τ,({ R with dp:=some ⟨D,0,[]⟩ }:Row))] τ'=some R'):=Mv.refl _ _ _ _ _
 have one:∀ {τ' R'},lk [(τ,({ R with dp:=some ⟨D,0,[]⟩ }:Row))] τ'=some R'->τ'=τ/\R'={ R with dp:=some ⟨D,0,[]⟩ }:=fun {τ' R'} h=>by
  rw[cp] at h;split at h
  ·rename_i e
   cases h
   exact⟨e.symm,rfl⟩
  ·cases h
 refine cx.app (v:=.tuple #[]) r (t:=none) (fun _ h=>by cases h) mv ⟨fun τ' R1 R2 e1 e2=>?_,fun b hb=>(by cases hb),fun p hp=>(by cases hp),fun _ _ h=>(by cases h),fun τ' R' h=>?_,fun τ' R' d' h kH l hl=>?_⟩ trivial (fun _ _ h=>by cases h) fun τ' R' h=>?_
 ·obtain⟨rfl,rfl⟩:=one e2;rw[hR] at e1
  cases e1
  exact ak _
 ·obtain⟨rfl,rfl⟩:=one h;exact r.sc.fr τ' R hR
 ·obtain⟨rfl,rfl⟩:=one h
  cases kH
  cases hl
 ·obtain⟨rfl,rfl⟩:=one h;obtain⟨es,h1,h2,h3⟩:=(r.row τ' R hR).ow hd;refine RD.rr rfl hM ⟨es,h1,⟨h2.len,fun j vs ts q1 q2=>?_,fun j vs _=>vs.one,fun j vs ts q1 q2 o v t q3 q4=>⟨fun ρ u hm=>(by cases hm),fun _=>⟨fun ty k _ hj=>absurd hj (Nat.not_lt_zero _),fun _=>?_⟩⟩⟩,h3⟩
  ·rw[<- (h2.at_ j vs ts q1 q2).len,Cl.len]
  ·obtain⟨v',h4,h5⟩:=(h2.at_ j vs ts q1 q2).a2.get o t q4;rw[q3] at h4
   cases h4
   exact h5
omit [GlC O] in
theorem Tp.take {N:Nat}{w0:World}{c:Code}{st:St}{Q:Ex->St->Prop}(τ j o ty k:Nat){R:Row}{d:Dp}{ts:List Tr}{ys:List (List Tr)}(hR:lk st.rw τ=some R)(hd:R.dp=some d)(qN:d.ln=[])(hD:(o,ty,k)∈d.D)(hj:j < d.c)(Dg:R.xs[j]? = some ts)(ht:ts[o]? = some (.sl k ys))(h:Tp P T N w0 O c ⟨st.sl,st.bx,(τ,{ R with dp:=some ⟨d.D,d.c,[(j,o,st.nx,0)]⟩ }) :: (st.nx,⟨ty,k,0,ys,none⟩) :: st.rw,st.nx+1⟩ Q)(hM:d.iQ=false:=by rfl):Tp P T N w0 O c st Q:=by
 refine Tp.Ih [(τ,{ R with dp:=some ⟨d.D,d.c,[(j,o,st.nx,0)]⟩ }),(st.nx,⟨ty,k,0,ys,none⟩)] 1 (fun E w a r=>?_) h;have hτ:τ < st.nx:=r.sc.fr τ R hR;obtain⟨es,h1,h2,h3⟩:=(r.row τ R hR).rd hd hM;have oY:j < es.length:=by rw[h2.len];exact(an.1 Dg).1
 have hex:=ag oY
 have XC:o < (es[j]).1.length:=by
  rw[Cl.len,<- h2.ln j _ ts hex Dg];exact(an.1 ht).1
 have hv:=ag XC;obtain⟨v,ev⟩:∃ v,(es[j]).1[o]=v:=⟨_,rfl⟩
 rw[ev] at hv;obtain⟨xs,e1,how⟩:=((h2.at_ j _ ts hex Dg o v _ hv ht).2 fun ρ u hm=>by rw[qN] at hm;cases hm).1 ty k hD hj
 cases e1
 have mn:v.oneCell'=true:=(es[j]).one v (bc hv)
 let E':Env:=⟨fun b=>match E.rl b with
  | .jo a b c=>if a=τ/\b=j/\c=o then .rw st.nx else .jo a b c
  | x=>x,E.bk,fun ρ u=>if ρ=st.nx then v else E.vl ρ u⟩
 have aoG:∀ {b},E.rl b=.jo τ j o->E'.rl b=.rw st.nx:=fun {b} hb=>by simp only[E',hb,and_self,if_true]
 have DR:∀ {b},E.rl b≠.jo τ j o->E'.rl b=E.rl b:=fun {b} hb=>by
  simp only[E'];split
  ·rename_i x y z e;rw[if_neg]
   ·exact e.symm
   ·rintro⟨rfl,rfl,rfl⟩;exact hb e
  ·rfl
 have GG:∀ {ρ u},ρ < st.nx->E'.vl ρ u=E.vl ρ u:=fun {ρ u} hρ=>by
  simp only[E'];rw[if_neg (by omega)]
 have one:∀ {τ' R'},lk [(τ,({ R with dp:=some ⟨d.D,d.c,[(j,o,st.nx,0)]⟩ }:Row)),(st.nx,⟨ty,k,0,ys,none⟩)] τ'=some R'->(τ'=τ/\R'={ R with dp:=some ⟨d.D,d.c,[(j,o,st.nx,0)]⟩ })\/τ'=st.nx/\R'=⟨ty,k,0,ys,none⟩:=fun {τ' R'} h=>by
  rw[cp] at h;split at h
  ·rename_i e
   cases h
   exact .inl ⟨e.symm,rfl⟩
  ·rw[cp] at h;split at h
   ·rename_i e
    cases h
    exact .inr ⟨e.symm,rfl⟩
   ·cases h
 have isY:∃ R',lk [(τ,({ R with dp:=some ⟨d.D,d.c,[(j,o,st.nx,0)]⟩ }:Row)),(st.nx,⟨ty,k,0,ys,none⟩)] τ=some R':=⟨_,cp _ _ _ _ |>.trans (if_pos rfl)⟩
 have mv:Mv st E w E' w (fun i=>∃ cs,lk ([]:List (Nat × List Ce)) i=some cs) (fun τ'=>∃ R',lk [(τ,({ R with dp:=some ⟨d.D,d.c,[(j,o,st.nx,0)]⟩ }:Row)),(st.nx,⟨ty,k,0,ys,none⟩)] τ'=some R'):=by
  refine Mv.Ih (fun b hb=>DR fun e=>?_) rfl (fun τ' R' v hτ' _=>GG (r.sc.fr τ' R' hτ')) fun τ' Fk hY g=>⟨fun hg=>(DR fun e=>?_).trans hg,fun j' o' hg=>(DR fun e=>?_).trans hg⟩
  ·rw[e] at hb;rcases hb with h|h|⟨i,h⟩ <;> cases h
  ·rw[e] at hg
   cases hg
  ·rw[e] at hg
   cases hg
   exact hY isY
 refine⟨E',cx.app (v:=.tuple #[]) (r.mono (Nat.le_add_right _ 1)) (t:=none) (fun _ h=>by cases h) mv ⟨fun τ' R1 R2 e1 e2=>?_,fun b hb=>(by cases hb),fun p hp=>(by cases hp),fun _ _ h=>(by cases h),fun τ' R' h=>?_,fun τ' R' d' h kH l hl=>?_⟩ trivial (fun _ _ h=>by cases h) fun τ' R' h=>?_⟩
 ·rcases one e2 with⟨rfl,rfl⟩|⟨rfl,rfl⟩
  ·rw[hR] at e1
   cases e1
   exact ak _
  ·exact absurd (r.sc.fr _ _ e1) (Nat.lt_irrefl _)
 ·rcases one h with⟨rfl,rfl⟩|⟨rfl,rfl⟩ <;> omega
 ·rcases one h with⟨rfl,rfl⟩|⟨rfl,rfl⟩
  ·cases kH
   obtain rfl:l=(j,o,st.nx,0):=by simpa using hl
   refine .inr ⟨⟨ty,k,0,ys,none⟩,?_,ak _⟩;rw[cp,if_neg (by simp only;omega),cp,if_pos rfl]
  ·cases kH
 ·rcases one h with⟨rfl,rfl⟩|⟨rfl,rfl⟩
  ·refine RD.rr rfl hM ⟨es,by show World.ownsRow _ _ _ _ (E'.vl τ' R.bA) _ _;rw[GG hτ];exact h1,⟨h2.len,h2.ln,h2.one,fun j' vs vp q1 q2 o' v' t' q3 q4=>?_⟩,fun g hg=>?_⟩
   ·have hce:=h2.at_ j' vs vp q1 q2 o' v' t' q3 q4;have fk:∀ ρ u,(j',o',ρ,u)∉d.ln:=fun ρ u=>by rw[qN];exact List.not_mem_nil
    refine⟨fun ρ u hm=>?_,fun MS=>⟨fun Lu k' hm aU=>?_,fun hm=>?_⟩⟩
    ·simp only[aJ,Prod.mk.injEq] at hm;obtain⟨rfl,rfl,rfl,rfl⟩:=hm;rw[hex] at q1
     cases q1
     rw[hv] at q3
     cases q3
     exact⟨by simp only[E',if_true],mn⟩
    ·obtain⟨tf,e2,h5⟩:=(hce.2 fk).1 Lu k' hm aU;refine⟨tf,e2,h5.to (ak _) (fun b hb _=>(DR fun e=>by rw[hb] at e;cases e).trans hb) fun g _ _ hg=>?_⟩;refine(DR fun e=>?_).trans hg;rw[hg] at e
     cases e
     exact MS st.nx 0 aB
    ·exact((hce.2 fk).2 hm).frame (ak _) (fun _ _ _=>rfl) fun b hb _=>(DR fun e=>by rw[show E.rl b=_ from hb] at e;cases e).trans hb
   ·have hg:(E'.vl τ' R.bA).ownBlock=some g:=hg;rw[GG hτ] at hg;exact(DR fun e=>by rw[h3 g hg] at e;cases e).trans (h3 g hg)
  ·refine Ow.rr rfl ?_;show Ow E' w w0.heap.size (.rw st.nx) ty k (E'.vl st.nx 0) ys;rw[show E'.vl st.nx 0=v by simp only[E',if_true]];exact how.to (ak _) (fun b hb _=>(DR fun e=>by rw[hb] at e;cases e).trans hb) fun g _ _ hg=>aoG hg
def uO (ρ:Nat):List (Nat × Nat × Nat × Nat)->Option Nat
 | []=>none
 | l :: r=>bif Nat.beq l.2.2.1 ρ then some l.2.1 else uO ρ r
def inD (o ty k:Nat):List (Nat × Nat × Nat)->Bool
 | []=>false
 | x :: r=>bif Nat.beq x.1 o&&(Nat.beq x.2.1 ty&&Nat.beq x.2.2 k) then true else inD o ty k r
theorem KA {o ty k:Nat}:∀ {D:List (Nat × Nat × Nat)},inD o ty k D=true->(o,ty,k)∈D
 | (a,b,c) :: r,h=>by
  unfold inD at h
  cases hb:Nat.beq a o&&(Nat.beq b ty&&Nat.beq c k) with
  | true=>
   simp only[ah] at hb;obtain⟨rfl,rfl,rfl⟩:a=o/\b=ty/\c=k:=⟨ai hb.1,ai hb.2.1,ai hb.2.2⟩
   exact aB
  | false=>
   simp only[hb,cond_false] at h;exact aM _ (KA h)
 | [],h=>by cases h
theorem Cj {x:Nat}:∀ {l:List Nat},x∈l->kh x l≠none
 | y :: r,hx,h=>by
  unfold kh at h
  cases hq:Nat.beq y x with
  | true=>simp[hq] at h
  | false=>
   simp only[hq,cond_false] at h;rcases List.mem_cons.1 hx with rfl|hx
   ·simp at hq
   ·have:=Cj hx
    cases hz:kh x r with
    | none=>exact this hz
    | some i=>simp[hz] at h
 | [],hx,_=>by cases hx
def KW (D:List (Nat × Nat × Nat))(rw:List (Nat × Row)):List (Nat × Nat × Nat × Nat)->List Tr->Option (List Tr × List (Nat × Row))
 | [],ts=>some (ts,[])
 | (_,o,ρ,u) :: l,ts=>match lk rw ρ,KW D rw l ts with
  | some ⟨ty,k,bA,ys,none⟩,some (vp,rs)=>bif Nat.beq bA u&&inD o ty k D then some (vp.set o (.sl k ys),(ρ,⟨ty,k,u+1,[],none⟩) :: rs) else none
  | _,_=>none
theorem FD {D:List (Nat × Nat × Nat)}{rw:List (Nat × Row)}:∀ {ln:List (Nat × Nat × Nat × Nat)} {ts vp:List Tr} {rs:List (Nat × Row)},KW D rw ln ts=some (vp,rs)->fT (ln.map (·.2.1))=true->
  vp.length=ts.length/\(∀ i o ρ u,(i,o,ρ,u)∈ln->∃ ty k ys,lk rw ρ=some ⟨ty,k,u,ys,none⟩/\(o,ty,k)∈D/\(o < ts.length->vp[o]? = some (.sl k ys)))/\(∀ p,(∀ l∈ln,l.2.1≠p)->vp[p]? = ts[p]?)/\
  (∀ ρ R',lk rs ρ=some R'->∃ i o u ty k ys,(i,o,ρ,u)∈ln/\lk rw ρ=some ⟨ty,k,u,ys,none⟩/\R'=⟨ty,k,u+1,[],none⟩)/\∀ l∈ln,∃ R',lk rs l.2.2.1=some R'
 | [],ts,vp,rs,h,_=>by
  cases h
  exact⟨rfl,fun i o ρ u hm=>(by cases hm),fun p _=>rfl,fun ρ R' h=>(by cases h),fun l hm=>by cases hm⟩
 | (i0,o0,ρ0,u0) :: ln,ts,vp,rs,h,hn=>by
  unfold KW at h;split at h
  ·rename_i ty k bA ys ts1 rs1 h1 h2
   cases hb:Nat.beq bA u0&&inD o0 ty k D with
   | false=>rw[hb] at h;cases h
   | true=>
    rw[hb] at h
    cases h
    rw[ah] at hb;obtain rfl:=ai hb.1
    have vF:fT (ln.map (·.2.1))=true/\kh o0 (ln.map (·.2.1))=none:=by
     rw[bW] at hn;unfold fT at hn;split at hn
     ·cases hn
     ·rename_i h3;exact⟨hn,h3⟩
    have iR:∀ l∈ln,l.2.1≠o0:=fun l hl e=>by
     exact Cj (x:=o0) (l:=ln.map (·.2.1)) (bL.2 ⟨l,hl,e⟩) vF.2
    obtain⟨a1,a2,a3,a4,a5⟩:=FD h2 vF.1;refine⟨by rw[bQ,a1],fun i o ρ u hm=>?_,fun p hp=>?_,fun ρ R' hl=>?_,fun l hm=>?_⟩
    ·rcases List.mem_cons.1 hm with e|hm
     ·cases e
      exact⟨ty,k,ys,h1,KA hb.2,fun aU=>by rw[List.getElem?_set_self (by rw[a1];exact aU)]⟩
     ·obtain⟨Lu,k',Td,g1,g2,g3⟩:=a2 i o ρ u hm;exact⟨Lu,k',Td,g1,g2,fun aU=>by rw[List.getElem?_set_ne (fun e=>iR _ hm e.symm)];exact g3 aU⟩
    ·rw[List.getElem?_set_ne (fun e=>hp _ aB e)];exact a3 p fun l hl=>hp l (aM _ hl)
    ·rw[cp] at hl;split at hl
     ·rename_i e;subst e
      cases hl
      exact⟨i0,o0,bA,ty,k,ys,aB,h1,rfl⟩
     ·obtain⟨i,o,u,Lu,k',Td,g1,g2⟩:=a4 ρ R' hl;exact⟨i,o,u,Lu,k',Td,aM _ g1,g2⟩
    ·rw[cp];split
     ·exact⟨_,rfl⟩
     ·rcases List.mem_cons.1 hm with rfl|hm
      ·rename_i e;exact(e rfl).elim
      ·exact a5 l hm
  ·cases h
theorem xg {ρ o:Nat}:∀ {ln:List (Nat × Nat × Nat × Nat)},uO ρ ln=some o->∃ i u,(i,o,ρ,u)∈ln
 | (a,b,c,d) :: r,h=>by
  unfold uO at h
  cases hb:Nat.beq c ρ with
  | true=>
   simp only[hb,cond_true] at h
   cases h
   rw[ai hb];exact⟨a,d,aB⟩
  | false=>
   simp only[hb,cond_false] at h;obtain⟨i,u,h1⟩:=xg h;exact⟨i,u,aM _ h1⟩
 | [],h=>by cases h
theorem EF {i o ρ u:Nat}:∀ {ln:List (Nat × Nat × Nat × Nat)},fT (ln.map (·.2.2.1))=true->(i,o,ρ,u)∈ln->uO ρ ln=some o
 | (a,b,c,d) :: r,hn,h=>by
  rw[bW] at hn;unfold fT at hn;unfold uO;rcases List.mem_cons.1 h with e|h
  ·cases e
   simp
  ·split at hn
   ·cases hn
   ·rename_i h3
    cases hb:Nat.beq c ρ with
    | true=>
     exfalso;have e:=ai hb;simp only at h3;rw[e] at h3;exact Cj (x:=ρ) (l:=r.map (·.2.2.1)) (bL.2 ⟨_,h,rfl⟩) h3
    | false=>
     simp only[cond_false];exact EF hn h
 | [],_,h=>by cases h
def Zt (j:Nat):List (Nat × Nat × Nat × Nat)->Prop
 | []=>True
 | l :: r=>l.1=j/\Zt j r
theorem Kh {j:Nat}:∀ {ln:List (Nat × Nat × Nat × Nat)},Zt j ln->∀ l∈ln,l.1=j
 | a :: r,h,l,hl=>by
  rcases List.mem_cons.1 hl with rfl|hl
  ·exact h.1
  ·exact Kh h.2 l hl
 | [],_,l,hl=>by cases hl
def Jo (ln:List (Nat × Nat × Nat × Nat)):List (Nat × Nat × Nat)->Bool
 | []=>true
 | x :: r=>pM x.1 (ln.map (·.2.1))&&Jo ln r
theorem DL {ln:List (Nat × Nat × Nat × Nat)}:∀ {D:List (Nat × Nat × Nat)},Jo ln D=true->∀ x∈D,∃ l∈ln,l.2.1=x.1
 | a :: r,h,x,hx=>by
  unfold Jo at h;rw[ah] at h;rcases List.mem_cons.1 hx with rfl|hx
  ·obtain⟨l,h1,h2⟩:=bL.1 (rP h.1);exact⟨l,h1,h2⟩
  ·exact DL h.2 x hx
 | [],_,x,hx=>by cases hx
theorem J4:∀ {D:List (Nat × Nat × Nat)},fT (D.map (·.1))=true->∀ {o ty k Lu k'},(o,ty,k)∈D->(o,Lu,k')∈D->ty=Lu/\k=k'
 | (a,b,c) :: r,h,o,ty,k,Lu,k',h1,h2=>by
  rw[bW] at h;unfold fT at h;split at h
  ·cases h
  ·rename_i h3
   have no:∀ {ty k},(a,ty,k)∈r->False:=fun {ty k} hm=>by
    exact Cj (x:=a) (l:=r.map (·.1)) (bL.2 ⟨_,hm,rfl⟩) h3
   rcases List.mem_cons.1 h1 with e1|h1 <;> rcases List.mem_cons.1 h2 with e2|h2
   ·cases e1
    cases e2
    exact⟨rfl,rfl⟩
   ·cases e1
    exact(no h2).elim
   ·cases e2
    exact(no h1).elim
   ·exact J4 h h1 h2
 | [],_,_,_,_,_,_,h1,_=>by cases h1
open Classical in
omit [GlC O] in
theorem Tp.put {N:Nat}{w0:World}{c:Code}{st:St}{Q:Ex->St->Prop}(τ j c':Nat){R:Row}{d:Dp}{ts vp:List Tr}{rs:List (Nat × Row)}(hR:lk st.rw τ=some R)(hd:R.dp=some d)(Dg:R.xs[j]? = some ts)(hf:KW d.D st.rw d.ln ts=some (vp,rs))(hj:Zt j d.ln)(pA:(fT (d.ln.map (·.2.1))&&(fT (d.ln.map (·.2.2.1))&&fT (d.D.map (·.1))))=true)(hc:c'=d.c/\j < d.c\/c'=d.c+1/\j=d.c/\Jo d.ln d.D=true)
  (h:Tp P T N w0 O c ⟨st.sl,st.bx,((τ,{ R with xs:=R.xs.set j vp,dp:=some ⟨d.D,c',[]⟩ }) :: rs)++st.rw,st.nx⟩ Q) (hM:d.iQ=false:=by rfl):Tp P T N w0 O c st Q:=by
 refine Tp.Ih ((τ,{ R with xs:=R.xs.set j vp,dp:=some ⟨d.D,c',[]⟩ }) :: rs) 0 (fun E w a r=>?_) h;simp only[ah] at pA;obtain⟨n1,n2,n3⟩:=pA;obtain⟨f1,f2,f3,f4,f5⟩:=FD hf n1;have hje:=Kh hj;have hcc:d.c<=c'/\j < c':=by omega
 obtain⟨es,h1,h2,h3⟩:=(r.row τ R hR).rd hd hM
 have hτn:∀ i o u,(i,o,τ,u)∉d.ln:=fun i o u hm=>by
  obtain⟨ty,k,ys,g1,_⟩:=f2 i o τ u hm;rw[hR] at g1
  cases g1
  cases hd
 let E':Env:=⟨fun b=>match E.rl b with
  | .rw ρ=>(match uO ρ d.ln with
   | some o=>.jo τ j o
   | none=>.rw ρ)
  | x=>x,E.bk,fun ρ u=>if ∃ i o u',(i,o,ρ,u')∈d.ln/\u=u'+1 then .slice none 0 0 else E.vl ρ u⟩
 have TL:∀ {b},(∀ ρ,E.rl b=.rw ρ->uO ρ d.ln=none)->E'.rl b=E.rl b:=fun {b} hb=>by
  simp only[E'];split
  ·rename_i ρ e;rw[hb ρ e];exact e.symm
  ·rfl
 have YA:∀ {b},E.rl b=.bH->E'.rl b=.bH:=fun {b} hb=>(TL fun ρ e=>by rw[hb] at e;cases e).trans hb;have afZ:∀ {b x y z},E.rl b=.jo x y z->E'.rl b=.jo x y z:=fun {b x y z} hb=>(TL fun ρ e=>by rw[hb] at e;cases e).trans hb
 have agA:∀ {b ρ},(∀ i o u,(i,o,ρ,u)∉d.ln)->E.rl b=.rw ρ->E'.rl b=.rw ρ:=fun {b ρ} hρ hb=>(TL fun ρ' e=>by
  rw[hb] at e
  cases e
  cases hq:uO ρ d.ln with
  | none=>rfl
  | some o=>
   obtain⟨i,u,hm⟩:=xg hq;exact(hρ i o u hm).elim).trans hb
 have aoH:∀ {b i o ρ u},(i,o,ρ,u)∈d.ln->E.rl b=.rw ρ->E'.rl b=.jo τ j o:=fun {b i o ρ u} hm hb=>by
  simp only[E',hb,EF n2 hm]
 have GG:∀ {ρ u R'},lk st.rw ρ=some R'->u<=R'.bA->E'.vl ρ u=E.vl ρ u:=fun {ρ u R'} hρ hu=>by
  simp only[E'];rw[if_neg];rintro⟨i,o,u',hm,rfl⟩;obtain⟨ty,k,ys,g1,_⟩:=f2 i o ρ u' hm;rw[hρ] at g1
  cases g1
  simp only at hu;omega
 have one:∀ {τ' R'},lk ((τ,({ R with xs:=R.xs.set j vp,dp:=some ⟨d.D,c',[]⟩ }:Row)) :: rs) τ'=some R'->(τ'=τ/\R'={ R with xs:=R.xs.set j vp,dp:=some ⟨d.D,c',[]⟩ })\/∃ i o u ty k ys,(i,o,τ',u)∈d.ln/\lk st.rw τ'=some ⟨ty,k,u,ys,none⟩/\R'=⟨ty,k,u+1,[],none⟩:=fun {τ' R'} h=>by
  rw[cp] at h;split at h
  ·rename_i e
   cases h
   exact .inl ⟨e.symm,rfl⟩
  ·exact .inr (f4 _ _ h)
 have inY:∀ {τ'},(τ'=τ\/∃ i o u,(i,o,τ',u)∈d.ln)->∃ R',lk ((τ,({ R with xs:=R.xs.set j vp,dp:=some ⟨d.D,c',[]⟩ }:Row)) :: rs) τ'=some R':=fun {τ'} h=>by
  rw[cp];split
  ·exact⟨_,rfl⟩
  ·rename_i iR;rcases h with rfl|⟨i,o,u,hm⟩
   ·exact(iR rfl).elim
   ·exact f5 _ hm
 have mv:Mv st E w E' w (fun i=>∃ cs,lk ([]:List (Nat × List Ce)) i=some cs) (fun τ'=>∃ R',lk ((τ,({ R with xs:=R.xs.set j vp,dp:=some ⟨d.D,c',[]⟩ }:Row)) :: rs) τ'=some R'):=by
  refine Mv.Ih (fun b hb=>TL fun ρ e=>?_) rfl (fun τ' R' v hτ' hv=>GG hτ' hv) fun τ' Fk hY g=>⟨fun hg=>agA (fun i o u hm=>hY (inY (.inr ⟨i,o,u,hm⟩))) hg,fun j' o' hg=>afZ hg⟩
  rw[e] at hb;rcases hb with h|h|⟨i,h⟩ <;> cases h
 refine⟨E',cx.app (v:=.tuple #[]) r (t:=none) (fun _ h=>by cases h) mv ⟨fun τ' R1 R2 e1 e2=>?_,fun b hb=>(by cases hb),fun p hp=>(by cases hp),fun _ _ h=>(by cases h),fun τ' R' h=>?_,fun τ' R' d' h kH l hl=>?_⟩ trivial (fun _ _ h=>by cases h) fun τ' R' h=>?_⟩
 ·rcases one e2 with⟨rfl,rfl⟩|⟨i,o,u,ty,k,ys,hm,hl,rfl⟩
  ·rw[hR] at e1
   cases e1
   exact ak _
  ·rw[hl] at e1
   cases e1
   exact Nat.le_succ u
 ·rcases one h with⟨rfl,rfl⟩|⟨i,o,u,ty,k,ys,hm,hl,rfl⟩
  ·exact r.sc.fr _ R hR
  ·exact r.sc.fr _ _ hl
 ·rcases one h with⟨rfl,rfl⟩|⟨i,o,u,ty,k,ys,hm,hl,rfl⟩
  ·cases kH
   cases hl
  ·cases kH
 ·rcases one h with⟨rfl,rfl⟩|⟨i,o,u,ty,k,ys,hm,hl,rfl⟩
  ·refine RD.rr rfl hM ⟨es,by show World.ownsRow _ _ _ _ (E'.vl τ' R.bA) _ _;rw[GG hR (ak _)];exact h1,⟨by rw[bQ];exact h2.len,fun j' vs us q1 q2=>?_,h2.one,fun j' vs us q1 q2 o' v t q3 q4=>?_⟩,fun g hg=>?_⟩
   ·by_cases XG:j=j'
    ·subst XG;rw[List.getElem?_set_self (an.1 Dg).1] at q2
     cases q2
     rw[f1];exact h2.ln j vs ts q1 Dg
    ·rw[List.getElem?_set_ne XG] at q2;exact h2.ln j' vs us q1 q2
   ·refine⟨fun ρ u hm=>(by cases hm),fun _=>?_⟩
    have unl:∀ {ZG:Nat} {us0:List Tr} {t0:Tr},es[ZG]? = some vs->R.xs[ZG]? = some us0->us0[o']? = some t0->ZG=j'->t=t0->(∀ ρ u,(j',o',ρ,u)∉d.ln)->(∀ ty k,(o',ty,k)∈d.D->j' < c'->∃ xs,t=.sl k xs/\Ow E' w w0.heap.size (.jo τ' j' o') ty k v xs)/\((∀ ty k,(o',ty,k)∈d.D->¬ j' < c')->RT E'.F w v t):=fun {ZG us0 t0} p1 p2 p3 p4 p5 fk=>by
     subst p4 p5;obtain⟨_,p6⟩:=h2.at_ ZG vs us0 p1 p2 o' v t q3 p3;obtain⟨p7,p8⟩:=p6 fk;refine⟨fun ty k hm aU=>?_,fun hm=>(p8 fun ty k hm' aU=>hm ty k hm' (by omega)).frame (ak _) (fun _ _ _=>rfl) fun b hb _=>YA hb⟩
     have Iv:ZG < d.c:=by
      rcases hc with⟨e,_⟩|⟨e1,e2,e3⟩
      ·omega
      ·by_cases hjc:ZG=d.c
       ·obtain⟨l,hl,e4⟩:=DL e3 _ hm;obtain⟨l1,l2,l3,l4⟩:=l;have e5:=hje _ hl;simp only at e4 e5;subst e4;rw[e5,e2,<- hjc] at hl;exact(fk _ _ hl).elim
       ·omega
     obtain⟨xs,p9,p10⟩:=p7 ty k hm Iv;exact⟨xs,p9,p10.to (ak _) (fun b hb _=>YA hb) fun g _ _ hg=>afZ hg⟩
    by_cases XG:j=j'
    ·subst XG;rw[List.getElem?_set_self (an.1 Dg).1] at q2
     cases q2
     by_cases uh:∃ ρ u,(j,o',ρ,u)∈d.ln
     ·obtain⟨ρ,u,hm⟩:=uh;obtain⟨ty,k,ys,g1,g2,g3⟩:=f2 j o' ρ u hm;have hot:o' < ts.length:=by rw[<- f1];exact(an.1 q4).1
      have g4:=g3 hot;rw[q4] at g4
      cases g4
      obtain⟨t0,ht0⟩:∃ t0,ts[o']? = some t0:=⟨_,ag hot⟩
      obtain⟨p6,_⟩:=h2.at_ j vs ts q1 Dg o' v t0 q3 ht0;obtain⟨p7,_⟩:=p6 ρ u hm;refine⟨fun Lu k' hm' _=>?_,fun iN=>(iN ty k g2 hcc.2).elim⟩;obtain⟨rfl,rfl⟩:=J4 n3 g2 hm';refine⟨ys,rfl,?_⟩;rw[p7];exact((r.row ρ _ g1).ow rfl).to (ak _) (fun b hb _=>YA hb) fun g _ _ hg=>aoH hm hg
     ·have fk:∀ ρ u,(j,o',ρ,u)∉d.ln:=fun ρ u hm=>uh ⟨ρ,u,hm⟩
      have e:=f3 o' fun l hl e=>by
       obtain⟨l1,l2,l3,l4⟩:=l;have e5:=hje _ hl;simp only at e e5;subst e e5;exact fk _ _ hl
      rw[q4] at e;exact unl q1 Dg e.symm rfl rfl fk
    ·rw[List.getElem?_set_ne XG] at q2;exact unl q1 q2 q4 rfl rfl fun ρ u hm=>XG (hje _ hm).symm
   ·have hg:(E'.vl τ' R.bA).ownBlock=some g:=hg;rw[GG hR (ak _)] at hg;exact agA (fun i o u=>hτn i o u) (h3 g hg)
  ·refine Ow.rr rfl ?_;show Ow E' w w0.heap.size (.rw τ') ty k (E'.vl τ' (u+1)) []
   rw[show E'.vl τ' (u+1)=.slice none 0 0 by
    simp only[E'];rw[if_pos ⟨i,o,u,hm,rfl⟩]]
   exact⟨[],World.ownsRow_nil _ _ _ _,⟨rfl,fun j vs ts h=>by simp at h⟩,fun g hg=>by cases hg⟩
end
section
variable {P:Program}{T:Nat->Option Ty}{N:Nat}
theorem bN {p:Prop}[Decidable p]{A B:Prop}(h1:p->A)(h2:¬ p->B):cond (decide p) A B:=by
 by_cases h:p
 ·rw[decide_eq_true h];exact h1 h
 ·rw[decide_eq_false h];exact h2 h
theorem ej {x y:Int}{A B:Prop}(h1:x=y->A)(h2:¬ x=y->B):cond (x==y) A B:=by
 by_cases h:x=y
 ·rw[beq_iff_eq.2 h];exact h1 h
 ·rw[beq_false_of_ne h];exact h2 h
theorem cj {b:Bool}{A B:Prop}(h:cond b B A):cond (!b) A B:=by cases b <;> exact h
theorem cQ {x y:Int}{A B:Prop}(h1:¬ x=y->A)(h2:x=y->B):cond (x != y) A B:=cj (ej h2 h1)
theorem fV {α:Type}{l:List α}{f:α->List Tr}{n:Int}{K:List Tr->Prop}(h0:0<=n)(h1:n < ((l.map f).length:Int))(h:∀ x,x∈l->K (f x)):∃ (j:Nat) (ts:List Tr),n=j/\(l.map f)[j]? = some ts/\K ts:=by
 rw[Lm] at h1;have hl:n.toNat < l.length:=by omega
 exact⟨n.toNat,f l[n.toNat],by omega,by rw[bI,ag hl];rfl,h _ (aH hl)⟩
theorem Xy {α:Type}{l:List α}{p:α->Prop}(hp:∀ y∈l,p y){f:α->List Tr}{n:Int}{K:List Tr->Prop}(h0:0<=n)(h1:n < ((l.map f).length:Int))(h:∀ x,x∈l->p x->K (f x)):∃ (j:Nat) (ts:List Tr),n=j/\(l.map f)[j]? = some ts/\K ts:=fV h0 h1 fun x hx=>h x hx (hp x hx)
theorem Ch {s:ByteArray}{n:Int}{R:(j:Nat)->j < s.size->Prop}(h0:0<=n)(h1:n < (s.size:Int))(h:∀ hl:n.toNat < s.size,R n.toNat hl):∃ (j:Nat) (h:j < s.size),n=j/\R j h:=by
 have hl:n.toNat < s.size:=by omega
 exact⟨n.toNat,hl,by omega,h hl⟩
theorem Yp {s:ByteArray}{A B:Nat->Prop}{R:Nat->Nat->Prop}(l h:Nat)(ha:A l)(hb:B h)(h1:l<=h)(h2:h<=s.size)(hk:(s.extract l h).size=h - l->R l h):∃ l h:Nat,A l/\B h/\l<=h/\h<=s.size/\R l h:=⟨l,h,ha,hb,h1,h2,hk (by rw[ByteArray.size_extract];omega)⟩
theorem sI {a b:ByteArray}{R:Prop}(h:a.size+b.size<=9223372036854775807)(hk:(a++b).size=a.size+b.size->R):a.size+b.size<=9223372036854775807/\R:=⟨h,hk ByteArray.size_append⟩
theorem acL {ι:Type}{mk:ι->AV}{Φ:ι->Prop}{f:FuncId}{dh:List AV}{A:List AV->Prop}{B:Bool->Prop}{K:AV->List Row->Prop}{X:Prop}(ct:∃ b,Φ b/\Ct P f dh (mk b) [] true)(h1:A dh)(h2:B true)(h3:∀ b,Φ b->K (mk b) []):(∃ dh r rs fresh,A dh/\Ct P f dh r rs fresh/\B fresh/\K r rs)\/X:=by
 obtain⟨b,hb,h⟩:=ct;exact .inl ⟨dh,mk b,[],true,h1,h,h2,h3 b hb⟩
theorem cY {ι:Type}{mk:ι->AV}{Φ:ι->Prop}{f:FuncId}{dh:List AV}{A:List AV->Prop}{K:AV->List Row->Prop}{q X:Prop}(ct:∃ b,Φ b/\Ct P f dh (mk b) [] true)(h1:A dh)(h3:∀ b,Φ b->K (mk b) []):(∃ dh r rs fresh,A dh/\Ct P f dh r rs fresh/\(fresh=true\/q)/\K r rs)\/X:=by
 obtain⟨b,hb,h⟩:=ct;exact .inl ⟨dh,mk b,[],true,h1,h,.inl rfl,h3 b hb⟩
theorem aT (f:FuncId){A:List AV->Prop}{B:Bool->Prop}{K:AV->List Row->Prop}{X:Prop}(h:(∃ dh r rs fresh,A dh/\Ct P f dh r rs fresh/\B fresh/\K r rs)\/X):(∃ dh r rs fresh,A dh/\Ct P f dh r rs fresh/\B fresh/\K r rs)\/X:=h
theorem bo {ι:Type}{mk:ι->AV}{Φ:ι->Prop}{fn:Func}{e:Ex}{st:St}(b:ι)(h:zi T fn (mk b) [] e st)(hb:Φ b)(hr:yT (mk b) []=true):∃ rv rs,(∃ b,rv=mk b/\rs=[]/\Φ b)/\(Nat.ble rs.length 128=true/\yT rv rs=true)/\zi T fn rv rs e st:=⟨mk b,[],⟨b,rfl,rfl,hb⟩,⟨rfl,hr⟩,h⟩
theorem cU {ι:Type}{mk:ι->AV}{Φ:ι->Prop}{f:FuncId}{dh:List AV}(hl:∀ b,tV (mk b)=true)(h:∃ rv rs,(∃ b,rv=mk b/\rs=[]/\Φ b)/\Ct P f dh rv rs false):∃ b,Φ b/\Ct P f dh (mk b) [] true:=by
 obtain⟨rv,rs,⟨b,rfl,rfl,hb⟩,hc⟩:=h;exact⟨b,hb,Ct.tV hc (hl b)⟩
theorem cO (b:Bool):tV (aEo b)=true:=rfl
theorem kF (b:Int):tV (aEn b)=true:=rfl
theorem jg (b:ByteArray):tV (AV.s b)=true:=rfl
noncomputable def mE (c:Code):Nat:=Code.rec (motive:=fun _=>Nat) 9999 (fun id _ _=>id) (fun _ _ a _=>a) (fun _ _ _ a _=>a+1000) (fun _ _ a=>a) (fun _ a=>a+2000) (fun _ _ _ _ _ _=>9999) (fun _=>9999) (fun _ _=>9999) (fun _=>9999) (fun _=>9999) 9999 (fun _=>9999) c
def X2 (P:Program)(T:Nat->Option Ty)(N:Nat)(cs ct:List Nat)(c:Code):St->(Ex->St->Prop)->Prop:=
 Code.rec (motive:=fun _=>St->(Ex->St->Prop)->Prop) (fun st Q=>Q .iV st) (fun id ops d st Q=>WS P T N cs id ops d st Q) (fun a b QT QS st Q=>match lD (mE b) ct with
   | true=>cc P T N (.seq a b) st Q
   | false=>QT st (xb (fun dc=>QS dc Q) Q))
  (fun c _ _ QT QS st Q=>SD c st (QT st Q) (QS st Q)) (fun id _ ih st Q=>ih st (sN id Q)) (fun c _ st Q=>fM P T N c st Q) (fun _ _ _ _ _ _ _ _=>False) (fun id st Q=>Q (.exit id) st)
  (fun _ _ _ _=>False) (fun _ _ _=>False) (fun _ _ _=>False) (fun st Q=>Q .ret st) (fun _ _ _=>False) c
theorem cc.mono {c:Code}{s:St}{Q Q':Ex->St->Prop}(h:cc P T N c s Q)(hq:∀ e s,Q e s->Q' e s):cc P T N c s Q':=by
 obtain⟨e,s',h1,h2⟩:=h;exact⟨e,s',h1,hq _ _ h2⟩
theorem cc.seq {a b:Code}{s:St}{Q:Ex->St->Prop}(h:cc P T N a s (fun e s1=>match e with
  | .iV=>cc P T N b s1 Q
  | e=>Q e s1)):cc P T N (.seq a b) s Q:=by
 obtain⟨e,s1,h1,h2⟩:=h
 cases e with
 | iV=>
  obtain⟨e2,s2,h3,h4⟩:=h2;exact⟨e2,s2,h1.seq h3,h4⟩
 | exit id=>exact⟨_,_,h1.out (by simp),h2⟩
 | ret=>exact⟨_,_,h1.out (by simp),h2⟩
theorem cc.block {id:Nat}{c:Code}{s:St}{Q:Ex->St->Prop}(h:cc P T N c s (sN id Q)):cc P T N (.block id c) s Q:=by
 obtain⟨e,s',h1,h2⟩:=h
 cases e with
 | iV=>exact⟨.iV,s',h1.block rfl,h2⟩
 | ret=>exact⟨.ret,s',h1.block rfl,h2⟩
 | exit i=>
  unfold sN at h2
  cases hb:Nat.beq i id with
  | true=>
   simp only[hb] at h2;exact⟨.iV,s',h1.block (by show _=(bif Nat.beq i id then Ex.iV else Ex.exit i);rw[hb];rfl),h2⟩
  | false=>
   simp only[hb] at h2;exact⟨.exit i,s',h1.block (by show _=(bif Nat.beq i id then Ex.iV else Ex.exit i);rw[hb];rfl),h2⟩
theorem cc.cond {c:Operand}{a b:Code}{s:St}{Q:Ex->St->Prop}(h:SD c s (cc P T N a s Q) (cc P T N b s Q)):cc P T N (.cond c a b) s Q:=by
 unfold SD at h;split at h
 ·rename_i t ht
  cases t with
  | true=>
   obtain⟨e,s',h1,h2⟩:=h;exact⟨e,s',ny.cond ht (fun _=>h1) (fun h=>by cases h),h2⟩
  | false=>
   obtain⟨e,s',h1,h2⟩:=h;exact⟨e,s',ny.cond ht (fun h=>by cases h) fun _=>h1,h2⟩
 ·exact h.elim
theorem cc.bn (cs ct:List Nat):∀ {c:Code} {st:St} {Q:Ex->St->Prop},X2 P T N cs ct c st Q->cc P T N c st Q
 | .skip,st,_,h=>⟨_,_,ny.skip st,h⟩
 | .region _ _ _,_,_,h=>cc.run cs (c:=.region _ _ _) h
 | .seq a b,st,Q,h=>by
  change (match lD (mE b) ct with
   | true=>cc P T N (.seq a b) st Q
   | false=>X2 P T N cs ct a st (xb (fun dc=>X2 P T N cs ct b dc Q) Q)) at h
  split at h
  ·exact h
  ·refine cc.seq ((cc.bn cs ct h).mono fun e s hq=>?_)
   cases e with
   | iV=>exact cc.bn cs ct hq
   | exit id=>exact hq
   | ret=>exact hq
 | .cond c a b,st,Q,h=>by
  change SD c st (X2 P T N cs ct a st Q) (X2 P T N cs ct b st Q) at h;refine cc.cond ?_;unfold SD at h ⊢;split at h
  ·rename_i t ht
   cases t with
   | true=>exact cc.bn cs ct (show X2 P T N cs ct a st Q from h)
   | false=>exact cc.bn cs ct (show X2 P T N cs ct b st Q from h)
  ·exact h.elim
 | .block id c,st,Q,h=>cc.block (cc.bn cs ct (show X2 P T N cs ct c st (sN id Q) from h))
 | .loop c,st,Q,h=>fM.tpx (show fM P T N c st Q from h)
 | .scope ..,_,_,h=>h.elim
 | .exit id,st,Q,h=>⟨_,_,ny.exit id st,h⟩
 | .ret,st,Q,h=>⟨_,_,ny.ret st,h⟩
 | .label _,_,_,h=>h.elim
 | .goto _,_,_,h=>h.elim
 | .rangeFunc ..,_,_,h=>h.elim
 | .refuse _,_,_,h=>h.elim
def wj (bx:List (Nat × List Ce))(v:AV):Bool:=match v with
 | .c x=>x.plain
 | .agg xs=>xs.all Ce.plain
 | .ptr b _=>oD bx b
 | .e9=>true
 | .dL _ _=>true
 | .fn _ caps=>caps.all fun p=>oD bx p.1
 | .lL _ _=>true
 | _=>false
theorem ON {st:St}{m:List (Nat × Nat)}{dU:List (Nat × Row)}{bx:List (Nat × List Ce)}{v:AV}(h:wj bx v=true):Jb st m dU bx v v:=by
 cases v with
 | c x=>cases x with
  | t _=>exact rfl
  | nil=>exact⟨⟩
  | row _ _=>cases h
  | bot=>cases h
 | agg xs=>exact aC xs h
 | ptr b o=>exact⟨rfl,rfl,h⟩
 | e9=>exact⟨⟩
 | dL _ _=>exact⟨rfl,rfl⟩
 | fn f caps=>exact⟨rfl,rfl,h⟩
 | lL _ _=>exact⟨rfl,rfl⟩
 | dX _ _ _ _ _=>cases h
 | sub _ _ _ _=>cases h
 | gi _=>cases h
 | bot=>cases h
theorem rq {st:St}{m:List (Nat × Nat)}{dU:List (Nat × Row)}{bx:List (Nat × List Ce)}:∀ {sl:List (Nat × AV)},sl.map (fun p=>(p.1,st.get p.1))=sl->sl.all (fun p=>wj bx p.2)=true->SlM st m dU bx sl
 | [],_,_=>trivial
 | (t,v) :: r,h,h2=>by
  rw[bW] at h;rw[List.all_cons,ah] at h2;have h1:st.get t=v:=congrArg Prod.snd (List.cons.inj h).1;refine⟨?_,rq (List.cons.inj h).2 h2.2⟩;rw[h1];exact ON h2.1
theorem sM {st:St}{m:List (Nat × Nat)}{dU:List (Nat × Row)}:∀ {bx:List (Nat × List Ce)},bx.map (fun p=>lk st.bx p.1)=bx.map (fun p=>some p.2)->bx.all (fun p=>p.2.all Ce.plain)=true->BxM st m dU bx
 | [],_,_=>trivial
 | (b,cs) :: r,h,h2=>by
  rw[bW,bW] at h;rw[List.all_cons,ah] at h2;refine⟨?_,sM (List.cons.inj h).2 h2.2⟩;rw[(List.cons.inj h).1];exact aC cs h2.1
theorem bX {st:St}{sl:List (Nat × AV)}{bx:List (Nat × List Ce)}{M:Nat}(h1:sl.map (fun p=>(p.1,st.get p.1))=sl)(h2:bx.map (fun p=>lk st.bx p.1)=bx.map (fun p=>some p.2))(h3:(sl.all (fun p=>wj bx p.2)&&bx.all (fun p=>p.2.all Ce.plain))=true)(hn:below M bx []=true):Wk st ⟨sl,bx,[],M⟩:=by
 rw[ah] at h3;exact ba [] rfl hn (rq h1 h3.1) (sM h2 h3.2) trivial
def Xu (st:St):List Nat->(List (Nat × AV)->Prop)->Prop
 | [],K=>K []
 | t :: r,K=>(st.get t).open_ fun v=>Xu st r fun sl=>K ((t,v) :: sl)
theorem ua (st:St):∀ (ks:List Nat) (K:List (Nat × AV)->Prop),Xu st ks K=K (ks.map fun t=>(t,st.get t))
 | [],K=>rfl
 | t :: r,K=>by rw[Xu,AV.pr,ua st r];rfl
def Xv (st:St):List Nat->(List (Nat × List Ce)->Prop)->Prop
 | [],K=>K []
 | b :: r,K=>match lk st.bx b with
  | some cs=>nX cs fun cs=>Xv st r fun bx=>K ((b,cs) :: bx)
  | none=>False
theorem ub (st:St):∀ (bs:List Nat) (K:List (Nat × List Ce)->Prop),Xv st bs K->∃ bx,K bx
 | [],K,h=>⟨_,h⟩
 | b :: r,K,h=>by
  rw[Xv] at h;split at h
  ·rw[lK] at h;obtain⟨bx,h⟩:=ub st r _ h;exact⟨_,h⟩
  ·exact h.elim
theorem cc.cut {α:Type}(id:Nat)(vs:α->List (Nat × AV))(Φ:α->Prop)(ks bs:List Nat)(M:Nat){a b:Code}{st:St}{Q:Ex->St->Prop}(_:mE b=id)
  (h:Xu st ks fun sl=>Xv st bs fun bx=>cc P T N a st (fun e s=>match e with
   | .iV=>∃ x,Φ x/\Wk s ⟨vs x++sl,bx,[],M⟩
   | e=>Q e s)/\∀ x,Φ x->cc P T N b ⟨vs x++sl,bx,[],M⟩ Q):cc P T N (.seq a b) st Q:=by
 rw[ua] at h;obtain⟨bx,h1,h2⟩:=ub st bs _ h;refine cc.seq (h1.mono fun e s hq=>?_)
 cases e with
 | iV=>
  obtain⟨x,hx,hw⟩:=hq;exact(h2 x hx).wk hw
 | exit id=>exact hq
 | ret=>exact hq
theorem fM.at {α:Type}(id:Nat)(vs:α->List (Nat × AV))(ok:α->Prop)(μ:α->Nat)(ks bs:List Nat)(M:Nat){c:Code}{st:St}{Q:Ex->St->Prop}(_:mE c=id)
  (h:Xu st ks fun sl=>Xv st bs fun bx=>(∃ x,ok x/\Wk st ⟨vs x++sl,bx,[],M⟩)/\∀ x,ok x->cc P T N c ⟨vs x++sl,bx,[],M⟩ (fun e s=>match e with
   | .iV=>∃ y,(ok y/\μ y < μ x)/\Wk s ⟨vs y++sl,bx,[],M⟩
   | e=>Q e s)):fM P T N c st Q:=by
 rw[ua] at h;obtain⟨bx,⟨x0,h0,hw⟩,h2⟩:=ub st bs _ h;refine fM.loop (fun x=>⟨vs x++ks.map fun t=>(t,st.get t),bx,[],M⟩) ok μ x0 hw h0 fun x hx=>(h2 x hx).mono fun e s hq=>?_
 cases e with
 | iV=>
  obtain⟨y,⟨h3,h4⟩,h5⟩:=hq;exact⟨y,h3,h4,h5⟩
 | exit id=>exact hq
 | ret=>exact hq
theorem fM.up {β:Type}(id t:Nat)(n:Int)(hn:n<=4611686018427387904)(hn0:0<=n)(vs:β->List (Nat × AV))(Φ:Int->β->Prop)(ks bs:List Nat)(M:Nat){c:Code}{st:St}{Q:Ex->St->Prop}(_:mE c=id)
  (h:Xu st ks fun sl=>Xv st bs fun bx=>(∃ b,Φ 0 b/\Wk st ⟨(t,aEn 0) :: (vs b++sl),bx,[],M⟩)/\∀ i b,0<=i->i<=n->Φ i b->cc P T N c ⟨(t,aEn i) :: (vs b++sl),bx,[],M⟩ (fun e s=>match e with
   | .iV=>i < n/\∃ b,Φ (i+1) b/\Wk s ⟨(t,aEn (IntKind.i64.wrap (i+1))) :: (vs b++sl),bx,[],M⟩
   | e=>Q e s)):fM P T N c st Q:=by
 rw[ua] at h;obtain⟨bx,⟨b0,h0,hw⟩,h2⟩:=ub st bs _ h;refine fM.loop (fun x:Int × β=>⟨(t,aEn x.1) :: (vs x.2++ks.map fun t=>(t,st.get t)),bx,[],M⟩) (fun x=>0<=x.1/\x.1<=n/\Φ x.1 x.2) (fun x=>(n - x.1).toNat) (0,b0) hw ⟨Int.le_refl _,hn0,h0⟩ fun x hx=>(h2 x.1 x.2 hx.1 hx.2.1 hx.2.2).mono fun e s hq=>?_
 cases e with
 | iV=>
  obtain⟨h3,b,h4,h5⟩:=hq;rw[bp,show(x.1+1+9223372036854775808) % 18446744073709551616 - 9223372036854775808=x.1+1 by omega] at h5;exact⟨(x.1+1,b),⟨by have:=hx.1;show 0<=x.1+1;omega,by show x.1+1<=n;omega,h4⟩,by have:=hx.1;show(n - (x.1+1)).toNat < (n - x.1).toNat;omega,h5⟩
 | exit id=>exact hq
 | ret=>exact hq
theorem fM.one (id:Nat){c:Code}{st:St}{Q:Ex->St->Prop}(_:mE c=id)(h:cc P T N c st (fun e s1=>match e with
  | .iV=>fM P T N c s1 Q
  | e=>Q e s1)):fM P T N c st Q:=fM.once h
theorem eO {α β:Type}{l:List α}{f:α->β}{b:Nat}(h:l.length*b<=aV)(hb:Nat.blt 0 b=true):(((l.map f).length:Nat):Int)<=4611686018427387904:=by
 unfold aV at h;rw[Lm];have:=Nb hb;have:l.length*1<=l.length*b:=Nat.mul_le_mul (ak _) this;omega
theorem K9 {a b:ByteArray}{R:Prop}(hl:Nat.ble a.size 40=true)(h:40+b.size<=9223372036854775807)(hk:(a++b).size<=40+b.size->R):a.size+b.size<=9223372036854775807/\R:=by
 have:=Nb hl;exact⟨by omega,hk (by rw[ByteArray.size_append];omega)⟩
theorem FZ {a b:ByteArray}{R:Prop}(hl:Nat.ble b.size 40=true)(h:a.size+40<=9223372036854775807)(hk:(a++b).size<=a.size+40->R):a.size+b.size<=9223372036854775807/\R:=by
 have:=Nb hl;exact⟨by omega,hk (by rw[ByteArray.size_append];omega)⟩
theorem rZ {n:Int}{m:Nat}{K:Nat->Prop}(h0:0<=n)(h1:n < (m:Int))(h:n.toNat < m->K n.toNat):∃ j:Nat,n=j/\j < m/\K j:=⟨n.toNat,by omega,by omega,h (by omega)⟩
def ND:List (List Tr)->Bool
 | []=>true
 | [.lit (.string s)] :: r=>Nat.ble s.size 40&&ND r
 | _ :: _=>false
theorem ye:∀ {xs:List (List Tr)},ND xs=true->∀ (i:Nat),i < xs.length->∃ s:ByteArray,s.size<=40/\xs[i]? = some (eS s)
 | [.lit (.string s)] :: r,h,0,_=>by
  rw[ND,ah] at h;exact⟨s,Nb h.1,rfl⟩
 | [.lit (.string s)] :: r,h,i+1,hi=>by
  rw[ND,ah] at h;obtain⟨s,h1,h2⟩:=ye h.2 i (Nat.lt_of_succ_lt_succ hi);exact⟨s,h1,by rw[List.getElem?_cons_succ];exact h2⟩
theorem Ie {xs:List (List Tr)}{i:Nat}{y:Ty}{K:AV->Prop}(ha:ND xs=true)(hi:i < xs.length)(hy:y.isAgg=false)(h:∀ s:ByteArray,s.size<=40->K (AV.s s)):∃ ts v,xs[i]? = some ts/\vm y ts 0=some v/\K v:=by
 obtain⟨s,h1,h2⟩:=ye ha i hi;exact⟨_,_,h2,by unfold vm;rw[hy];rfl,h s h1⟩
theorem toList_len (s:ByteArray):s.toList.length=s.size:=by
 rw[ByteArray.toList_eq];rfl
theorem Ts {s:ByteArray}(h:(s.toList==(⟨#[]⟩:ByteArray).toList)=true):s.size<=32:=by
 have:=toList_len s;rw[eq_of_beq h,toList_len] at this;rw[<- this];exact aA _
theorem dV (id:Nat){c:Code}{st:St}{Q:Ex->St->Prop}(_:mE c=id)(h:fM P T N c st Q):fM P T N c st Q:=h
theorem W4 {st:St}{t r ρ bA ty k M:Nat}{X:List (List Tr)}{sl:List (Nat × AV)}{bx:List (Nat × List Ce)}(hg:st.get t=.c (.row ρ bA))(hr:lk st.rw ρ=some ⟨ty,k,bA,X,none⟩)(h1:sl.map (fun p=>(p.1,st.get p.1))=sl)(h2:bx.map (fun p=>lk st.bx p.1)=bx.map (fun p=>some p.2))(h3:(sl.all (fun p=>wj bx p.2)&&bx.all (fun p=>p.2.all Ce.plain))=true)(hn:below M bx [(r,⟨ty,k,0,X,none⟩)]=true):Wk st ⟨(t,.c (.row r 0)) :: sl,bx,[(r,⟨ty,k,0,X,none⟩)],M⟩:=by
 rw[ah] at h3;refine ba [(r,ρ)] (by simp[SU,lk,sw]) hn ⟨?_,rq h1 h3.1⟩ (sM h2 h3.2) ⟨?_,ea⟩
 ·rw[hg]
  show(match lk [(r,(⟨ty,k,0,X,none⟩:Row))] r with
   | some R'=>R'.bA=0/\(lk [(r,ρ)] r=some ρ/\(match lk st.rw ρ with
    | some R=>R.bA=bA
    | none=>False))
   | none=>False)
  simp[lk,hr]
 ·show(match lk [(r,ρ)] r with
   | some τ=>(match lk st.rw τ with
    | some R=>R.ty=ty/\R.k=k/\R.Qt ⟨ty,k,0,X,none⟩
    | none=>False)
   | none=>bi _ _)
  simp[lk,hr];exact cL rfl
theorem afF {st:St}{t r ty k M:Nat}{sl:List (Nat × AV)}{bx:List (Nat × List Ce)}(hg:st.get t=.c .nil)(h1:sl.map (fun p=>(p.1,st.get p.1))=sl)(h2:bx.map (fun p=>lk st.bx p.1)=bx.map (fun p=>some p.2))(h3:(sl.all (fun p=>wj bx p.2)&&bx.all (fun p=>p.2.all Ce.plain))=true)(hn:below M bx [(r,⟨ty,k,0,[],none⟩)]=true):Wk st ⟨(t,.c (.row r 0)) :: sl,bx,[(r,⟨ty,k,0,[],none⟩)],M⟩:=by
 rw[ah] at h3;refine ba [] rfl hn ⟨?_,rq h1 h3.1⟩ (sM h2 h3.2) ⟨?_,ea⟩
 ·rw[hg]
  show(match lk [(r,(⟨ty,k,0,[],none⟩:Row))] r with
   | some R'=>R'.bA=0/\lk ([]:List (Nat × Nat)) r=none
   | none=>False)
  simp[lk]
 ·exact bS rfl
theorem cc.CQ (id t r ty k:Nat)(Φ:List (List Tr)->Prop)(ks bs:List Nat)(M:Nat){a b:Code}{st:St}{Q:Ex->St->Prop}(_:mE b=id)
  (h:Xu st ks fun sl=>Xv st bs fun bx=>cc P T N a st (fun e s=>match e with
   | .iV=>∃ X,Φ X/\Wk s ⟨(t,.c (.row r 0)) :: sl,bx,[(r,⟨ty,k,0,X,none⟩)],M⟩
   | e=>Q e s)/\∀ X,Φ X->cc P T N b ⟨(t,.c (.row r 0)) :: sl,bx,[(r,⟨ty,k,0,X,none⟩)],M⟩ Q):cc P T N (.seq a b) st Q:=by
 rw[ua] at h;obtain⟨bx,h1,h2⟩:=ub st bs _ h;refine cc.seq (h1.mono fun e s hq=>?_)
 cases e with
 | iV=>
  obtain⟨x,hx,hw⟩:=hq;exact(h2 x hx).wk hw
 | exit id=>exact hq
 | ret=>exact hq
theorem fM.upL (id t u r ty k:Nat)(n:Int)(hn:n<=4611686018427387904)(hn0:0<=n)(Φ:Int->List (List Tr)->Prop)(ks bs:List Nat)(M:Nat){c:Code}{st:St}{Q:Ex->St->Prop}(_:mE c=id)
  (h:Xu st ks fun sl=>Xv st bs fun bx=>(∃ X,Φ 0 X/\Wk st ⟨(u,.c (.row r 0)) :: (t,aEn 0) :: sl,bx,[(r,⟨ty,k,0,X,none⟩)],M⟩)/\∀ i X,0<=i->i<=n->Φ i X->cc P T N c ⟨(u,.c (.row r 0)) :: (t,aEn i) :: sl,bx,[(r,⟨ty,k,0,X,none⟩)],M⟩ (fun e s=>match e with
   | .iV=>i < n/\∃ X,Φ (i+1) X/\Wk s ⟨(u,.c (.row r 0)) :: (t,aEn (IntKind.i64.wrap (i+1))) :: sl,bx,[(r,⟨ty,k,0,X,none⟩)],M⟩
   | e=>Q e s)):fM P T N c st Q:=by
 rw[ua] at h;obtain⟨bx,⟨b0,h0,hw⟩,h2⟩:=ub st bs _ h;refine fM.loop (fun x:Int × List (List Tr)=>⟨(u,.c (.row r 0)) :: (t,aEn x.1) :: ks.map fun t=>(t,st.get t),bx,[(r,⟨ty,k,0,x.2,none⟩)],M⟩) (fun x=>0<=x.1/\x.1<=n/\Φ x.1 x.2) (fun x=>(n - x.1).toNat) (0,b0) hw ⟨Int.le_refl _,hn0,h0⟩ fun x hx=>(h2 x.1 x.2 hx.1 hx.2.1 hx.2.2).mono fun e s hq=>?_
 cases e with
 | iV=>
  obtain⟨h3,b,h4,h5⟩:=hq;rw[bp,show(x.1+1+9223372036854775808) % 18446744073709551616 - 9223372036854775808=x.1+1 by omega] at h5;exact⟨(x.1+1,b),⟨by have:=hx.1;show 0<=x.1+1;omega,by show x.1+1<=n;omega,h4⟩,by have:=hx.1;show(n - (x.1+1)).toNat < (n - x.1).toNat;omega,h5⟩
 | exit id=>exact hq
 | ret=>exact hq
def u9 (n:Int)(X:List (List Tr)):Prop:=(∀ ts∈X,∃ s:ByteArray,s.size<=2000/\ts=eS s)/\(X.length:Int)<=n
theorem u9.nil {n:Int}(h:0<=n):u9 n []:=⟨fun _ h=>(by cases h),h⟩
theorem u9.up {n m:Int}{X:List (List Tr)}(h:u9 n X)(hm:n<=m):u9 m X:=⟨h.1,Int.le_trans h.2 hm⟩
theorem u9.snoc {n m:Int}{X:List (List Tr)}{s:ByteArray}(h:u9 n X)(hs:s.size<=2000)(hm:n+1<=m):u9 m (X++[[sv s]]):=⟨fun ts ht=>by
 rcases bh.1 ht with ht|ht
 ·exact h.1 ts ht
 ·exact⟨s,hs,aJ.1 ht⟩,by
 have:=h.2;rw[al];simp;omega⟩
theorem u9.list:∀ {X:List (List Tr)} {n:Int},u9 n X->∃ L:List ByteArray,X=L.map eS/\(∀ y∈L,y.size<=2000)/\(L.length:Int)<=n
 | [],_,h=>⟨[],rfl,fun _ h=>(by cases h),h.2⟩
 | x :: X,n,h=>by
  obtain⟨s,h1,rfl⟩:=h.1 x aB;obtain⟨L,rfl,h2,h3⟩:=u9.list (X:=X) (n:=n - 1) ⟨fun ts ht=>h.1 ts (aM _ ht),by have:=h.2;simp at this;omega⟩
  exact⟨s :: L,rfl,fun y hy=>by
   rcases List.mem_cons.1 hy with rfl|hy
   ·exact h1
   ·exact h2 y hy,by simp;omega⟩
theorem ZH {xs:List (List Tr)}{n:Int}{K:List Tr->Prop}(ha:ND xs=true)(h0:0<=n)(h1:n < (xs.length:Int))(h:∀ s:ByteArray,s.size<=40->K (eS s)):∃ (j:Nat) (ts:List Tr),n=j/\xs[j]? = some ts/\K ts:=by
 have hl:n.toNat < xs.length:=by omega
 obtain⟨s,h2,h3⟩:=ye ha n.toNat hl;exact⟨n.toNat,eS s,by omega,h3,h s h2⟩
theorem Yq {s:ByteArray}{n m:Int}{A B:Nat->Prop}{R:Nat->Nat->Prop}(ha:∀ l:Nat,n=l->A l)(hb:∀ l:Nat,m=l->B l)(h0:0<=n)(h1:n<=m)(h2:m<=(s.size:Int))(hk:(s.extract n.toNat m.toNat).size=m.toNat - n.toNat->R n.toNat m.toNat):∃ l h:Nat,A l/\B h/\l<=h/\h<=s.size/\R l h:=
 Yp n.toNat m.toNat (ha _ (by omega)) (hb _ (by omega)) (by omega) (by omega) hk
theorem pP {α:Type}{l:List α}{f:α->List Tr}{n:Int}{K:List Tr->Prop}(h0:0<=n)(h1:n < ((l.map f).length:Int))(h:∀ hl:n.toNat < l.length,K (f (l[n.toNat]'hl))):∃ (j:Nat) (ts:List Tr),n=j/\(l.map f)[j]? = some ts/\K ts:=by
 rw[Lm] at h1;have hl:n.toNat < l.length:=by omega
 exact⟨n.toNat,f l[n.toNat],by omega,by rw[bI,ag hl];rfl,h hl⟩
theorem ku {α:Type}{l:List α}{p:α->Prop}{x:α}(hx:x∈l)(h:∀ y∈l,p y):p x:=h x hx
theorem eF {α:Type}{l:List α}{p:α->Prop}{n:Nat}(hn:n < l.length)(h:∀ y∈l,p y):p (l[n]'hn):=h _ (aH hn)
theorem Ku {α:Type}{l:List α}{f:α->List Tr}{i:Int}{K:List Tr->Prop}(d:α)(b:Nat)(hb:l.length*b<=aV)(NV:Nat.blt 0 b=true)(h0:i > 0)(h1:i < ((l.map f).length:Int))(h:i.toNat - 1 < l.length->K (f (l.getD (i.toNat - 1) d))):∃ (j:Nat) (ts:List Tr),IntKind.i64.wrap (i - 1)=j/\(l.map f)[j]? = some ts/\K ts:=by
 rw[Lm] at h1;unfold aV at hb;have pS:=Nb NV;have:l.length*1<=l.length*b:=Nat.mul_le_mul (ak _) pS;have hl:i.toNat - 1 < l.length:=by omega
 refine⟨i.toNat - 1,_,?_,?_,h hl⟩
 ·rw[bp];omega
 ·rw[bI,List.getD_eq_getElem?_getD,ag hl];rfl
theorem dY (id:Nat){a b:Code}{st:St}{Q:Ex->St->Prop}(_:mE b=id)(h:cc P T N (.seq a b) st Q):cc P T N (.seq a b) st Q:=h
end
end
end Cg
namespace Go.Proofs.YtbmdcnkidjlbbaaGreat
section
open Go Cg Go.RowKit Go.Shelf
theorem cT {f:FuncId}{fn:Func}{c:Code}{dh:List AV}{rv:AV}{rs:List Row}(hf:Tryz.prog.funcs[f]?=some fn)(hb:fn.body=some c)(h1:((fn.name == "runtime.NumGoroutine")==false&&alN fn.ntmps c)=true) (h2:(Nat.ble dh.length fn.ntmps&&(dh.all AV.plain&&(Nat.ble rs.length 128&&yT rv rs)))=true) (h:∀ w0 O [eQ O],Tp ae T fn.ntmps w0 O c ⟨kx 0 dh,[],[],0⟩ (zi T fn rv rs)):Ct ae f dh rv rs false:=by
 obtain⟨h3,h4⟩:=Bool.and_eq_true_iff.1 h1;have e1:(fn.name == "runtime.NumGoroutine")=false:=by simpa using h3
 obtain⟨k1,k2⟩:=Bool.and_eq_true_iff.1 h2;obtain⟨k2,k3⟩:=Bool.and_eq_true_iff.1 k2;obtain⟨k3,k4⟩:=Bool.and_eq_true_iff.1 k3;exact XY hf hb (enters_of hf e1 hb) tabOk h4 k1 k2 k3 k4 h
theorem cX {f:FuncId}{fn:Func}{c:Code}{dh:List AV}{G:AV->List Row->Prop}(hf:Tryz.prog.funcs[f]?=some fn)(hb:fn.body=some c)(h1:((fn.name == "runtime.NumGoroutine")==false&&alN fn.ntmps c)=true) (h2:(Nat.ble dh.length fn.ntmps&&dh.all AV.plain)=true) (h:cc ae T fn.ntmps c ⟨kx 0 dh,[],[],0⟩ (fun e st=>∃ rv rs,G rv rs/\(Nat.ble rs.length 128=true/\yT rv rs=true)/\zi T fn rv rs e st)):∃ rv rs,G rv rs/\Ct ae f dh rv rs false:=by
 obtain⟨h3,h4⟩:=Bool.and_eq_true_iff.1 h1;have e1:(fn.name == "runtime.NumGoroutine")=false:=by simpa using h3
 obtain⟨k1,k2⟩:=Bool.and_eq_true_iff.1 h2;exact acE hf hb (enters_of hf e1 hb) tabOk h4 k1 k2 h
theorem YR (a:Int):∃ r:Bool,True/\Ct ae 144 [.c (.t (.lit (.int .u8 a)))] (aEo r) [] true:=by
 refine cU (Φ:=fun _=>True) cO (cX Tryz.func144 rfl (by kernel_rfl) rfl (cc.bn [] [] ?_))
 repeat' (first|(apply bN <;> intro _)|(exact bo _ (Ei [] (Ai rfl (Ai ea rfl))) (trivial) rfl))
theorem JM (a:ByteArray):∃ r:Bool,(r=true->a.size<=32)/\Ct ae 79 [AV.s a] (aEo r) [] true:=by
 refine cU (Φ:=fun (r:Bool)=>r=true->a.size<=32) cO (cX Tryz.func79 rfl (by kernel_rfl) rfl (cc.bn [] [] ?_))
 repeat' (first|(apply bN <;> intro _)|(apply cQ <;> intro _)|apply cj|(apply cS <;> intro _)|(exact bo _ (Ei [] (Ai rfl (Ai ea rfl))) (by intro hr;first|exact Bool.noConfusion hr|omega) rfl)|(apply dV 4 rfl;refine fM.up (β:=Unit) 4 3 (((a.size:Nat):Int)) (by first|omega|exact eO ‹_› rfl) (by omega) (fun _=>[]) (fun _ _=>True) [0] [] 200000 rfl ?_;refine Ai ?_ fun _ _ _ _ _=>cc.bn [] [] ?_)|exact Ei () (Ai (trivial) (bX rfl rfl rfl rfl))|exact Ai (by first|assumption|omega) (Ei () (Ai (trivial) (bX rfl rfl rfl rfl)))|(apply Ch;(iterate 2 first|assumption|omega|(simp only[bp];omega)|(simp only[Lm] at *;omega)|decide);intro _)|(apply aT 144;refine cY (YR _) ⟨rfl,ea⟩ fun _ _=>?_))
def zP:List ByteArray:=[⟨#[98,97,115,105,99]⟩,⟨#[117,110,105,113,117,101]⟩]
theorem Py:Ct ae 198 [] (.c (.row 0 0)) [⟨9,1,0,zP.map eS,none⟩] false:=by
 refine cT Tryz.func198 rfl (by kernel_rfl) rfl fun w0 O _=>aEk [] ?_;refine Ei [(0,128)] ?_
 repeat' constructor
def rG:List ByteArray:=[⟨#[99,114,101,97,116,117,114,101]⟩,⟨#[105,110,115,116,97,110,116]⟩,⟨#[114,105,116,117,97,108]⟩,⟨#[114,101,108,105,99]⟩,⟨#[99,104,97,114,109]⟩,⟨#[108,97,110,100]⟩]
theorem JH:Ct ae 199 [] (.c (.row 0 0)) [⟨9,1,0,rG.map eS,none⟩] false:=by
 refine cT Tryz.func199 rfl (by kernel_rfl) rfl fun w0 O _=>aEk [] ?_;refine Ei [(0,128)] ?_
 repeat' constructor
theorem Ee (a:List ByteArray)(b:ByteArray)(ha:a.length*16<=aV):∃ r:Int,True/\Ct ae 195 [.c (.t (.sl 1 (a.map eS))),AV.s b] (aEn r) [] true:=by
 refine cU (Φ:=fun _=>True) kF (cX Tryz.func195 rfl (by kernel_rfl) rfl (cc.bn [] [] ?_))
 repeat' (first|(apply bN <;> intro _)|(apply cS <;> intro _)|(exact bo _ (Ei [] (Ai rfl (Ai ea rfl))) (trivial) rfl)|(apply dV 2 rfl;refine fM.up (β:=Unit) 2 5 ((((a.map eS).length:Nat):Int)) (by first|omega|exact eO ‹_› rfl) (by omega) (fun _=>[]) (fun _ _=>True) [0,1] [] 200000 rfl ?_;refine Ai ?_ fun _ _ _ _ _=>cc.bn [] [] ?_)|exact Ei () (Ai (trivial) (bX rfl rfl rfl rfl))|exact Ai (by first|assumption|omega) (Ei () (Ai (trivial) (bX rfl rfl rfl rfl)))|(apply fV;(iterate 2 first|assumption|omega|(simp only[bp,cK,aZ,bM];omega)|(simp only[Lm] at *;omega)|decide);intro _ _))
theorem wC (a:ByteArray):∃ r:Bool,(r=true->a.size<=32)/\Ct ae 145 [AV.s a] (aEo r) [] true:=by
 refine cU (Φ:=fun (r:Bool)=>r=true->a.size<=32) cO (cX Tryz.func145 rfl (by kernel_rfl) rfl (cc.bn [] [] ?_))
 repeat' (first|(apply bN <;> intro _)|(apply cS <;> intro _)|(exact bo _ (Ei [] (Ai rfl (Ai ea rfl))) (by intro hr;first|exact Bool.noConfusion hr|solve_by_elim) rfl)|(apply aT 79;refine cY (JM _) ⟨rfl,ea⟩ fun _ _=>?_)|(apply aT 198;refine cR Py trivial ?_)|(apply aT 199;refine cR JH trivial ?_)|(apply aT 195;refine cY (Ee zP _ (Nb rfl)) ⟨⟨rfl,rfl⟩,rfl,ea⟩ fun _ _=>?_)|(apply aT 195;refine cY (Ee rG _ (Nb rfl)) ⟨⟨rfl,rfl⟩,rfl,ea⟩ fun _ _=>?_))
theorem Pz (a:Int)(b:Int)  (hb:0<=b)(dK:b<=64):∃ r:Bool,True/\Ct ae 146 [.c (.t (iv a)),.c (.t (iv b))] (aEo r) [] true:=by
 refine cU (Φ:=fun _=>True) cO (cX Tryz.func146 rfl (by kernel_rfl) rfl (cc.bn [] [] ?_))
 repeat' (first|(apply bN <;> intro _)|(exact bo _ (Ei [] (Ai rfl (Ai ea rfl))) (trivial) rfl)|(apply dV 2 rfl;refine fM.up (β:=Int) 2 5 (b) (by first|omega|exact eO ‹_› rfl) (by omega) (fun p=>[(0,aEn p)]) (fun _ _=>True) [1] [] 200000 rfl (Ai ?_ fun _ _ _ _ _=>cc.bn [] [] ?_))|exact Ei _ (Ai (trivial) (bX rfl rfl rfl rfl))|exact Ai (by first|assumption|omega) (Ei _ (Ai (trivial) (bX rfl rfl rfl rfl)))|(refine Ai rfl (Ai (by first|decide|assumption|omega) ?_)))
theorem Xa (a:gw)(_ha:a.ok):∃ r:Bool,True/\Ct ae 81 [.agg (a.enc.map .t)] (aEo r) [] true:=by
 refine cU (Φ:=fun _=>True) cO (cX Tryz.func81 rfl (by kernel_rfl) rfl (cc.bn [] [] ?_))
 repeat' (first|(apply bN <;> intro _)|apply cj|(apply cS <;> intro _)|(exact bo _ (Ei [] (Ai rfl (Ai ea rfl))) (trivial) rfl)|(apply dV 4 rfl;refine fM.up (β:=Unit) 4 3 ((((a.eu.map eS).length:Nat):Int)) (by first|omega|exact eO ‹_› rfl) (by omega) (fun _=>[]) (fun _ _=>True) [1] [0] 200000 rfl ?_;refine Ai ?_ fun _ _ _ _ _=>cc.bn [] [] ?_)|exact Ei () (Ai (trivial) (bX rfl rfl rfl rfl))|exact Ai (by first|assumption|omega) (Ei () (Ai (trivial) (bX rfl rfl rfl rfl)))|(apply fV;(iterate 2 first|assumption|omega|(simp only[bp];omega)|(simp only[Lm] at *;omega)|decide);intro _ _)|(apply aT 145;refine cY (wC _) ⟨rfl,ea⟩ fun _ _=>?_)|(apply aT 146;refine cY (Pz _ _ (by first|assumption|omega|(simp only[bp,cK,aZ,bM];omega)|(simp only[Lm] at *;omega)|decide) (by first|assumption|omega|(simp only[bp,cK,aZ,bM];omega)|(simp only[Lm] at *;omega)|decide)) ⟨rfl,rfl,ea⟩ fun _ _=>?_))
theorem Px (a:Int):∃ r:Bool,True/\Ct ae 82 [.c (.t (iv a))] (aEo r) [] true:=by
 refine cU (Φ:=fun _=>True) cO (cX Tryz.func82 rfl (by kernel_rfl) rfl (cc.bn [] [] ?_))
 repeat' (first|(apply bN <;> intro _)|(exact bo _ (Ei [] (Ai rfl (Ai ea rfl))) (trivial) rfl))
theorem JL (a:er):∃ r:Bool,(r=true->(0<=a.generic/\a.generic<=99)/\(0<=a.x/\a.x<=2)/\(0<=a.gF/\a.gF<=9)/\(0<=a.gq/\a.gq<=9)/\(0<=a.gp/\a.gp<=9)/\(0<=a.gn/\a.gn<=9)/\(0<=a.gk/\a.gk<=9))/\Ct ae 80 [.agg (a.enc.map .t)] (aEo r) [] true:=by
 refine cU (Φ:=fun (r:Bool)=>r=true->(0<=a.generic/\a.generic<=99)/\(0<=a.x/\a.x<=2)/\(0<=a.gF/\a.gF<=9)/\(0<=a.gq/\a.gq<=9)/\(0<=a.gp/\a.gp<=9)/\(0<=a.gn/\a.gn<=9)/\(0<=a.gk/\a.gk<=9)) cO (cX Tryz.func80 rfl (by kernel_rfl) rfl (cc.bn [] [] ?_))
 repeat' (first|(apply bN <;> intro _)|(exact bo _ (Ei [] (Ai rfl (Ai ea rfl))) (by intro hr;first|exact Bool.noConfusion hr|omega|(simp only[bp] at *;omega)) rfl)|(apply dV 4 rfl;refine fM.one 4 rfl (cc.bn [] [] ?_))|(apply rZ;(iterate 2 first|assumption|omega|(simp only[bp];omega)|(simp only[Lm] at *;omega)|decide);intro _))
theorem Pu (a:dS):∃ r:Bool,(r=true->0<=a.kind/\a.kind<=3)/\Ct ae 194 [.agg (a.enc.map .t)] (aEo r) [] true:=by
 refine cU (Φ:=fun (r:Bool)=>r=true->0<=a.kind/\a.kind<=3) cO (cX Tryz.func194 rfl (by kernel_rfl) rfl (cc.bn [] [] ?_))
 repeat' (first|(apply bN <;> intro _)|(apply cQ <;> intro _)|(exact bo _ (Ei [] (Ai rfl (Ai ea rfl))) (by intro hr;first|exact Bool.noConfusion hr|omega) rfl))
theorem Pv (a:Int)(b:Int)(c:Int):∃ r:Bool,True/\Ct ae 193 [.c (.t (iv a)),.c (.t (iv b)),.c (.t (iv c))] (aEo r) [] true:=by
 refine cU (Φ:=fun _=>True) cO (cX Tryz.func193 rfl (by kernel_rfl) rfl (cc.bn [] [] ?_))
 repeat' (first|(apply bN <;> intro _)|(exact bo _ (Ei [] (Ai rfl (Ai ea rfl))) (trivial) rfl)|(apply dV 4 rfl;refine fM.up (β:=Int × Int) 4 7 (6) (by first|omega|exact eO ‹_› rfl) (by omega) (fun p=>[(0,aEn p.1),(1,aEn p.2)]) (fun _ _=>True) [] [] 200000 rfl (Ai ?_ fun _ p _ _ hp=>?_);rotate_left;obtain⟨p_,p_⟩:=p;(try dsimp only at hp);apply cc.bn [] [])|exact Ei ⟨_,_⟩ (Ai (trivial) (bX rfl rfl rfl rfl))|exact Ai (by first|assumption|omega) (Ei ⟨_,_⟩ (Ai (trivial) (bX rfl rfl rfl rfl)))|(refine Ai rfl (Ai (by first|decide|assumption|omega) ?_)))
theorem rE (a:ck):∃ r:Bool,(r=true->(0<=a.cn/\a.cn<=5)/\(0<=a.j7/\a.j7<=2)/\(0<=a.self/\a.self<=2)/\(0<=a.np/\a.np<=2)/\(0<=a.dg.kind/\a.dg.kind<=3)/\(0<=a.df.kind/\a.df.kind<=3)/\(0<=a.value.kind/\a.value.kind<=3)/\a.sub.size<=32)/\Ct ae 135 [.agg (a.enc.map .t)] (aEo r) [] true:=by
 refine cU (Φ:=fun (r:Bool)=>r=true->(0<=a.cn/\a.cn<=5)/\(0<=a.j7/\a.j7<=2)/\(0<=a.self/\a.self<=2)/\(0<=a.np/\a.np<=2)/\(0<=a.dg.kind/\a.dg.kind<=3)/\(0<=a.df.kind/\a.df.kind<=3)/\(0<=a.value.kind/\a.value.kind<=3)/\a.sub.size<=32) cO (cX Tryz.func135 rfl (by kernel_rfl) rfl (cc.bn [] [] ?_))
 repeat' (first|(apply bN <;> intro _)|apply cj|(apply cS <;> intro _)|(exact bo _ (Ei [] (Ai rfl (Ai ea rfl))) (by intro hr;first|exact Bool.noConfusion hr|(have hs:a.sub.size<=32:=by first|exact Ts ‹_› | solve_by_elim);simp_all <;> omega) rfl)|(apply aT 193;refine cY (Pv _ _ _) ⟨rfl,rfl,rfl,ea⟩ fun _ _=>?_)|(apply aT 145;refine cY (wC _) ⟨rfl,ea⟩ fun _ _=>?_)|(apply aT 194;refine cY (Pu _) ⟨fL (dS.enc _),ea⟩ fun _ _=>?_))
theorem JF (a:Int):∃ r:ByteArray,(r.size<=40)/\Ct ae 241 [.c (.t (iv a))] (AV.s r) [] true:=by
 refine cU (Φ:=fun (r:ByteArray)=>r.size<=40) jg (cX Tryz.func241 rfl (by kernel_rfl) rfl (cc.bn [] [] ?_))
 repeat' (first|(apply bN <;> intro _)|(exact bo _ (Ei [] (Ai rfl (Ai ea rfl))) (by first|exact Nb rfl|omega|(simp only[Lm] at *;omega)) rfl))
theorem JK (a:Int):∃ r:ByteArray,(r.size<=40)/\Ct ae 249 [.c (.t (iv a))] (AV.s r) [] true:=by
 refine cU (Φ:=fun (r:ByteArray)=>r.size<=40) jg (cX Tryz.func249 rfl (by kernel_rfl) rfl (cc.bn [] [] ?_))
 repeat' (first|(apply bN <;> intro _)|(exact bo _ (Ei [] (Ai rfl (Ai ea rfl))) (by first|exact Nb rfl|omega|(simp only[Lm] at *;omega)) rfl))
theorem JD (a:Int):∃ r:ByteArray,(r.size<=40)/\Ct ae 200 [.c (.t (iv a))] (AV.s r) [] true:=by
 refine cU (Φ:=fun (r:ByteArray)=>r.size<=40) jg (cX Tryz.func200 rfl (by kernel_rfl) rfl (cc.bn [] [] ?_))
 repeat' (first|(apply bN <;> intro _)|(exact bo _ (Ei [] (Ai rfl (Ai ea rfl))) (by first|exact Nb rfl|omega|(simp only[Lm] at *;omega)) rfl))
theorem zO (a:Int):∃ r:Bool,True/\Ct ae 201 [.c (.t (iv a))] (aEo r) [] true:=by
 refine cU (Φ:=fun _=>True) cO (cX Tryz.func201 rfl (by kernel_rfl) rfl (cc.bn [] [] ?_))
 repeat' (first|(apply bN <;> intro _)|(exact bo _ (Ei [] (Ai rfl (Ai ea rfl))) (trivial) rfl))
theorem BO (a:Int):∃ r:Bool,True/\Ct ae 202 [.c (.t (iv a))] (aEo r) [] true:=by
 refine cU (Φ:=fun _=>True) cO (cX Tryz.func202 rfl (by kernel_rfl) rfl (cc.bn [] [] ?_))
 repeat' (first|apply cj|(apply cS <;> intro _)|(exact bo _ (Ei [] (Ai rfl (Ai ea rfl))) (trivial) rfl)|(apply aT 200;refine cY (JD _) ⟨rfl,ea⟩ fun _ _=>?_)|(apply aT 201;refine cY (zO _) ⟨rfl,ea⟩ fun _ _=>?_))
theorem agO (a:eb):∃ r:Bool,True/\Ct ae 148 [.agg (a.enc.map .t)] (aEo r) [] true:=by
 refine cU (Φ:=fun _=>True) cO (cX Tryz.func148 rfl (by kernel_rfl) rfl (cc.bn [] [] ?_))
 repeat' (first|(apply bN <;> intro _)|(apply cQ <;> intro _)|apply cj|(apply cS <;> intro _)|(exact bo _ (Ei [] (Ai rfl (Ai ea rfl))) (trivial) rfl)|(apply aT 200;refine cY (JD _) ⟨rfl,ea⟩ fun _ _=>?_)|(apply aT 201;refine cY (zO _) ⟨rfl,ea⟩ fun _ _=>?_)|(apply aT 202;refine cY (BO _) ⟨rfl,ea⟩ fun _ _=>?_)|(apply aT 135;refine cY (rE _) ⟨fL (ck.enc _),ea⟩ fun _ _=>?_))
theorem D9 (a:ck):∃ r:Bool,True/\Ct ae 205 [.agg (a.enc.map .t)] (aEo r) [] true:=by
 refine cU (Φ:=fun _=>True) cO (cX Tryz.func205 rfl (by kernel_rfl) rfl (cc.bn [] [] ?_))
 repeat' (first|(apply cS <;> intro _)|(exact bo _ (Ei [] (Ai rfl (Ai ea rfl))) (trivial) rfl)|(apply aT 135;refine cY (rE _) ⟨fL (ck.enc _),ea⟩ fun _ _=>?_))
theorem Pq (a:eW):∃ r:Bool,True/\Ct ae 204 [.agg (a.enc.map .t)] (aEo r) [] true:=by
 refine cU (Φ:=fun _=>True) cO (cX Tryz.func204 rfl (by kernel_rfl) rfl (cc.bn [] [] ?_))
 repeat' (first|(apply bN <;> intro _)|(apply cQ <;> intro _)|(exact bo _ (Ei [] (Ai rfl (Ai ea rfl))) (trivial) rfl))
theorem Pr (a:eW):∃ r:Bool,True/\Ct ae 203 [.agg (a.enc.map .t)] (aEo r) [] true:=by
 refine cU (Φ:=fun _=>True) cO (cX Tryz.func203 rfl (by kernel_rfl) rfl (cc.bn [] [] ?_))
 repeat' (first|(apply bN <;> intro _)|(apply cQ <;> intro _)|apply cj|(apply cS <;> intro _)|(exact bo _ (Ei [] (Ai rfl (Ai ea rfl))) (trivial) rfl)|(apply aT 205;refine cY (D9 _) ⟨fL (ck.enc _),ea⟩ fun _ _=>?_))
theorem agN (a:eW):∃ r:Bool,True/\Ct ae 149 [.agg (a.enc.map .t)] (aEo r) [] true:=by
 refine cU (Φ:=fun _=>True) cO (cX Tryz.func149 rfl (by kernel_rfl) rfl (cc.bn [] [] ?_))
 repeat' (first|(apply bN <;> intro _)|(apply cQ <;> intro _)|apply cj|(apply cS <;> intro _)|(exact bo _ (Ei [] (Ai rfl (Ai ea rfl))) (trivial) rfl)|(apply aT 203;refine cY (Pr _) ⟨fL (eW.enc _),ea⟩ fun _ _=>?_)|(apply aT 204;refine cY (Pq _) ⟨fL (eW.enc _),ea⟩ fun _ _=>?_)|(apply aT 205;refine cY (D9 _) ⟨fL (ck.enc _),ea⟩ fun _ _=>?_))
theorem T3 (a:gJ):∃ r:Bool,True/\Ct ae 206 [.agg (a.enc.map .t)] (aEo r) [] true:=by
 refine cU (Φ:=fun _=>True) cO (cX Tryz.func206 rfl (by kernel_rfl) rfl (cc.bn [] [] ?_))
 repeat' (first|(apply bN <;> intro _)|apply cj|(apply cS <;> intro _)|(exact bo _ (Ei [] (Ai rfl (Ai ea rfl))) (trivial) rfl)|(apply aT 135;refine cY (rE _) ⟨fL (ck.enc _),ea⟩ fun _ _=>?_))
theorem Pn (a:List gJ)(ha:a.length*144<=aV):∃ r:Bool,True/\Ct ae 150 [.c (.t (.sl 18 (a.map gJ.enc)))] (aEo r) [] true:=by
 refine cU (Φ:=fun _=>True) cO (cX Tryz.func150 rfl (by kernel_rfl) rfl (cc.bn [] [] ?_))
 repeat' (first|(apply bN <;> intro _)|apply cj|(apply cS <;> intro _)|(exact bo _ (Ei [] (Ai rfl (Ai ea rfl))) (trivial) rfl)|(apply dV 2 rfl;refine fM.up (β:=Unit) 2 3 ((((a.map gJ.enc).length:Nat):Int)) (by first|omega|exact eO ‹_› rfl) (by omega) (fun _=>[]) (fun _ _=>True) [0] [] 200000 rfl ?_;refine Ai ?_ fun _ _ _ _ _=>cc.bn [] [] ?_)|exact Ei () (Ai (trivial) (bX rfl rfl rfl rfl))|exact Ai (by first|assumption|omega) (Ei () (Ai (trivial) (bX rfl rfl rfl rfl)))|(apply fV;(iterate 2 first|assumption|omega|(simp only[bp,cK,aZ,bM];omega)|(simp only[Lm] at *;omega)|decide);intro _ _)|(apply aT 206;refine cY (T3 _) ⟨fL (gJ.enc _),ea⟩ fun _ _=>?_))
theorem Po (a:jL):∃ r:Bool,True/\Ct ae 147 [.agg (a.enc.map .t)] (aEo r) [] true:=by
 refine cU (Φ:=fun _=>True) cO (cX Tryz.func147 rfl (by kernel_rfl) rfl (cc.bn [] [] ?_))
 repeat' (first|(apply bN <;> intro _)|(apply cS <;> intro _)|(exact bo _ (Ei [] (Ai rfl (Ai ea rfl))) (trivial) rfl)|(apply aT 80;refine cY (JL _) ⟨fL (er.enc _),ea⟩ fun _ _=>?_))
theorem Eb (a:Int):∃ r:Bool,True/\Ct ae 272 [.c (.t (iv a))] (aEo r) [] true:=by
 refine cU (Φ:=fun _=>True) cO (cX Tryz.func272 rfl (by kernel_rfl) rfl (cc.bn [] [] ?_))
 repeat' (first|(apply bN <;> intro _)|(exact bo _ (Ei [] (Ai rfl (Ai ea rfl))) (trivial) rfl))
theorem agQ (a:sY)(b:Int):∃ r:Bool,True/\Ct ae 240 [.agg (a.enc.map .t),.c (.t (iv b))] (aEo r) [] true:=by
 refine cU (Φ:=fun _=>True) cO (cX Tryz.func240 rfl (by kernel_rfl) rfl (cc.bn [] [] ?_))
 repeat' (first|(apply bN <;> intro _)|(apply cQ <;> intro _)|(apply cS <;> intro _)|(exact bo _ (Ei [] (Ai rfl (Ai ea rfl))) (trivial) rfl)|(apply aT 272;refine cY (Eb _) ⟨rfl,ea⟩ fun _ _=>?_)|(apply aT 135;refine cY (rE _) ⟨fL (ck.enc _),ea⟩ fun _ _=>?_))
theorem agS (a:ic):∃ r:Bool,True/\Ct ae 242 [.agg (a.enc.map .t)] (aEo r) [] true:=by
 refine cU (Φ:=fun _=>True) cO (cX Tryz.func242 rfl (by kernel_rfl) rfl (cc.bn [] [] ?_))
 repeat' (first|(apply bN <;> intro _)|apply cj|(apply cS <;> intro _)|(exact bo _ (Ei [] (Ai rfl (Ai ea rfl))) (trivial) rfl)|(apply aT 135;refine cY (rE _) ⟨fL (ck.enc _),ea⟩ fun _ _=>?_)|(apply aT 241;refine cY (JF _) ⟨rfl,ea⟩ fun _ _=>?_))
theorem L6 (a:Int)(b:ck):∃ r:Bool,True/\Ct ae 245 [.c (.t (iv a)),.agg (b.enc.map .t)] (aEo r) [] true:=by
 refine cU (Φ:=fun _=>True) cO (cX Tryz.func245 rfl (by kernel_rfl) rfl (cc.bn [] [] ?_))
 repeat' (first|(apply bN <;> intro _)|(apply cS <;> intro _)|(exact bo _ (Ei [] (Ai rfl (Ai ea rfl))) (trivial) rfl)|(apply aT 135;refine cY (rE _) ⟨fL (ck.enc _),ea⟩ fun _ _=>?_))
theorem T5 (a:Int):∃ r:ByteArray,(r.size<=40)/\Ct ae 238 [.c (.t (iv a))] (AV.s r) [] true:=by
 refine cU (Φ:=fun (r:ByteArray)=>r.size<=40) jg (cX Tryz.func238 rfl (by kernel_rfl) rfl (cc.bn [] [] ?_))
 repeat' (first|(apply bN <;> intro _)|(exact bo _ (Ei [] (Ai rfl (Ai ea rfl))) (by first|exact Nb rfl|omega|(simp only[Lm] at *;omega)) rfl)|(apply rZ;(first|assumption|omega|(simp only[bp];omega)|(simp only[Lm] at *;omega)|decide);(first|assumption|omega|(simp only[bp,aZ,bM];omega)|(simp only[Lm] at *;omega)|decide);intro _)|(apply Ie;exact rfl;assumption;exact rfl;intro _ _))
theorem T9 (a:Int):∃ r:ByteArray,(r.size<=40)/\Ct ae 271 [.c (.t (iv a))] (AV.s r) [] true:=by
 refine cU (Φ:=fun (r:ByteArray)=>r.size<=40) jg (cX Tryz.func271 rfl (by kernel_rfl) rfl (cc.bn [] [1009,1014,1029,30] ?_))
 repeat' (first|(apply bN <;> intro _)|(apply cS <;> intro _)|(exact bo _ (Ei [] (Ai rfl (Ai ea rfl))) (by first|exact Nb rfl|omega|(simp only[Lm] at *;omega)) rfl)|(apply dY 1009 rfl;refine cc.cut (α:=Bool) 1009 (fun p=>[(4,aEo p)]) (fun _=>True) [3] [] 200000 rfl (Ai (cc.bn [] [1009,1014,1029,30] ?_) fun _ _=>cc.bn [] [1009,1014,1029,30] ?_))|(apply dY 1014 rfl;refine cc.cut (α:=Bool) 1014 (fun p=>[(14,aEo p)]) (fun _=>True) [3] [] 300000 rfl (Ai (cc.bn [] [1009,1014,1029,30] ?_) fun _ _=>cc.bn [] [1009,1014,1029,30] ?_))|(apply dY 1029 rfl;refine cc.cut (α:=Bool) 1029 (fun p=>[(29,aEo p)]) (fun _=>True) [] [] 400000 rfl (Ai (cc.bn [] [1009,1014,1029,30] ?_) fun _ _=>cc.bn [] [1009,1014,1029,30] ?_))|(apply dY 30 rfl;refine cc.cut (α:=Unit) 30 (fun _=>[]) (fun _=>True) [] [] 500000 rfl (Ai (cc.bn [] [1009,1014,1029,30] ?_) fun _ _=>cc.bn [] [1009,1014,1029,30] ?_))|exact Ei () (Ai (trivial) (bX rfl rfl rfl rfl))|exact Ei _ (Ai (trivial) (bX rfl rfl rfl rfl)))
theorem T6 (a:Int)(b:Int):∃ r:Bool,True/\Ct ae 239 [.c (.t (iv a)),.c (.t (.lit (.int .u8 b)))] (aEo r) [] true:=by
 refine cU (Φ:=fun _=>True) cO (cX Tryz.func239 rfl (by kernel_rfl) rfl (cc.bn [] [] ?_))
 repeat' (first|(apply bN <;> intro _)|(exact bo _ (Ei [] (Ai rfl (Ai ea rfl))) (trivial) rfl)|(apply dV 3 rfl;rename_i s hs;refine fM.up (β:=Unit) 3 6 (((s.size:Nat):Int)) (by first|omega|exact eO ‹_› rfl) (by omega) (fun _=>[]) (fun _ _=>True) [1,5] [] 200000 rfl ?_;refine Ai ?_ fun _ _ _ _ _=>cc.bn [] [] ?_)|exact Ei () (Ai (trivial) (bX rfl rfl rfl rfl))|exact Ai (by first|assumption|omega) (Ei () (Ai (trivial) (bX rfl rfl rfl rfl)))|(apply Ch;(iterate 2 first|assumption|omega|(simp only[bp,cK,aZ,bM];omega)|(simp only[Lm] at *;omega)|decide);intro _)|(apply aT 271;refine cY (T9 _) ⟨rfl,ea⟩ fun _ _=>?_))
theorem UK {c:UInt8}{s:ByteArray}{R:Prop}(h:s.size<=9223372036854775806)(hk:((⟨[c].toArray⟩:ByteArray)++s).size=1+s.size->R):(⟨[c].toArray⟩:ByteArray).size+s.size<=9223372036854775807/\R:=sI (by have:(⟨[c].toArray⟩:ByteArray).size=1:=rfl;omega) hk
theorem Mf (u:Int)(h0:0<=u)(_h1:u < 18446744073709551616):∃ r:ByteArray,r.size<=70/\Ct ae 260 [.c (.t (.lit (.int .u64 u)))] (AV.s r) [] true:=by
 refine cU (Φ:=fun (r:ByteArray)=>r.size<=70) jg (cX Tryz.func260 rfl (by kernel_rfl) rfl (cc.bn [] [] ?_));refine Ai rfl (Ai (by decide) ?_);refine Ai rfl (Ai (by decide) ?_);refine fM.at (α:=Int × ByteArray × Nat) 3 (fun p=>[(0,.c (.t (.lit (.int .u64 p.1)))),(3,AV.s p.2.1)]) (fun p=>0<=p.1/\p.1 < 2 ^ p.2.2/\p.2.1.size+p.2.2<=66) (fun p=>p.2.2) [] [] 100000 rfl ?_;refine Ai (Ei (_,_,64) (Ai ?_ (bX rfl rfl rfl rfl))) ?_
 ·have hd:u.tdiv 10=u / 10:=Int.tdiv_eq_ediv_of_nonneg h0;show 0<=IntKind.u64.wrap (u.tdiv 10)/\IntKind.u64.wrap (u.tdiv 10) < 18446744073709551616/\_;refine⟨?_,?_,Nb rfl⟩
  ·simp only[cK,hd];omega
  ·simp only[cK,hd];omega
 rintro⟨n,s,k⟩ ⟨g0,g1,g2⟩;simp only at g0 g1 g2;refine cc.bn [] [] (bN (fun hn=>?_) fun _=>?_)
 ·have hk:∃ j,k=j+1:=by
   cases k with
   | zero=>simp at g1;omega
   | succ j=>exact⟨j,rfl⟩
  obtain⟨j,rfl⟩:=hk;have g3:n < 2 ^ j*2:=by rw[<- Int.pow_succ];exact g1
  have hj:(0:Int) < 2 ^ j:=Int.pow_pos (by decide);have hd:n.tdiv 10=n / 10:=Int.tdiv_eq_ediv_of_nonneg g0;refine Ai rfl (Ai (by decide) ?_);refine UK (s:=s) (by omega) fun hs=>?_;refine Ai rfl (Ai (by decide) ?_);refine Ei (_,_,j) (Ai (Ai ⟨?_,?_,?_⟩ (Nat.lt_succ_self j)) (bX rfl rfl rfl rfl))
  ·simp only[hd];omega
  ·show IntKind.u64.wrap (n.tdiv 10) < 2 ^ j;rw[hd,cK];have h8:n / 10 % 18446744073709551616<=n / 10:=by omega
   omega
  ·exact aX (Nat.add_le_add_right (Nat.le_of_eq hs) j) (show 1+s.size+j<=66 by omega)
 ·exact bo s (Ei [] (Ai rfl (Ai ea rfl))) (by omega) rfl
theorem BQ (a:Int):∃ r:ByteArray,(r.size<=110)/\Ct ae 216 [.c (.t (iv a))] (AV.s r) [] true:=by
 refine cU (Φ:=fun (r:ByteArray)=>r.size<=110) jg (cX Tryz.func216 rfl (by kernel_rfl) rfl (cc.bn [] [] ?_))
 repeat' (first|(apply bN <;> intro _)|(exact bo _ (Ei [] (Ai rfl (Ai ea rfl))) (by first|exact Nb rfl|((try dsimp only at *);omega)|exact Int.le_refl 0|(simp only[Lm] at *;omega)) rfl)|(apply K9;exact rfl;(first|exact Nb rfl|omega|(simp only[Lm] at *;omega));intro _)|(apply aT 260;refine cY (Mf _ (by first|assumption|omega|(simp only[cK];omega)|(simp only[Lm] at *;omega)|decide) (by first|assumption|omega|(simp only[cK];omega)|(simp only[Lm] at *;omega)|decide)) ⟨rfl,ea⟩ fun _ _=>?_))
theorem Uq (a:List ByteArray)(b:ByteArray)(ha:a.length*16<=aV)(hs:∀ y∈a,y.size<=2000)(hn:a.length<=100)(hc:b.size<=10):∃ r:ByteArray,(r.size<=201000)/\Ct ae 259 [.c (.t (.sl 1 (a.map eS))),AV.s b] (AV.s r) [] true:=by
 refine cU (Φ:=fun (r:ByteArray)=>r.size<=201000) jg (cX Tryz.func259 rfl (by kernel_rfl) rfl (cc.bn [] [] ?_))
 repeat' (first|(apply Xy hs;(iterate 2 first|assumption|omega|(simp only[bp,cK,aZ,bM];omega)|(simp only[Lm] at *;omega)|decide);intro _ _ _)|(apply bN <;> intro _)|(exact bo _ (Ei [] (Ai rfl (Ai ea rfl))) (by first|exact Nb rfl|((try dsimp only at *);omega)|exact Int.le_refl 0|(simp only[Lm] at *;omega)) rfl)|(apply dV 3 rfl;refine fM.up (β:=ByteArray) 3 6 ((((a.map eS).length:Nat):Int)) (by first|omega|exact eO ‹_› rfl) (by omega) (fun p=>[(5,AV.s p)]) (fun i (p:ByteArray)=>(p.size:Int)<=i*2010) [0,1] [] 200000 rfl ?_;refine Ai ?_ fun _ _ _ _ _=>cc.bn [] [] ?_)|exact Ei _ (Ai (by first|exact Nb rfl|((try dsimp only at *);omega)|exact Int.le_refl 0|(simp only[Lm] at *;omega)) (bX rfl rfl rfl rfl))|exact Ai (by first|assumption|omega) (Ei _ (Ai (by first|exact Nb rfl|((try dsimp only at *);omega)|exact Int.le_refl 0|(simp only[Lm] at *;omega)) (bX rfl rfl rfl rfl)))|(apply sI;(first|exact Nb rfl|omega|(simp only[Lm] at *;omega));intro _))
theorem Ma (a:List ByteArray)(b:Int)(c:ByteArray)(ha:a.length*16<=aV)(hs:∀ y∈a,y.size<=40)(hn:a.length<=20)(hc:c.size<=10):∃ r:ByteArray,(r.size<=1000)/\Ct ae 247 [.c (.t (.sl 1 (a.map eS))),.c (.t (iv b)),AV.s c] (AV.s r) [] true:=by
 refine cU (Φ:=fun (r:ByteArray)=>r.size<=1000) jg (cX Tryz.func247 rfl (by kernel_rfl) rfl (cc.bn [] [] ?_))
 repeat' (first|(apply Xy hs;(iterate 2 first|assumption|omega|(simp only[bp,cK,aZ,bM];omega)|(simp only[Lm] at *;omega)|decide);intro _ _ _)|(apply bN <;> intro _)|apply cj|(apply cS <;> intro _)|(exact bo _ (Ei [] (Ai rfl (Ai ea rfl))) (by first|exact Nb rfl|((try dsimp only at *);omega)|exact Int.le_refl 0|(simp only[Lm] at *;omega)) rfl)|(apply dV 3 rfl;refine fM.up (β:=ByteArray) 3 8 ((((a.map eS).length:Nat):Int)) (by first|omega|exact eO ‹_› rfl) (by omega) (fun p=>[(7,AV.s p)]) (fun i (p:ByteArray)=>(p.size:Int)<=i*50) [0,1,2] [] 200000 rfl ?_;refine Ai ?_ fun _ _ _ _ _=>cc.bn [] [] ?_)|exact Ei _ (Ai (by first|exact Nb rfl|((try dsimp only at *);omega)|exact Int.le_refl 0|(simp only[Lm] at *;omega)) (bX rfl rfl rfl rfl))|exact Ai (by first|assumption|omega) (Ei _ (Ai (by first|exact Nb rfl|((try dsimp only at *);omega)|exact Int.le_refl 0|(simp only[Lm] at *;omega)) (bX rfl rfl rfl rfl)))|(apply sI;(first|exact Nb rfl|omega|(simp only[Lm] at *;omega));intro _)|(apply aT 146;refine cY (Pz _ _ (by first|assumption|omega|(simp only[bp,cK,aZ,bM];omega)|(simp only[Lm] at *;omega)|decide) (by first|assumption|omega|(simp only[bp,cK,aZ,bM];omega)|(simp only[Lm] at *;omega)|decide)) ⟨rfl,rfl,ea⟩ fun _ _=>?_))
theorem Hn:∀ y∈rG,y.size<=40:=by decide
theorem rF (a:Int):∃ r:ByteArray,(r.size<=1000)/\Ct ae 212 [.c (.t (iv a))] (AV.s r) [] true:=by
 refine cU (Φ:=fun (r:ByteArray)=>r.size<=1000) jg (cX Tryz.func212 rfl (by kernel_rfl) rfl (cc.bn [] [] ?_))
 repeat' (first|(apply bN <;> intro _)|(exact bo _ (Ei [] (Ai rfl (Ai ea rfl))) (by first|exact Nb rfl|((try dsimp only at *);omega)|exact Int.le_refl 0|(simp only[Lm] at *;omega)) rfl)|(apply aT 199;refine cR JH trivial ?_)|(apply aT 247;refine cY (Ma rG _ _ (Nb rfl) Hn (Nb rfl) (Nb rfl)) ⟨⟨rfl,rfl⟩,rfl,rfl,ea⟩ fun _ _=>?_))
theorem agU (a:Int):∃ r:Bool,True/\Ct ae 248 [.c (.t (iv a))] (aEo r) [] true:=by
 refine cU (Φ:=fun _=>True) cO (cX Tryz.func248 rfl (by kernel_rfl) rfl (cc.bn [] [] ?_))
 repeat' (first|(apply bN <;> intro _)|(exact bo _ (Ei [] (Ai rfl (Ai ea rfl))) (trivial) rfl))
theorem Uk (a:Int):∃ r:ByteArray,(r.size<=500)/\Ct ae 213 [.c (.t (iv a))] (AV.s r) [] true:=by
 refine cU (Φ:=fun (r:ByteArray)=>r.size<=500) jg (cX Tryz.func213 rfl (by kernel_rfl) rfl (cc.bn [] [] ?_))
 repeat' (first|(apply bN <;> intro _)|apply cj|(apply cS <;> intro _)|(exact bo _ (Ei [] (Ai rfl (Ai ea rfl))) (by first|exact Nb rfl|((try dsimp only at *);omega)|exact Int.le_refl 0|(simp only[Lm] at *;omega)) rfl)|(apply dV 7 rfl;refine fM.up (β:=ByteArray) 7 4 (5) (by first|omega|exact eO ‹_› rfl) (by omega) (fun p=>[(3,AV.s p)]) (fun i (p:ByteArray)=>(p.size:Int)<=i*90) [0] [] 200000 rfl (Ai ?_ ?_);rotate_left;intro i p h0 h1 hp;(rcases(by omega:i=0\/i=1\/i=2\/i=3\/i=4\/i=5) with rfl|rfl|rfl|rfl|rfl|rfl) <;> apply cc.bn [] [])|exact Ei _ (Ai (by first|exact Nb rfl|((try dsimp only at *);omega)|exact Int.le_refl 0|(simp only[Lm] at *;omega)) (bX rfl rfl rfl rfl))|exact Ai (by first|assumption|omega) (Ei _ (Ai (by first|exact Nb rfl|((try dsimp only at *);omega)|exact Int.le_refl 0|(simp only[Lm] at *;omega)) (bX rfl rfl rfl rfl)))|(apply FZ;exact rfl;(first|exact Nb rfl|omega|(simp only[Lm] at *;omega));intro _)|(apply sI;(first|exact Nb rfl|omega|(simp only[Lm] at *;omega));intro _)|(refine Ai rfl (Ai (by first|decide|assumption|omega) ?_))|(apply aT 248;refine cY (agU _) ⟨rfl,ea⟩ fun _ _=>?_)|(apply aT 249;refine cY (JK _) ⟨rfl,ea⟩ fun _ _=>?_))
theorem Pw:Ct ae 275 [] (.c (.row 0 0)) [⟨9,1,0,[eS ⟨#[102,108,121,105,110,103]⟩,eS ⟨#[114,101,97,99,104]⟩,eS ⟨#[104,97,115,116,101]⟩,eS ⟨#[118,105,103,105,108,97,110,116]⟩,eS ⟨#[116,114,97,109,112,108,101]⟩,eS ⟨#[102,105,114,115,116,45,115,116,114,105,107,101]⟩,eS ⟨#[100,111,117,98,108,101,45,115,116,114,105,107,101]⟩,eS ⟨#[100,101,97,100,108,121]⟩,eS ⟨#[108,105,102,101,108,105,110,107]⟩,eS ⟨#[109,101,110,97,99,101]⟩,eS ⟨#[100,101,102,101,110,100,101,114]⟩,eS ⟨#[119,97,114,100,101,100]⟩,eS ⟨#[115,116,117,114,100,121]⟩,eS ⟨#[101,108,117,115,105,118,101]⟩,eS ⟨#[110,111,45,97,116,116,97,99,107]⟩,eS ⟨#[110,111,45,98,108,111,99,107]⟩,eS ⟨#[109,117,115,116,45,97,116,116,97,99,107]⟩],none⟩] false:=by
 refine cT Tryz.func275 rfl (by kernel_rfl) rfl fun w0 O _=>aEk [] ?_;refine Ei [(0,128)] ?_
 repeat' constructor
theorem JG (a:Int):∃ r:ByteArray,(r.size<=40)/\Ct ae 250 [.c (.t (iv a))] (AV.s r) [] true:=by
 refine cU (Φ:=fun (r:ByteArray)=>r.size<=40) jg (cX Tryz.func250 rfl (by kernel_rfl) rfl (cc.bn [] [] ?_))
 repeat' (first|(apply bN <;> intro _)|(exact bo _ (Ei [] (Ai rfl (Ai ea rfl))) (by first|exact Nb rfl|((try dsimp only at *);omega)|exact Int.le_refl 0|(simp only[Lm] at *;omega)) rfl)|(apply aT 275;refine cR Pw trivial ?_)|(apply rZ;(first|assumption|omega|(simp only[bp,cK,aZ,bM];omega)|(simp only[Lm] at *;omega)|decide);(first|assumption|omega|(simp only[aZ,bM];omega)|(simp only[Lm] at *;omega)|decide);intro _)|(apply Ie;exact rfl;assumption;exact rfl;intro _ _))
theorem Uh (a:Int):∃ r:ByteArray,(r.size<=2000)/\Ct ae 214 [.c (.t (iv a))] (AV.s r) [] true:=by
 refine cU (Φ:=fun (r:ByteArray)=>r.size<=2000) jg (cX Tryz.func214 rfl (by kernel_rfl) rfl (cc.bn [] [] ?_))
 repeat' (first|(apply bN <;> intro _)|apply cj|(apply cS <;> intro _)|(exact bo _ (Ei [] (Ai rfl (Ai ea rfl))) (by first|exact Nb rfl|((try dsimp only at *);omega)|exact Int.le_refl 0|(simp only[Lm] at *;omega)) rfl)|(apply dV 5 rfl;refine fM.up (β:=Int × ByteArray) 5 4 (17) (by first|omega|exact eO ‹_› rfl) (by omega) (fun p=>[(0,aEn p.1),(3,AV.s p.2)]) (fun i p=>(p.2.size:Int)<=i*90) [] [] 200000 rfl (Ai ?_ fun _ p _ _ hp=>?_);rotate_left;obtain⟨p_,p_⟩:=p;(try dsimp only at hp);apply cc.bn [] [])|exact Ei ⟨_,_⟩ (Ai (by first|exact Nb rfl|((try dsimp only at *);omega)|exact Int.le_refl 0|(simp only[Lm] at *;omega)) (bX rfl rfl rfl rfl))|exact Ai (by first|assumption|omega) (Ei ⟨_,_⟩ (Ai (by first|exact Nb rfl|((try dsimp only at *);omega)|exact Int.le_refl 0|(simp only[Lm] at *;omega)) (bX rfl rfl rfl rfl)))|(apply FZ;exact rfl;(first|exact Nb rfl|omega|(simp only at *;omega));intro _)|(apply sI;(first|exact Nb rfl|omega|(simp only at *;omega));intro _)|(refine Ai rfl (Ai (by first|decide|assumption|omega) ?_))|(apply aT 82;refine cY (Px _) ⟨rfl,ea⟩ fun _ _=>?_)|(apply aT 250;refine cY (JG _) ⟨rfl,ea⟩ fun _ _=>?_))
theorem Uc:Ct ae 251 [] (.c (.row 0 0)) [⟨9,1,0,[eS ⟨#[]⟩,eS ⟨#[105,110,45,104,97,110,100]⟩,eS ⟨#[105,110,45,108,105,98,114,97,114,121]⟩,eS ⟨#[105,110,45,103,114,97,118,101,121,97,114,100]⟩,eS ⟨#[105,110,45,101,120,105,108,101]⟩,eS ⟨#[111,110,45,115,116,97,99,107]⟩],none⟩] false:=by
 refine cT Tryz.func251 rfl (by kernel_rfl) rfl fun w0 O _=>aEk [] ?_;refine Ei [(0,128)] ?_
 repeat' constructor
theorem YL:Ct ae 252 [] (.c (.row 0 0)) [⟨9,1,0,[eS ⟨#[]⟩,eS ⟨#[121,111,117,114,115]⟩,eS ⟨#[116,104,101,105,114,115]⟩],none⟩] false:=by
 refine cT Tryz.func252 rfl (by kernel_rfl) rfl fun w0 O _=>aEk [] ?_;refine Ei [(0,128)] ?_
 repeat' constructor
theorem Ue:Ct ae 253 [] (.c (.row 0 0)) [⟨9,1,0,[eS ⟨#[]⟩,eS ⟨#[115,101,108,102]⟩,eS ⟨#[111,116,104,101,114]⟩],none⟩] false:=by
 refine cT Tryz.func253 rfl (by kernel_rfl) rfl fun w0 O _=>aEk [] ?_;refine Ei [(0,128)] ?_
 repeat' constructor
theorem YM:Ct ae 254 [] (.c (.row 0 0)) [⟨9,1,0,[eS ⟨#[]⟩,eS ⟨#[116,97,112,112,101,100]⟩,eS ⟨#[117,110,116,97,112,112,101,100]⟩],none⟩] false:=by
 refine cT Tryz.func254 rfl (by kernel_rfl) rfl fun w0 O _=>aEk [] ?_;refine Ei [(0,128)] ?_
 repeat' constructor
theorem Pt:Ct ae 276 [] (.c (.row 0 0)) [⟨9,1,0,[eS ⟨#[]⟩,eS ⟨#[62,61]⟩,eS ⟨#[60,61]⟩,eS ⟨#[61]⟩],none⟩] false:=by
 refine cT Tryz.func276 rfl (by kernel_rfl) rfl fun w0 O _=>aEk [] ?_;refine Ei [(0,128)] ?_
 repeat' constructor
theorem YN (a:Int)(b:Int)  (hb:0<=b)(dK:b<=64):∃ r:Bool,True/\Ct ae 256 [.c (.t (iv a)),.c (.t (iv b))] (aEo r) [] true:=by
 refine cU (Φ:=fun _=>True) cO (cX Tryz.func256 rfl (by kernel_rfl) rfl (cc.bn [] [] ?_))
 repeat' (first|(apply bN <;> intro _)|(exact bo _ (Ei [] (Ai rfl (Ai ea rfl))) (trivial) rfl)|(apply dV 2 rfl;refine fM.up (β:=Int) 2 5 (b) (by first|omega|exact eO ‹_› rfl) (by omega) (fun p=>[(0,aEn p)]) (fun _ _=>True) [1] [] 200000 rfl (Ai ?_ fun _ _ _ _ _=>cc.bn [] [] ?_))|exact Ei _ (Ai (trivial) (bX rfl rfl rfl rfl))|exact Ai (by first|assumption|omega) (Ei _ (Ai (trivial) (bX rfl rfl rfl rfl)))|(refine Ai rfl (Ai (by first|decide|assumption|omega) ?_)))
theorem Ec (a:Int)  (ha:0<=a)(uj:a<=64):∃ r:ByteArray,(r.size<=1000)/\Ct ae 257 [.c (.t (iv a))] (AV.s r) [] true:=by
 refine cU (Φ:=fun (r:ByteArray)=>r.size<=1000) jg (cX Tryz.func257 rfl (by kernel_rfl) rfl (cc.bn [] [] ?_))
 repeat' (first|(apply bN <;> intro _)|(exact bo _ (Ei [] (Ai rfl (Ai ea rfl))) (by first|exact Nb rfl|((try dsimp only at *);omega)|exact Int.le_refl 0|(simp only[Lm] at *;omega)) rfl)|(apply dV 3 rfl;refine fM.up (β:=Int) 3 4 (a) (by first|omega|exact eO ‹_› rfl) (by omega) (fun p=>[(3,aEn p)]) (fun _ _=>True) [0] [] 200000 rfl (Ai ?_ fun _ _ _ _ _=>cc.bn [] [] ?_))|exact Ei _ (Ai (trivial) (bX rfl rfl rfl rfl))|exact Ai (by first|assumption|omega) (Ei _ (Ai (trivial) (bX rfl rfl rfl rfl)))|(apply aT 212;refine cY (rF _) ⟨rfl,ea⟩ fun _ _=>?_))
theorem BP (a:ByteArray)(b:dS)  (hs:a.size<=20)(hk:0<=b.kind)(fp:b.kind<=3):∃ r:ByteArray,(r.size<=1000)/\Ct ae 258 [AV.s a,.agg (b.enc.map .t)] (AV.s r) [] true:=by
 refine cU (Φ:=fun (r:ByteArray)=>r.size<=1000) jg (cX Tryz.func258 rfl (by kernel_rfl) rfl (cc.bn [] [] ?_))
 repeat' (first|(apply bN <;> intro _)|(exact bo _ (Ei [] (Ai rfl (Ai ea rfl))) (by first|exact Nb rfl|((try dsimp only at *);omega)|exact Int.le_refl 0|(simp only[Lm] at *;omega)) rfl)|(apply sI;(first|exact Nb rfl|omega|(simp only[Lm] at *;omega));intro _)|(apply aT 216;refine cY (BQ _) ⟨rfl,ea⟩ fun _ _=>?_)|(apply aT 276;refine cR Pt trivial ?_)|(apply rZ;(first|assumption|omega|(simp only[bp,cK,aZ,bM];omega)|(simp only[Lm] at *;omega)|decide);(first|assumption|omega|(simp only[aZ,bM];omega)|(simp only[Lm] at *;omega)|decide);intro _)|(apply Ie;exact rfl;assumption;exact rfl;intro _ _))
theorem YO (X:List (List Tr))(s:ByteArray)(hX:X.length<=1000):Ja ae 255 [.c (.row 0 0),AV.s s] [] [⟨9,1,0,X,none⟩] (.c (.row 0 0)) [] [⟨9,1,0,X,none⟩] []\/Ja ae 255 [.c (.row 0 0),AV.s s] [] [⟨9,1,0,X,none⟩] (.c (.row 0 1)) [] [⟨9,1,1,X++[[sv s]],none⟩] []:=by
 cases h:(s.toList==(⟨#[]⟩:ByteArray).toList) with
 | true=>
  refine .inl ?_;refine kz 2 Tryz.func255 rfl (enters_of Tryz.func255 (by kernel_rfl) rfl) tabOk (by kernel_rfl) rfl rfl rfl rfl rfl fun w0 O _=>aEk [2,3] ?_;refine eX h (aEk [] (Ei [(0,0)] (Ai (Ai rfl (Ai ?_ (Ai ?_ ?_))) ?_)))
  repeat' constructor
 | false=>
  refine .inr ?_;refine kz 2 Tryz.func255 rfl (enters_of Tryz.func255 (by kernel_rfl) rfl) tabOk (by kernel_rfl) rfl rfl rfl rfl rfl fun w0 O _=>aEk [2,3] ?_;refine eA h (aEk [] (Ai (.inl rfl) (Ai (show(X.length+1)*16<=140737488355328 by omega) (Ai (show X.length+1 < 140737488355328 by omega) ?_))));refine Ei [(0,0)] (Ai (Ai rfl (Ai ?_ (Ai ?_ ?_))) ?_)
  repeat' constructor
theorem Ud (a:ck):∃ r:ByteArray,(r.size<=201000)/\Ct ae 215 [.agg (a.enc.map .t)] (AV.s r) [] true:=by
 refine cU (Φ:=fun (r:ByteArray)=>r.size<=201000) jg (cX Tryz.func215 rfl (by kernel_rfl) rfl (cc.bn [] [8,9,10,11,33,39,40,41,42] ?_));refine cY (rE a) ⟨fL (ck.enc _),ea⟩ fun b hb=>?_;refine cj (cS (fun hc=>?_) fun hc=>?_)
 rotate_left
 ·exact bo _ (Ei [] (Ai rfl (Ai ea rfl))) (by first|exact Nb rfl|((try dsimp only at *);omega)|exact Int.le_refl 0|(simp only[Lm] at *;omega)) rfl
 obtain⟨k1,k2,k3,k4,k5,k6,k7,k8⟩:=hb hc
 repeat' (first|(apply bN <;> intro _)|apply cj|(apply cS <;> intro _)|(exact bo _ (Ei [] (Ai rfl (Ai ea rfl))) (by first|exact Nb rfl|((try dsimp only at *);omega)|exact Int.le_refl 0|(simp only[Lm] at *;omega)) rfl)|(apply dY 8 rfl;refine cc.nW [] (cc.CQ 8 7 500000 9 1 (u9 0) [1,3,4,5,6] [0] 500001 rfl (Ai (cc.bn [] [8,9,10,11,33,39,40,41,42] ?_) fun X hX=>cc.bn [] [8,9,10,11,33,39,40,41,42] ?_)))|(refine cc.CQ 9 7 500000 9 1 (u9 1) [1,4,5,6] [0] 500001 rfl (Ai (cc.bn [] [8,9,10,11,33,39,40,41,42] ?_) fun X hX=>cc.bn [] [8,9,10,11,33,39,40,41,42] ?_))|(refine cc.CQ 10 7 500000 9 1 (u9 2) [1,5,6] [0] 500001 rfl (Ai (cc.bn [] [8,9,10,11,33,39,40,41,42] ?_) fun X hX=>cc.bn [] [8,9,10,11,33,39,40,41,42] ?_))|(refine cc.CQ 11 7 500000 9 1 (u9 3) [1,6] [0] 500001 rfl (Ai (cc.bn [] [8,9,10,11,33,39,40,41,42] ?_) fun X hX=>cc.bn [] [8,9,10,11,33,39,40,41,42] ?_))|(refine cc.CQ 33 7 500000 9 1 (u9 26) [1,6] [0] 500001 rfl (Ai (cc.bn [] [8,9,10,11,33,39,40,41,42] ?_) fun X hX=>cc.bn [] [8,9,10,11,33,39,40,41,42] ?_))|(refine cc.CQ 39 7 500000 9 1 (u9 44) [1] [0] 500001 rfl (Ai (cc.bn [] [8,9,10,11,33,39,40,41,42] ?_) fun X hX=>cc.bn [] [8,9,10,11,33,39,40,41,42] ?_))|(refine cc.CQ 40 7 500000 9 1 (u9 45) [1] [0] 500001 rfl (Ai (cc.bn [] [8,9,10,11,33,39,40,41,42] ?_) fun X hX=>cc.bn [] [8,9,10,11,33,39,40,41,42] ?_))|(refine cc.CQ 41 7 500000 9 1 (u9 46) [1] [0] 500001 rfl (Ai (cc.bn [] [8,9,10,11,33,39,40,41,42] ?_) fun X hX=>cc.bn [] [8,9,10,11,33,39,40,41,42] ?_))|(refine cc.CQ 42 7 500000 9 1 (u9 47) [] [] 500001 rfl (Ai (cc.bn [] [8,9,10,11,33,39,40,41,42] ?_) fun X hX=>cc.bn [] [8,9,10,11,33,39,40,41,42] ?_))|(refine fM.upL 12 8 7 500000 9 1 6 (by omega) (by omega) (fun i=>u9 (3+i)) [1,6] [0] 500001 rfl (Ai ?_ fun i X h0 h1 hX=>cc.bn [] [8,9,10,11,33,39,40,41,42] ?_))|(refine fM.upL 17 9 7 500000 9 1 6 (by omega) (by omega) (fun i=>u9 (9+i)) [1,6] [0] 500001 rfl (Ai ?_ fun i X h0 h1 hX=>cc.bn [] [8,9,10,11,33,39,40,41,42] ?_))|(refine fM.upL 22 10 7 500000 9 1 5 (by omega) (by omega) (fun i=>u9 (15+i)) [1,6] [0] 500001 rfl (Ai ?_ fun i X h0 h1 hX=>cc.bn [] [8,9,10,11,33,39,40,41,42] ?_))|(refine fM.upL 27 11 7 500000 9 1 5 (by omega) (by omega) (fun i=>u9 (20+i)) [1,6] [0] 500001 rfl (Ai ?_ fun i X h0 h1 hX=>cc.bn [] [8,9,10,11,33,39,40,41,42] ?_))|(refine fM.upL 34 12 7 500000 9 1 17 (by omega) (by omega) (fun i=>u9 (26+i)) [1,6] [0] 500001 rfl (Ai ?_ fun i X h0 h1 hX=>cc.bn [] [8,9,10,11,33,39,40,41,42] ?_))|exact Ei [] (Ai (u9.nil (by omega)) (afF rfl rfl rfl rfl rfl))|exact Ei _ (Ai (by first|exact hX|exact hX.up (by omega)|exact hX.snoc (by omega) (by omega)) (W4 rfl rfl rfl rfl rfl rfl))|exact Ai ‹_› (Ei _ (Ai (by first|exact hX|exact hX.up (by omega)|exact hX.snoc (by omega) (by omega)) (W4 rfl rfl rfl rfl rfl rfl)))|(apply ZH;exact rfl;(first|assumption|omega|(simp only[bp,cK,aZ,bM];omega)|(simp only[Lm] at *;omega)|decide);(first|assumption|omega|(simp only[aZ,bM];omega)|(simp only[Lm] at *;omega)|decide);intro s hs)|(apply aT 251;refine cR Uc trivial ?_)|(apply aT 252;refine cR YL trivial ?_)|(apply aT 253;refine cR Ue trivial ?_)|(apply aT 254;refine cR YM trivial ?_)|(apply aT 255;rcases YO X s (by have:=hX.2;omega) with hc|hc <;> refine cM [] [(500000,0)] hc ⟨⟨⟨rfl,rfl⟩,rfl,ea⟩,ea,⟨⟨rfl,rfl,rfl,rfl,rfl,rfl,rfl⟩,ea⟩⟩ rfl ?_)|(apply aT 256;refine cY (YN _ _ (by first|assumption|omega|(simp only[bp,cK,aZ,bM];omega)|(simp only[Lm] at *;omega)|decide) (by first|assumption|omega|(simp only[bp,cK,aZ,bM];omega)|(simp only[Lm] at *;omega)|decide)) ⟨rfl,rfl,ea⟩ fun _ _=>?_)|(apply aT 257;refine cY (Ec _ (by first|assumption|omega|(simp only[bp,cK,aZ,bM];omega)|(simp only[Lm] at *;omega)|decide) (by first|assumption|omega|(simp only[bp,cK,aZ,bM];omega)|(simp only[Lm] at *;omega)|decide)) ⟨rfl,ea⟩ fun s hs=>?_)|(apply aT 258;refine cY (BP _ _ (Nb rfl) (by first|assumption|omega|(simp only[bp,cK,aZ,bM];omega)|(simp only[Lm] at *;omega)|decide) (by first|assumption|omega|(simp only[bp,cK,aZ,bM];omega)|(simp only[Lm] at *;omega)|decide)) ⟨rfl,fL (dS.enc _),ea⟩ fun s hs=>?_)|(apply aT 249;refine cY (JK _) ⟨rfl,ea⟩ fun s hs=>?_)|(apply aT 250;refine cY (JG _) ⟨rfl,ea⟩ fun s hs=>?_)|(apply K9;exact rfl;(first|exact Nb rfl|omega|(simp only[Lm] at *;omega));intro _)|refine Ai (.inl rfl) (Ai (by have:=hX.2;exact(show(X.length+1)*16<=140737488355328 by omega)) (Ai (by have:=hX.2;exact(show X.length+1 < 140737488355328 by omega)) ?_))|(apply aT 259;obtain⟨L,rfl,g1,g2⟩:=hX.list;refine cY (Uq L _ (by unfold aV;omega) g1 (by omega) (Nb rfl)) ⟨⟨rfl,rfl⟩,rfl,ea⟩ fun _ _=>?_))
theorem Ps (a:Int):∃ r:Bool,True/\Ct ae 211 [.c (.t (iv a))] (aEo r) [] true:=by
 refine cU (Φ:=fun _=>True) cO (cX Tryz.func211 rfl (by kernel_rfl) rfl (cc.bn [] [] ?_))
 repeat' (first|(apply bN <;> intro _)|(exact bo _ (Ei [] (Ai rfl (Ai ea rfl))) (trivial) rfl))
theorem Ua (a:dR):∃ r:dR,True/\Ct ae 210 [.agg (a.enc.map .t)] ((fun r=>.agg (r.enc.map .t)) r) [] true:=by
 refine cU (Φ:=fun _=>True) (fun _=>rfl) (cX Tryz.func210 rfl (by kernel_rfl) rfl (cc.bn [] [] ?_))
 repeat' (first|(apply bN <;> intro _)|(apply bo ⟨_,_,_,_,⟨_,_,_,_,_,_,_,_,_,_,⟨_,_⟩,⟨_,_⟩,⟨_,_⟩⟩⟩;refine Ei [] (Ai rfl (Ai ea ?_));(repeat' first|refine Ai ?_ ?_|exact rfl|exact⟨⟩|exact Ei _ rfl|refine cL ?_|refine bS ?_);done))
theorem JE (a:dR):∃ r:Bool,(r=true->(a.kind=4\/a.kind=5)->a.sub.size<=32)/\Ct ae 160 [.agg (a.enc.map .t)] (aEo r) [] true:=by
 refine cU (Φ:=fun (r:Bool)=>r=true->(a.kind=4\/a.kind=5)->a.sub.size<=32) cO (cX Tryz.func160 rfl (by kernel_rfl) rfl (cc.bn [] [] ?_))
 repeat' (first|(apply bN <;> intro _)|apply cj|(apply cS <;> intro _)|(exact bo _ (Ei [] (Ai rfl (Ai ea rfl))) (by intro hr hk;first|exact Bool.noConfusion hr|(apply_assumption;assumption)|(exfalso;omega)) rfl)|(apply aT 210;refine cY (Ua _) ⟨fL (dR.enc _),ea⟩ fun _ _=>?_)|(apply aT 211;refine cY (Ps _) ⟨rfl,ea⟩ fun _ _=>?_)|(apply aT 145;refine cY (wC _) ⟨rfl,ea⟩ fun _ _=>?_)|(apply aT 135;refine cY (rE _) ⟨fL (ck.enc _),ea⟩ fun _ _=>?_))
theorem Ub (a:dR):∃ r:ByteArray,(r.size<=300000)/\Ct ae 161 [.agg (a.enc.map .t)] (AV.s r) [] true:=by
 refine cU (Φ:=fun (r:ByteArray)=>r.size<=300000) jg (cX Tryz.func161 rfl (by kernel_rfl) rfl (cc.bn [] [] ?_))
 repeat' (first|(apply K9;exact rfl;((have hh:a.sub.size<=32:=by solve_by_elim [Or.inl,Or.inr]);omega);intro _)|(apply bN <;> intro _)|apply cj|(apply cS <;> intro _)|(exact bo _ (Ei [] (Ai rfl (Ai ea rfl))) (by first|exact Nb rfl|omega|(have hh:a.sub.size<=32:=by solve_by_elim [Or.inl,Or.inr]);omega) rfl)|(apply K9;exact rfl;(first|exact Nb rfl|omega|(simp only[Lm] at *;omega));intro _)|(apply FZ;exact rfl;(first|exact Nb rfl|omega|(simp only[Lm] at *;omega));intro _)|(apply sI;(first|exact Nb rfl|omega|(simp only[Lm] at *;omega));intro _)|(apply aT 160;refine cY (JE _) ⟨fL (dR.enc _),ea⟩ fun _ _=>?_)|(apply aT 212;refine cY (rF _) ⟨rfl,ea⟩ fun _ _=>?_)|(apply aT 213;refine cY (Uk _) ⟨rfl,ea⟩ fun _ _=>?_)|(apply aT 214;refine cY (Uh _) ⟨rfl,ea⟩ fun _ _=>?_)|(apply aT 215;refine cY (Ud _) ⟨fL (ck.enc _),ea⟩ fun _ _=>?_)|(apply aT 216;refine cY (BQ _) ⟨rfl,ea⟩ fun _ _=>?_))
theorem oL (a:List dR)(_ha:a.length*176<=aV):∃ r:ByteArray,True/\Ct ae 93 [.c (.t (.sl 20 (a.map dR.enc)))] (AV.s r) [] true:=by
 refine cU (Φ:=fun _=>True) jg (cX Tryz.func93 rfl (by kernel_rfl) rfl (cc.bn [] [] ?_))
 repeat' (first|(apply bN <;> intro _)|apply cj|(apply cS <;> intro _)|(exact bo _ (Ei [] (Ai rfl (Ai ea rfl))) (trivial) rfl)|(apply dV 5 rfl;refine fM.up (β:=ByteArray) 5 4 ((((a.map dR.enc).length:Nat):Int)) (by first|omega|exact eO ‹_› rfl) (by omega) (fun p=>[(3,AV.s p)]) (fun i (p:ByteArray)=>(p.size:Int)<=i*400000) [0] [] 200000 rfl ?_;refine Ai ?_ fun _ _ _ _ _=>cc.bn [] [] ?_)|exact Ei _ (Ai (by first|exact Nb rfl|((try dsimp only at *);omega)|exact Int.le_refl 0|(simp only[Lm] at *;omega)) (bX rfl rfl rfl rfl))|exact Ai (by first|assumption|omega) (Ei _ (Ai (by first|exact Nb rfl|((try dsimp only at *);omega)|exact Int.le_refl 0|(simp only[Lm] at *;omega)) (bX rfl rfl rfl rfl)))|(apply fV;(iterate 2 first|assumption|omega|(simp only[bp,cK,aZ,bM];omega)|(simp only[Lm] at *;omega)|decide);intro _ _)|(apply FZ;exact rfl;(first|exact Nb rfl|omega|(simp only[Lm] at *;omega));intro _)|(apply sI;(first|exact Nb rfl|omega|(simp only[Lm] at *;omega));intro _)|(apply aT 160;refine cY (JE _) ⟨fL (dR.enc _),ea⟩ fun _ _=>?_)|(apply aT 161;refine cY (Ub _) ⟨fL (dR.enc _),ea⟩ fun _ _=>?_))
theorem T8 (a:List dR)(ha:a.length*176<=aV):∃ r:Bool,True/\Ct ae 243 [.c (.t (.sl 20 (a.map dR.enc)))] (aEo r) [] true:=by
 refine cU (Φ:=fun _=>True) cO (cX Tryz.func243 rfl (by kernel_rfl) rfl (cc.bn [] [] ?_))
 repeat' (first|(exact bo _ (Ei [] (Ai rfl (Ai ea rfl))) (trivial) rfl)|(apply aT 93;refine cY (oL _ ‹_›) ⟨rfl,ea⟩ fun _ _=>?_))
theorem Un (a0:Int)(a1:Int)(a2:Int)(a3:Int)(a4:Int)(a5:Int):∃ r:er,True/\Ct ae 274 [.agg [.t (iv a0),.t (iv a1),.t (iv a2),.t (iv a3),.t (iv a4),.t (iv a5)]] ((fun r=>.agg (r.enc.map .t)) r) [] true:=by
 refine cU (Φ:=fun _=>True) (fun _=>rfl) (cX Tryz.func274 rfl (by kernel_rfl) rfl (cc.bn [] [] ?_))
 repeat' (first|(apply bo ⟨_,_,_,_,_,_,_⟩;refine Ei [] (Ai rfl (Ai ea ?_));(repeat' first|refine Ai ?_ ?_|exact rfl|exact⟨⟩|exact Ei _ rfl|refine cL ?_|refine bS ?_);done)|(apply dV 3 rfl;refine fM.one 3 rfl (cc.bn [] [] ?_))|(apply rZ;(iterate 2 first|assumption|omega|(simp only[bp];omega)|(simp only[Lm] at *;omega)|decide);intro _))
theorem Ul (a:er):∃ r:ByteArray,(r.size<=5000)/\Ct ae 273 [.agg (a.enc.map .t)] (AV.s r) [] true:=by
 refine cU (Φ:=fun (r:ByteArray)=>r.size<=5000) jg (cX Tryz.func273 rfl (by kernel_rfl) rfl (cc.bn [] [] ?_));refine cY (JL a) ⟨fL (er.enc _),ea⟩ fun b hb=>?_;refine cj (cS (fun hc=>?_) fun hc=>?_)
 rotate_left
 ·exact bo _ (Ei [] (Ai rfl (Ai ea rfl))) (by first|exact Nb rfl|((try dsimp only at *);omega)|exact Int.le_refl 0|(simp only[Lm] at *;omega)) rfl
 obtain⟨k1,k2,k3,k4,k5,k6,k7⟩:=hb hc
 repeat' (first|(apply bN <;> intro _)|(apply cQ <;> intro _)|(apply cS <;> intro _)|(exact bo _ (Ei [] (Ai rfl (Ai ea rfl))) (by first|exact Nb rfl|((try dsimp only at *);omega)|exact Int.le_refl 0|(simp only[Lm] at *;omega)) rfl)|(apply dV 5 rfl;refine fM.up (β:=ByteArray) 5 4 (2) (by first|omega|exact eO ‹_› rfl) (by omega) (fun p=>[(3,AV.s p)]) (fun i (p:ByteArray)=>(p.size:Int)<=i*40) [1] [0] 200000 rfl (Ai ?_ fun _ _ _ _ _=>cc.bn [] [] ?_))|(apply dV 11 rfl;refine fM.up (β:=ByteArray) 11 5 (5) (by first|omega|exact eO ‹_› rfl) (by omega) (fun p=>[(3,AV.s p)]) (fun i (p:ByteArray)=>(p.size:Int)<=300+i*400) [1] [0] 300000 rfl (Ai ?_ ?_);rotate_left;intro i p h0 h1 hp;(rcases(by omega:i=0\/i=1\/i=2\/i=3\/i=4\/i=5) with rfl|rfl|rfl|rfl|rfl|rfl) <;> apply cc.bn [] [])|(apply dV 14 rfl;refine fM.up (β:=ByteArray) 14 6 (9) (by first|omega|exact eO ‹_› rfl) (by omega) (fun p=>[(3,AV.s p)]) (fun i (q:ByteArray)=>(q.size:Int)<=p.size+i*40) [1,5] [0] 400000 rfl (Ai ?_ fun _ _ _ _ _=>cc.bn [] [] ?_))|exact Ei _ (Ai (by first|exact Nb rfl|((try dsimp only at *);omega)|exact Int.le_refl 0|(simp only[Lm] at *;omega)) (bX rfl rfl rfl rfl))|exact Ai (by first|assumption|omega) (Ei _ (Ai (by first|exact Nb rfl|((try dsimp only at *);omega)|exact Int.le_refl 0|(simp only[Lm] at *;omega)) (bX rfl rfl rfl rfl)))|(apply Yq;(intro _ hh;exact hh);(intro _ hh;exact hh);(first|assumption|omega|(simp only[bp,cK,aZ,bM];omega)|(simp only[Lm] at *;omega)|decide);(iterate 2 first|assumption|omega|(simp only[bp];omega)|(simp only[Lm] at *;omega)|decide);intro _)|(apply rZ;(iterate 2 first|assumption|omega|(simp only[bp,cK,aZ,bM];omega)|(simp only[Lm] at *;omega)|decide);intro _)|(apply FZ;exact rfl;(first|exact Nb rfl|omega|(simp only[Lm] at *;omega));intro _)|(apply sI;(first|exact Nb rfl|omega|(simp only[Lm] at *;omega));intro _)|(apply aT 216;refine cY (BQ _) ⟨rfl,ea⟩ fun _ _=>?_))
theorem Ef (a0:Int)(a1:Int)(a2:Int)(a3:Int)(a4:Int)(a5:Int):∃ r:ByteArray,(r.size<=5000)/\Ct ae 244 [.agg [.t (iv a0),.t (iv a1),.t (iv a2),.t (iv a3),.t (iv a4),.t (iv a5)]] (AV.s r) [] true:=by
 refine cU (Φ:=fun (r:ByteArray)=>r.size<=5000) jg (cX Tryz.func244 rfl (by kernel_rfl) rfl (cc.bn [] [] ?_))
 repeat' (first|(exact bo _ (Ei [] (Ai rfl (Ai ea rfl))) (by first|exact Nb rfl|((try dsimp only at *);omega)|exact Int.le_refl 0|(simp only[Lm] at *;omega)) rfl)|(apply aT 274;refine cY (Un _ _ _ _ _ _) ⟨⟨rfl,rfl,rfl,rfl,rfl,rfl,ea⟩,ea⟩ fun _ _=>?_)|(apply aT 273;refine cY (Ul _) ⟨fL (er.enc _),ea⟩ fun _ _=>?_))
theorem agP (a:cN)(b:Int)(ha:a.ok):∃ r:Bool,True/\Ct ae 207 [.agg (a.enc.map .t),.c (.t (iv b))] (aEo r) [] true:=by
 have lZ:=ha;obtain⟨w7,yk,yj,yi,Et⟩:=lZ;refine cU (Φ:=fun _=>True) cO (cX Tryz.func207 rfl (by kernel_rfl) rfl (cc.bn [] [6,7,8,11,14,17,20,23] ?_))
 repeat' (first|(apply bN <;> intro _)|apply cj|(apply cS <;> intro _)|(exact bo _ (Ei [] (Ai rfl (Ai ea rfl))) (trivial) rfl)|(apply dY 6 rfl;refine cc.cut (α:=Bool) 6 (fun p=>[(5,aEo p)]) (fun _=>True) [2] [0] 200000 rfl (Ai (cc.bn [] [6,7,8,11,14,17,20,23] ?_) fun _ _=>cc.bn [] [6,7,8,11,14,17,20,23] ?_))|(apply dY 7 rfl;refine cc.cut (α:=Bool) 7 (fun p=>[(6,aEo p)]) (fun _=>True) [2,5] [0] 300000 rfl (Ai (cc.bn [] [6,7,8,11,14,17,20,23] ?_) fun _ _=>cc.bn [] [6,7,8,11,14,17,20,23] ?_))|(apply dY 8 rfl;refine cc.cut (α:=Bool) 8 (fun p=>[(7,aEo p)]) (fun _=>True) [2,5,6] [0] 400000 rfl (Ai (cc.bn [] [6,7,8,11,14,17,20,23] ?_) fun _ _=>cc.bn [] [6,7,8,11,14,17,20,23] ?_))|(apply dY 11 rfl;refine cc.cut (α:=Bool) 11 (fun p=>[(8,aEo p)]) (fun _=>True) [2,5,6,7] [0] 500000 rfl (Ai (cc.bn [] [6,7,8,11,14,17,20,23] ?_) fun _ _=>cc.bn [] [6,7,8,11,14,17,20,23] ?_))|(apply dY 14 rfl;refine cc.cut (α:=Bool) 14 (fun p=>[(9,aEo p)]) (fun _=>True) [2,5,6,7,8] [0] 600000 rfl (Ai (cc.bn [] [6,7,8,11,14,17,20,23] ?_) fun _ _=>cc.bn [] [6,7,8,11,14,17,20,23] ?_))|(apply dY 17 rfl;refine cc.cut (α:=Bool) 17 (fun p=>[(10,aEo p)]) (fun _=>True) [2,5,6,7,8,9] [0] 700000 rfl (Ai (cc.bn [] [6,7,8,11,14,17,20,23] ?_) fun _ _=>cc.bn [] [6,7,8,11,14,17,20,23] ?_))|(apply dY 20 rfl;refine cc.cut (α:=Bool) 20 (fun p=>[(11,aEo p)]) (fun _=>True) [2,5,6,7,8,9,10] [0] 800000 rfl (Ai (cc.bn [] [6,7,8,11,14,17,20,23] ?_) fun _ _=>cc.bn [] [6,7,8,11,14,17,20,23] ?_))|(apply dY 23 rfl;refine cc.cut (α:=Bool) 23 (fun p=>[(12,aEo p)]) (fun _=>True) [5,6,7,8,9,10,11] [] 900000 rfl (Ai (cc.bn [] [6,7,8,11,14,17,20,23] ?_) fun _ _=>cc.bn [] [6,7,8,11,14,17,20,23] ?_))|exact Ei _ (Ai (trivial) (bX rfl rfl rfl rfl))|(apply aT 238;refine cY (T5 _) ⟨rfl,ea⟩ fun _ _=>?_)|(apply aT 239;refine cY (T6 _ _) ⟨rfl,rfl,ea⟩ fun _ _=>?_)|(apply aT 240;refine cY (agQ _ _) ⟨fL (sY.enc _),rfl,ea⟩ fun _ _=>?_)|(apply aT 241;refine cY (JF _) ⟨rfl,ea⟩ fun _ _=>?_)|(apply aT 79;refine cY (JM _) ⟨rfl,ea⟩ fun _ _=>?_)|(apply aT 242;refine cY (agS _) ⟨fL (ic.enc _),ea⟩ fun _ _=>?_)|(apply aT 243;refine cY (T8 _ ‹_›) ⟨rfl,ea⟩ fun _ _=>?_)|(apply aT 244;refine cY (Ef _ _ _ _ _ _) ⟨⟨rfl,rfl,rfl,rfl,rfl,rfl,ea⟩,ea⟩ fun _ _=>?_)|(apply aT 245;refine cY (L6 _ _) ⟨rfl,fL (ck.enc _),ea⟩ fun _ _=>?_))
theorem Hj (a:List cN)(b:Int)(ha:a.length*560<=aV)(ma:∀ y∈a,cN.ok y):∃ r:Bool,True/\Ct ae 151 [.c (.t (.sl 64 (a.map cN.enc))),.c (.t (iv b))] (aEo r) [] true:=by
 refine cU (Φ:=fun _=>True) cO (cX Tryz.func151 rfl (by kernel_rfl) rfl (cc.bn [] [] ?_))
 repeat' (first|(apply bN <;> intro _)|apply cj|(apply cS <;> intro _)|(exact bo _ (Ei [] (Ai rfl (Ai ea rfl))) (trivial) rfl)|(apply dV 2 rfl;refine fM.up (β:=Unit) 2 5 ((((a.map cN.enc).length:Nat):Int)) (by first|omega|exact eO ‹_› rfl) (by omega) (fun _=>[]) (fun _ _=>True) [0,1] [] 200000 rfl ?_;refine Ai ?_ fun _ _ _ _ _=>cc.bn [] [] ?_)|exact Ei () (Ai (trivial) (bX rfl rfl rfl rfl))|exact Ai (by first|assumption|omega) (Ei () (Ai (trivial) (bX rfl rfl rfl rfl)))|(apply fV;(iterate 2 first|assumption|omega|(simp only[bp,cK,aZ,bM];omega)|(simp only[Lm] at *;omega)|decide);intro _ _)|(apply aT 207;refine cY (agP _ _ (ku ‹_› ‹_›)) ⟨fL (cN.enc _),rfl,ea⟩ fun _ _=>?_))
theorem Pp (a:bJ)(ha:a.ok):∃ r:Bool,True/\Ct ae 84 [.agg (a.enc.map .t)] (aEo r) [] true:=by
 have lZ:=ha;obtain⟨w7,yk,yj,yi,Et,J3,Es,J2,J1,J0⟩:=lZ;refine cU (Φ:=fun _=>True) cO (cX Tryz.func84 rfl (by kernel_rfl) rfl (cc.bn [] [1002,3,4,1006,1008,9,1013,14,1018,19,24] ?_))
 repeat' (first|(apply bN <;> intro _)|(apply cQ <;> intro _)|apply cj|(apply cS <;> intro _)|(exact bo _ (Ei [] (Ai rfl (Ai ea rfl))) (trivial) rfl)|(apply dY 1002 rfl;refine cc.cut (α:=Bool) 1002 (fun p=>[(11,aEo p)]) (fun _=>True) [1] [0] 200000 rfl (Ai (cc.bn [] [1002,3,4,1006,1008,9,1013,14,1018,19,24] ?_) fun _ _=>cc.bn [] [1002,3,4,1006,1008,9,1013,14,1018,19,24] ?_))|(apply dY 3 rfl;refine cc.cut (α:=Unit) 3 (fun _=>[]) (fun _=>True) [1] [0] 300000 rfl (Ai (cc.bn [] [1002,3,4,1006,1008,9,1013,14,1018,19,24] ?_) fun _ _=>cc.bn [] [1002,3,4,1006,1008,9,1013,14,1018,19,24] ?_))|(apply dY 4 rfl;refine cc.cut (α:=Bool) 4 (fun p=>[(3,aEo p)]) (fun _=>True) [1] [0] 400000 rfl (Ai (cc.bn [] [1002,3,4,1006,1008,9,1013,14,1018,19,24] ?_) fun _ _=>cc.bn [] [1002,3,4,1006,1008,9,1013,14,1018,19,24] ?_))|(apply dY 1006 rfl;refine cc.cut (α:=Bool) 1006 (fun p=>[(43,aEo p)]) (fun _=>True) [1,3] [0] 500000 rfl (Ai (cc.bn [] [1002,3,4,1006,1008,9,1013,14,1018,19,24] ?_) fun _ _=>cc.bn [] [1002,3,4,1006,1008,9,1013,14,1018,19,24] ?_))|(apply dY 1008 rfl;refine cc.cut (α:=Bool) 1008 (fun p=>[(53,aEo p)]) (fun _=>True) [1,3] [0] 600000 rfl (Ai (cc.bn [] [1002,3,4,1006,1008,9,1013,14,1018,19,24] ?_) fun _ _=>cc.bn [] [1002,3,4,1006,1008,9,1013,14,1018,19,24] ?_))|(apply dY 9 rfl;refine cc.cut (α:=Unit) 9 (fun _=>[]) (fun _=>True) [1,3] [0] 700000 rfl (Ai (cc.bn [] [1002,3,4,1006,1008,9,1013,14,1018,19,24] ?_) fun _ _=>cc.bn [] [1002,3,4,1006,1008,9,1013,14,1018,19,24] ?_))|(apply dY 1013 rfl;refine cc.cut (α:=Bool) 1013 (fun p=>[(68,aEo p)]) (fun _=>True) [1,3] [0] 800000 rfl (Ai (cc.bn [] [1002,3,4,1006,1008,9,1013,14,1018,19,24] ?_) fun _ _=>cc.bn [] [1002,3,4,1006,1008,9,1013,14,1018,19,24] ?_))|(apply dY 14 rfl;refine cc.cut (α:=Unit) 14 (fun _=>[]) (fun _=>True) [1,3] [0] 900000 rfl (Ai (cc.bn [] [1002,3,4,1006,1008,9,1013,14,1018,19,24] ?_) fun _ _=>cc.bn [] [1002,3,4,1006,1008,9,1013,14,1018,19,24] ?_))|(apply dY 1018 rfl;refine cc.cut (α:=Bool) 1018 (fun p=>[(83,aEo p)]) (fun _=>True) [1,3] [0] 1000000 rfl (Ai (cc.bn [] [1002,3,4,1006,1008,9,1013,14,1018,19,24] ?_) fun _ _=>cc.bn [] [1002,3,4,1006,1008,9,1013,14,1018,19,24] ?_))|(apply dY 19 rfl;refine cc.cut (α:=Unit) 19 (fun _=>[]) (fun _=>True) [1,3] [0] 1100000 rfl (Ai (cc.bn [] [1002,3,4,1006,1008,9,1013,14,1018,19,24] ?_) fun _ _=>cc.bn [] [1002,3,4,1006,1008,9,1013,14,1018,19,24] ?_))|(apply dY 24 rfl;refine cc.cut (α:=Unit) 24 (fun _=>[]) (fun _=>True) [1,3] [0] 1200000 rfl (Ai (cc.bn [] [1002,3,4,1006,1008,9,1013,14,1018,19,24] ?_) fun _ _=>cc.bn [] [1002,3,4,1006,1008,9,1013,14,1018,19,24] ?_))|exact Ei () (Ai (trivial) (bX rfl rfl rfl rfl))|exact Ei _ (Ai (trivial) (bX rfl rfl rfl rfl))|(apply aT 135;refine cY (rE _) ⟨fL (ck.enc _),ea⟩ fun _ _=>?_)|(apply aT 93;refine cY (oL _ ‹_›) ⟨rfl,ea⟩ fun _ _=>?_)|(apply aT 147;refine cY (Po _) ⟨fL (jL.enc _),ea⟩ fun _ _=>?_)|(apply aT 148;refine cY (agO _) ⟨fL (eb.enc _),ea⟩ fun _ _=>?_)|(apply aT 149;refine cY (agN _) ⟨fL (eW.enc _),ea⟩ fun _ _=>?_)|(apply aT 150;refine cY (Pn _ ‹_›) ⟨rfl,ea⟩ fun _ _=>?_)|(apply aT 151;refine cY (Hj _ _ ‹_› ‹_›) ⟨rfl,rfl,ea⟩ fun _ _=>?_))
theorem uI (a:List dR)(b:List dR)(ha:a.length*176<=aV)(_hb:b.length*176<=aV):∃ r:Bool,True/\Ct ae 208 [.c (.t (.sl 20 (a.map dR.enc))),.c (.t (.sl 20 (b.map dR.enc)))] (aEo r) [] true:=by
 refine cU (Φ:=fun _=>True) cO (cX Tryz.func208 rfl (by kernel_rfl) rfl (cc.bn [] [] ?_))
 repeat' (first|(apply bN <;> intro _)|(apply cQ <;> intro _)|apply cj|(apply cS <;> intro _)|(exact bo _ (Ei [] (Ai rfl (Ai ea rfl))) (trivial) rfl)|(apply dV 4 rfl;refine fM.up (β:=Unit) 4 5 ((((a.map dR.enc).length:Nat):Int)) (by first|omega|exact eO ‹_› rfl) (by omega) (fun _=>[]) (fun _ _=>True) [0,1] [] 200000 rfl ?_;refine Ai ?_ fun _ _ _ _ _=>cc.bn [] [] ?_)|exact Ei () (Ai (trivial) (bX rfl rfl rfl rfl))|exact Ai (by first|assumption|omega) (Ei () (Ai (trivial) (bX rfl rfl rfl rfl)))|(apply fV;(iterate 2 first|assumption|omega|(simp only[bp,cK,aZ,bM];omega)|(simp only[Lm] at *;omega)|decide);intro _ _))
theorem T7 (a:cN)(b:cN)(ha:a.ok)(hb:b.ok):∃ r:Bool,True/\Ct ae 246 [.agg (a.enc.map .t),.agg (b.enc.map .t)] (aEo r) [] true:=by
 have lZ:=ha;obtain⟨w7,yk,yj,yi,Et⟩:=lZ;have Fg:=hb;obtain⟨Xj,Xi,Xh,Xg,ob4⟩:=Fg;refine cU (Φ:=fun _=>True) cO (cX Tryz.func246 rfl (by kernel_rfl) rfl (cc.bn [] [] ?_))
 repeat' (first|(apply bN <;> intro _)|(apply cS <;> intro _)|(exact bo _ (Ei [] (Ai rfl (Ai ea rfl))) (trivial) rfl)|(apply aT 208;refine cY (uI _ _ ‹_› ‹_›) ⟨rfl,rfl,ea⟩ fun _ _=>?_))
theorem Ea (a:List cN)(b:List cN)(ha:a.length*560<=aV)(ma:∀ y∈a,cN.ok y)(_hb:b.length*560<=aV)(mb:∀ y∈b,cN.ok y):∃ r:Bool,True/\Ct ae 209 [.c (.t (.sl 64 (a.map cN.enc))),.c (.t (.sl 64 (b.map cN.enc)))] (aEo r) [] true:=by
 refine cU (Φ:=fun _=>True) cO (cX Tryz.func209 rfl (by kernel_rfl) rfl (cc.bn [] [] ?_))
 repeat' (first|(apply bN <;> intro _)|(apply cQ <;> intro _)|apply cj|(apply cS <;> intro _)|(exact bo _ (Ei [] (Ai rfl (Ai ea rfl))) (trivial) rfl)|(apply dV 4 rfl;refine fM.up (β:=Unit) 4 5 ((((a.map cN.enc).length:Nat):Int)) (by first|omega|exact eO ‹_› rfl) (by omega) (fun _=>[]) (fun _ _=>True) [0,1] [] 200000 rfl ?_;refine Ai ?_ fun _ _ _ _ _=>cc.bn [] [] ?_)|exact Ei () (Ai (trivial) (bX rfl rfl rfl rfl))|exact Ai (by first|assumption|omega) (Ei () (Ai (trivial) (bX rfl rfl rfl rfl)))|(apply fV;(iterate 2 first|assumption|omega|(simp only[bp,cK,aZ,bM];omega)|(simp only[Lm] at *;omega)|decide);intro _ _)|(apply aT 246;refine cY (T7 _ _ (ku ‹_› ‹_›) (ku ‹_› ‹_›)) ⟨fL (cN.enc _),fL (cN.enc _),ea⟩ fun _ _=>?_))
theorem T4 (a:bJ)(b:bJ)(ha:a.ok)(hb:b.ok):∃ r:Bool,True/\Ct ae 159 [.agg (a.enc.map .t),.agg (b.enc.map .t)] (aEo r) [] true:=by
 have lZ:=ha;obtain⟨w7,yk,yj,yi,Et,J3,Es,J2,J1,J0⟩:=lZ;have Fg:=hb;obtain⟨Xj,Xi,Xh,Xg,ob4,ob5,ob6,ob7,ob8,ob9⟩:=Fg;refine cU (Φ:=fun _=>True) cO (cX Tryz.func159 rfl (by kernel_rfl) rfl (cc.bn [] [] ?_))
 repeat' (first|(apply bN <;> intro _)|(apply cQ <;> intro _)|apply cj|(apply cS <;> intro _)|(exact bo _ (Ei [] (Ai rfl (Ai ea rfl))) (trivial) rfl)|(apply dV 4 rfl;refine fM.up (β:=Unit) 4 5 ((((a.specs.map gJ.enc).length:Nat):Int)) (by first|omega|exact eO ‹_› rfl) (by omega) (fun _=>[]) (fun _ _=>True) [2,3] [0,128] 200000 rfl ?_;refine Ai ?_ fun _ _ _ _ _=>cc.bn [] [] ?_)|exact Ei () (Ai (trivial) (bX rfl rfl rfl rfl))|exact Ai (by first|assumption|omega) (Ei () (Ai (trivial) (bX rfl rfl rfl rfl)))|(apply fV;(iterate 2 first|assumption|omega|(simp only[bp,cK,aZ,bM];omega)|(simp only[Lm] at *;omega)|decide);intro _ _)|(apply aT 208;refine cY (uI _ _ ‹_› ‹_›) ⟨rfl,rfl,ea⟩ fun _ _=>?_)|(apply aT 209;refine cY (Ea _ _ ‹_› ‹_› ‹_› ‹_›) ⟨rfl,rfl,ea⟩ fun _ _=>?_))
end
section
open Go Cg Go.RowKit
theorem mW (xs:List (List Tr))(h:xs.length*8<=aV):Ct ae 94 [.c (.t (.sl 1 xs))] (.c (.row 0 0)) [⟨3,1,0,xs,none⟩] false:=by
 refine cT Tryz.func94 rfl (by kernel_rfl) rfl fun w0 O _=>aEk [] ?_;refine Ai (.inl rfl) (Ai (fy xs 8 h) (Ai (eY xs 8 (by decide) h) ?_));exact Ei [(0,128)] (Ai rfl (Ai (Ai ⟨rfl,rfl,rfl⟩ ea) (Ai rfl ⟨rfl,rfl⟩)))
theorem oS (l:List Int)(h:l.length*8 < 140737488355328):Ct ae 94 [.c (.t (.sl 1 (l.map eI)))] (.c (.t (.sl 1 (l.map eI)))) [] false:=by
 refine cT Tryz.func94 rfl (by kernel_rfl) rfl fun w0 O _=>aEk [] ?_;refine Ai (.inl rfl) (Ai (show(([]:List (List Tr)).length+(l.map eI).length)*8<=_ by rw[Lm,bM];omega) (Ai (show([]:List (List Tr)).length+(l.map eI).length < _ by rw[Lm,bM];omega) ?_));exact Ei [] (Ai rfl (Ai ea ⟨rfl,rfl,rfl⟩))
theorem jD (xs:List (List Tr))(h:xs.length*8<=aV):Ct ae 94 [.c (.t (.sl 1 xs))] (.c (.t (.sl 1 xs))) [] false:=by
 refine cT Tryz.func94 rfl (by kernel_rfl) rfl fun w0 O _=>aEk [] ?_;refine Ai (.inl rfl) (Ai (fy xs 8 h) (Ai (eY xs 8 (by decide) h) ?_));exact Ei [] (Ai rfl (Ai ea ⟨rfl,rfl,rfl⟩))
theorem yf (a:bJ)(h:a.ok):Ct ae 95 [.agg (a.enc.map .t)] (.agg (a.enc.map .t)) [] false:=by
 obtain⟨_,hm,hm2,_,_,hs,mX,he,qP,_⟩:=h;refine cT Tryz.func95 rfl (by kernel_rfl) rfl fun w0 O _=>aEk [10] ?_;refine Ai (.inl rfl) (Ai (fy _ 176 (cD _ _ _ hm)) (Ai (eY _ 176 (by decide) (cD _ _ _ hm)) ?_));refine Ai (.inl rfl) (Ai (fy _ 144 (cD _ _ _ hs)) (Ai (eY _ 144 (by decide) (cD _ _ _ hs)) ?_));refine aEm (fun k:Nat=>⟨[(1,.ptr 0 0),(2,.ptr 128 0),(3,.ptr 384 0),(4,aEn k)],[(0,a.enc.map .t),(128,List.replicate 72 .bot),(384,(a.enc.map .t).set 49 (.row 9000 0))],[(9000,⟨125,64,0,(a.dv.take k).map cN.enc,none⟩)],10000⟩) (fun k=>k<=a.dv.length) (fun k=>a.dv.length - k) 0 ?_ (aA _) ?_
 ·refine ba [] rfl rfl ?_ ?_ ?_
  repeat' constructor
 rintro k hk;refine aEk [10] (cS (fun h=>?_) fun h=>?_)
 ·have aU:=cJ h;obtain⟨_,_,_,hem,ajN⟩:=qP a.dv[k] (aH aU);refine Ei k (Ei (a.dv[k].enc) (Ai rfl (Ai (aK _ _ k aU) ?_)));refine Ai (.inl rfl) (Ai (fy _ 176 (cD _ _ _ hem)) (Ai (eY _ 176 (by decide) (cD _ _ _ hem)) ?_));refine Tp.nW [9000] (aEk [] ?_);refine Ai (.inl rfl) (Ai (gA a.dv cN.enc k aU _ 560 (by decide) he) (Ai (fN a.dv cN.enc k aU _ 560 (by decide) he) ?_));refine Ei (k+1) (Ai (show k+1<=_ by omega) (Ai (show a.dv.length - (k+1) < a.dv.length - k by omega) ?_));refine ba [(9000,9000)] rfl rfl ?_ ?_ ?_
  repeat' constructor
  exact cZ k aU 560 (by decide) he;exact fq a.dv cN.enc k aU
 ·have fp:=dM h hk;subst fp;refine Ei [] ?_
  repeat' constructor
  exact iJ a.dv cN.enc 64
theorem GM {α β:Type}(l:List α)(f:α->β):(l.take l.length).map f=l.map f:=by rw[bj]
theorem iD (s:aq)(h:s.ok):Ct ae 46 [.agg (s.enc.map .t)] (.agg ([.row 0 0,.row 1 0,.row 2 0]++(s.enc.drop 3).map .t)) [⟨163,14,0,s.aw.map bO.enc,none⟩,⟨75,19,0,s.aa.map az.enc,none⟩,⟨3,1,0,s.bu.map eI,none⟩] false:=by
 obtain⟨hp,uf,ho,Q6,hb,hx,hs,mX,hw,hw2,hc,nv,hxt⟩:=h;refine cT Tryz.func46 rfl (by kernel_rfl) rfl fun w0 O _=>aEk [] ?_;refine aEm (fun k:Nat=>⟨[(1,.ptr 0 0),(2,.ptr 128 0),(3,.ptr 384 0),(4,aEn k)],[(0,s.enc.map .t),(128,List.replicate 19 .bot),(384,((s.enc.map .t).set 0 (.row 9000 0)))],[(9000,⟨163,14,0,(s.aw.take k).map bO.enc,none⟩)],10000⟩) (fun k=>k<=s.aw.length) (fun k=>s.aw.length - k) 0 ?_ (aA _) ?_
 ·refine ba [] rfl rfl ?_ ?_ ?_
  repeat' constructor
 rintro k hk;refine aEk [10] (cS (fun h=>?_) fun h=>?_)
 ·have aU:=cJ h;obtain⟨e1,e2,e3⟩:=uf s.aw[k] (aH aU);refine Ei k (Ei (s.aw[k].enc) (Ai rfl (Ai (aK _ _ k aU) ?_)));refine cR (jD _ (cD _ _ _ e1)) ⟨rfl,ea⟩ ?_;refine cR (jD _ (cD _ _ _ e2)) ⟨rfl,ea⟩ ?_;refine cR (jD _ (cD _ _ _ e3)) ⟨rfl,ea⟩ ?_;refine Tp.nW [9000] (aEk [] ?_);refine Ai (.inl rfl) (Ai (gA s.aw bO.enc k aU _ 152 (by decide) hp) (Ai (fN s.aw bO.enc k aU _ 152 (by decide) hp) ?_));refine Ei (k+1) (Ai (show k+1<=_ by omega) (Ai (show s.aw.length - (k+1) < s.aw.length - k by omega) ?_));refine ba [(9000,9000)] rfl rfl ?_ ?_ ?_
  repeat' constructor
  exact cZ k aU 152 (by decide) hp;exact fq s.aw bO.enc k aU
 have Iy:=dM h hk;subst Iy;clear h hk;refine Ai (.inl rfl) (Ai (fy _ 128 (cD _ _ _ ho)) (Ai (eY _ 128 (by decide) (cD _ _ _ ho)) ?_));refine cR (mW _ (cD _ _ _ hb)) ⟨rfl,ea⟩ ?_;refine cR (jD _ (cD _ _ _ hx)) ⟨rfl,ea⟩ ?_;refine aEm (fun k:Nat=>⟨[(1,.ptr 0 0),(2,.ptr 128 0),(3,.ptr 384 0),(6,aEn k)],[(0,s.enc.map .t),(128,List.replicate 19 .bot),(384,(((((s.enc.map .t).set 0 (.row 9000 0)).set 1 (.row 9001 0)).set 2 (.row 9002 0)).set 4 (.row 9003 0)))],[(9000,⟨163,14,0,s.aw.map bO.enc,none⟩),(9001,⟨75,19,0,s.aa.map az.enc,none⟩),(9002,⟨3,1,0,s.bu.map eI,none⟩),(9003,⟨176,94,0,(s.stack.take k).map dW.enc,none⟩)],20000⟩) (fun k=>k<=s.stack.length) (fun k=>s.stack.length - k) 0 ?_ (aA _) ?_
 ·refine ba [(9000,9000),(9001,10640),(9002,11664)] rfl rfl ?_ ?_ ?_
  ·repeat' constructor
   all_goals exact GM s.aw bO.enc
  ·repeat' constructor
   all_goals exact GM s.aw bO.enc
  ·repeat' constructor
   all_goals exact GM s.aw bO.enc
 rintro k hk;refine aEk [21] (cS (fun h=>?_) fun h=>?_)
 ·have aU:=cJ h;obtain⟨e1,e2,_⟩:=mX s.stack[k] (aH aU);refine Ei k (Ei (s.stack[k].enc) (Ai rfl (Ai (aK _ _ k aU) ?_)));refine cR (yf s.stack[k].aj e1) ⟨fL s.stack[k].aj.enc,ea⟩ ?_;refine Ai (.inl rfl) (Ai (fy _ 16 (cD _ _ _ e2)) (Ai (eY _ 16 (by decide) (cD _ _ _ e2)) ?_));refine Tp.nW [9000,9001,9002,9003] (aEk [] ?_);refine Ai (.inl rfl) (Ai (gA s.stack dW.enc k aU _ 824 (by decide) hs) (Ai (fN s.stack dW.enc k aU _ 824 (by decide) hs) ?_));refine Ei (k+1) (Ai (show k+1<=_ by omega) (Ai (show s.stack.length - (k+1) < s.stack.length - k by omega) ?_));refine ba [(9000,9000),(9001,9001),(9002,9002),(9003,9003)] rfl rfl ?_ ?_ ?_
  repeat' constructor
  exact cZ k aU 824 (by decide) hs;exact fq s.stack dW.enc k aU
 have hk1:=dM h hk;subst hk1;clear h hk;refine aEm (fun k:Nat=>⟨[(1,.ptr 0 0),(2,.ptr 128 0),(3,.ptr 384 0),(8,aEn k)],[(0,s.enc.map .t),(128,List.replicate 19 .bot),(384,(((((s.enc.map .t).set 0 (.row 9000 0)).set 1 (.row 9001 0)).set 2 (.row 9002 0)).set 5 (.row 9003 0)))],[(9000,⟨163,14,0,s.aw.map bO.enc,none⟩),(9001,⟨75,19,0,s.aa.map az.enc,none⟩),(9002,⟨3,1,0,s.bu.map eI,none⟩),(9003,⟨72,89,0,(s.iM.take k).map aP.enc,none⟩)],30000⟩) (fun k=>k<=s.iM.length) (fun k=>s.iM.length - k) 0 ?_ (aA _) ?_
 ·refine ba [(9000,9000),(9001,9001),(9002,9002)] rfl rfl ?_ ?_ ?_
  ·repeat' constructor
   all_goals exact iJ s.stack dW.enc 94
  ·repeat' constructor
   all_goals exact iJ s.stack dW.enc 94
  ·repeat' constructor
   all_goals exact iJ s.stack dW.enc 94
 rintro k hk;refine aEk [28] (cS (fun h=>?_) fun h=>?_)
 ·have aU:=cJ h;obtain⟨e1,_⟩:=hw2 s.iM[k] (aH aU);refine Ei k (Ei (s.iM[k].enc) (Ai rfl (Ai (aK _ _ k aU) ?_)));refine cR (yf s.iM[k].aj e1) ⟨fL s.iM[k].aj.enc,ea⟩ ?_;refine Tp.nW [9000,9001,9002,9003] (aEk [] ?_);refine Ai (.inl rfl) (Ai (gA s.iM aP.enc k aU _ 768 (by decide) hw) (Ai (fN s.iM aP.enc k aU _ 768 (by decide) hw) ?_));refine Ei (k+1) (Ai (show k+1<=_ by omega) (Ai (show s.iM.length - (k+1) < s.iM.length - k by omega) ?_));refine ba [(9000,9000),(9001,9001),(9002,9002),(9003,9003)] rfl rfl ?_ ?_ ?_
  repeat' constructor
  exact cZ k aU 768 (by decide) hw;exact fq s.iM aP.enc k aU
 have fp:=dM h hk;subst fp;clear h hk;refine aEm (fun k:Nat=>⟨[(1,.ptr 0 0),(2,.ptr 128 0),(3,.ptr 384 0),(10,aEn k)],[(0,s.enc.map .t),(128,List.replicate 19 .bot),(384,(((((s.enc.map .t).set 0 (.row 9000 0)).set 1 (.row 9001 0)).set 2 (.row 9002 0)).set 6 (.row 9003 0)))],[(9000,⟨163,14,0,s.aw.map bO.enc,none⟩),(9001,⟨75,19,0,s.aa.map az.enc,none⟩),(9002,⟨3,1,0,s.bu.map eI,none⟩),(9003,⟨178,6,0,(s.dD.take k).map dI.enc,none⟩)],40000⟩) (fun k=>k<=s.dD.length) (fun k=>s.dD.length - k) 0 ?_ (aA _) ?_
 ·refine ba [(9000,9000),(9001,9001),(9002,9002)] rfl rfl ?_ ?_ ?_
  ·repeat' constructor
   all_goals exact iJ s.iM aP.enc 89
  ·repeat' constructor
   all_goals exact iJ s.iM aP.enc 89
  ·repeat' constructor
   all_goals exact iJ s.iM aP.enc 89
 rintro k hk;refine aEk [36] (cS (fun h=>?_) fun h=>?_)
 ·have aU:=cJ h;obtain⟨e1,e2,_⟩:=nv s.dD[k] (aH aU);refine Ei k (Ei (s.dD[k].enc) (Ai rfl (Ai (aK _ _ k aU) ?_)));refine cR (jD _ (cD _ _ _ e1)) ⟨rfl,ea⟩ ?_;refine Ai (.inl rfl) (Ai (fy _ 176 (cD _ _ _ e2)) (Ai (eY _ 176 (by decide) (cD _ _ _ e2)) ?_));refine Tp.nW [9000,9001,9002,9003] (aEk [] ?_);refine Ai (.inl rfl) (Ai (gA s.dD dI.enc k aU _ 80 (by decide) hc) (Ai (fN s.dD dI.enc k aU _ 80 (by decide) hc) ?_));refine Ei (k+1) (Ai (show k+1<=_ by omega) (Ai (show s.dD.length - (k+1) < s.dD.length - k by omega) ?_));refine ba [(9000,9000),(9001,9001),(9002,9002),(9003,9003)] rfl rfl ?_ ?_ ?_
  repeat' constructor
  exact cZ k aU 80 (by decide) hc;exact fq s.dD dI.enc k aU
 have hk3:=dM h hk;subst hk3;clear h hk;refine cR (jD _ (cD _ _ _ hxt)) ⟨rfl,ea⟩ ?_;refine Ei [(0,9000),(1,9001),(2,9002)] ?_
 repeat' constructor
 all_goals exact iJ s.dD dI.enc 6
theorem wP (s:aq)(id:Int)(hs:s.aa.length*128<=aV):Ct ae 162 [.agg (s.enc.map .t),.c (.t (iv id))] (aEn (qm s.aa id)) [] true:=by
 refine Ct.lit (b:=false) ?_ rfl;refine cT Tryz.func162 rfl (by kernel_rfl) rfl fun w0 O _=>aEk [] ?_;refine aEm (fun k:Nat=>⟨[(1,.c (.t (iv id))),(2,.ptr 0 0),(5,aEn k)],[(0,s.enc.map .t)],[],10000⟩) (fun k=>k<=s.aa.length/\∀ j (h:j < s.aa.length),j < k->(s.aa[j].id==id)=false) (fun k=>s.aa.length - k) 0 ?_ ⟨aA _,fun j _ h=>by omega⟩ ?_
 ·refine ba [] rfl rfl ?_ ⟨aC _ rfl,ea⟩ ?_
  repeat' constructor
 rintro k ⟨hk,fk⟩;refine aEk [] (cS (fun h=>?_) fun h=>?_)
 ·have aU:=cJ h;refine Ei k (Ei (s.aa[k].enc) (Ai rfl (Ai (aK _ _ k aU) ?_)));refine cS (fun h=>?_) fun h=>?_
  ·refine Ei [] (Ai rfl (Ai ea ?_));unfold qm;rw[kf _ _ k aU h fk];exact rfl
  ·refine Ei (k+1) (Ai ⟨by omega,fun j hj Am=>?_⟩ (Ai (show s.aa.length - (k+1) < s.aa.length - k by omega) ?_))
   ·by_cases e:j=k
    ·subst e;exact h
    ·exact fk j hj (by omega)
   refine ba [] rfl rfl ?_ ⟨aC _ rfl,ea⟩ ?_
   repeat' constructor
   exact cZ k aU 128 (by decide) hs
 ·have fp:=dM h hk;refine Ei [] (Ai rfl (Ai ea ?_));unfold qm;rw[jj _ _ (fun j hj=>fk j hj (by omega))];exact rfl
theorem fP (s:aq)(id:Int)(hs:s.aa.length*128<=aV):Ct ae 96 [.agg (s.enc.map .t),.c (.t (iv id))] (.gi [.agg ((cb s.aa id).enc.map .t),aEo (eh s.aa id)]) [] true:=by
 refine Ct.tV (b:=false) ?_ rfl;have hp:=wP s id hs;unfold qm at hp;rcases jb (fun o:az=>o.id==id) s.aa with⟨e1,_,e2⟩|⟨i,hi,e1,_,e2⟩
 ·rw[e1] at hp;unfold cb eh;rw[e2];refine cT Tryz.func96 rfl (by kernel_rfl) rfl fun w0 O _=>aEk [] ?_;refine cR hp ⟨fL s.enc,rfl,ea⟩ ?_;refine Ei [] ?_
  repeat' constructor
 ·revert hp;generalize kQ (fun o:az=>o.id==id) s.aa=v at e1;intro hp;unfold cb eh;rw[e2];refine cT Tryz.func96 rfl (by kernel_rfl) rfl fun w0 O _=>aEk [] ?_;refine cR hp ⟨fL s.enc,rfl,ea⟩ ?_;refine cS (fun h=>by have:=of_decide_eq_true h;omega) fun _=>?_;subst e1;refine Ei i (Ei (s.aa[i].enc) (Ai rfl (Ai (aK _ _ i hi) ?_)));refine Ei [] ?_
  repeat' constructor
theorem GC (l:List Int)(n:Int)(hl:l.length*8<=aV):Ct ae 217 [.c (.t (.sl 1 (l.map eI))),.c (.t (iv n))] (.c (.t (.sl 1 ((l.filter fun i=>i != n).map eI)))) [] false:=by
 refine cT Tryz.func217 rfl (by kernel_rfl) rfl fun w0 O _=>aEk [] ?_;refine aEm (fun k:Nat=>⟨[(0,.c (.t (.sl 1 (l.map eI)))),(1,.c (.t (iv n))),(5,.c (.row 9000 0)),(6,aEn k)],[],[(9000,⟨3,1,0,((l.take k).filter fun i=>i != n).map eI,none⟩)],10000⟩) (fun k=>k<=l.length) (fun k=>l.length - k) 0 ?_ (aA _) ?_
 ·refine ba [] rfl rfl ?_ ?_ ?_
  repeat' constructor
 rintro k hk;have si:((l.take k).filter fun i=>i != n).length<=k:=aX (cE _ _) (by rw[au];omega);refine aEk [] (cS (fun h=>?_) fun h=>?_)
 ·have aU:=cJ h;have Dg:l.take (k+1)=l.take k++[l[k]]:=by rw[List.take_add_one,ag aU];rfl
  refine Ei k (Ei (eI l[k]) (Ai rfl (Ai (aK _ _ k aU) ?_)));refine cS (fun h=>?_) fun h=>?_
  ·refine Ei k (Ei (eI l[k]) (Ai rfl (Ai (aK _ _ k aU) ?_)))
   have hb:(((l.take k).filter fun i=>i != n).map eI).length+[[iv l[k]]].length<=l.length+1:=by
    rw[Lm,aZ,bM];omega
   refine Ai (.inl rfl) (Ai (C5 hb (db (dJ (by decide) hl))) (Ai (ya hb (by decide) (dJ (by decide) hl)) ?_));refine Ei (k+1) (Ai (show k+1<=_ by omega) (Ai (show l.length - (k+1) < l.length - k by omega) ?_));refine ba [(9000,9000)] rfl rfl ?_ ?_ ?_
   repeat' constructor
   exact cZ k aU 8 (by decide) hl;rw[Dg,List.filter_append,aQ];simp only[List.filter_cons,h,List.filter_nil];rfl
  ·refine Ei (k+1) (Ai (show k+1<=_ by omega) (Ai (show l.length - (k+1) < l.length - k by omega) ?_));refine ba [(9000,9000)] rfl rfl ?_ ?_ ?_
   repeat' first|refine Ai ?_ ?_|exact rfl|exact⟨⟩|exact Ei _ rfl|refine cL ?_|refine bS ?_
   exact cZ k aU 8 (by decide) hl;rw[Dg,List.filter_append,aQ];simp only[List.filter_cons,h,List.filter_nil];simp
 ·have fp:=dM h hk;subst fp;refine Ei [] ?_
  repeat' constructor
  rw[bj];exact rfl
end
end Go.Proofs.YtbmdcnkidjlbbaaGreat
