/- Parts of the proof, joined: Chapter 35, the prog. -/
import Derived.Test.YtbmdcnkidjlbbaaGreatRF
import Derived.Test.YtbmdcnkidjlbbaaGreatRows
import Derived.ProofKit
import Derived.OpenShut
import Derived.ChangeOld
import Derived.ShutString
import Derived.ChangeSlices
import Derived.SizedLaws
import Derived.HandedShaped
import Derived.Shelf.Vars
import Derived.JoinedOf
import Derived.KernelRfl
open Go.Proofs.Tryz renaming prog->ae
open List renaming getElem?_eq_getElem->cD,length_cons->aq,length_nil->aw,length_append->au,length_take->aB,mem_cons_self->aC,getElem_mem->aI,mem_singleton->aJ,mem_cons_of_mem->aK,length_drop->aL,mem_of_getElem?->aU,map_append->aW,mem_append->aX,take_succ_eq_append_getElem->bc,append_nil->aZ,take_length->bm,mem_iff_getElem->bB,mem_map->bA,getElem?_map->bp,mem_append_left->bH,mem_append_right->bJ,nil_append->bF,flatMap_cons->bK,map_cons->bP,length_replicate->cc,pairwise_iff_getElem->cu,drop_eq_getElem_cons->dw,append_assoc->cH
open Bool renaming and_eq_true->ag,not_eq_true'->cb
open Go.IntKind renaming wrap_i64->ak,wrap_u64->dM
open Nat renaming le_refl->al,zero_le->aD,le_trans->bd,zero_add->bu,mul_le_mul_right->cw,add_zero->cO
open Option.some renaming inj->aR
open Array renaming length_toList->bD,getElem?_toList->cp
open Cg.Tp renaming run->aBW,loop->aBY,wk->aB1
open Cg.ck renaming bI->aBX,cut->aB3
open Cg.AV renaming i->aBZ,b->aB0
open Cg.Ct renaming lit->aB4
set_option maxRecDepth 100000
set_option maxHeartbeats 4000000
namespace Go.Proofs.YtbmdcnkidjlbbaaGreat
section
open Go Cg Go.RowKit Go.Sort
attribute [local irreducible] fA
theorem Ib {α:Type}{l:List α}{x:α}{r:List α}{k:Nat}(h:l.drop k=x :: r):∃ hk:k < l.length,l[k]=x/\l.drop (k+1)=r:=by
 have hk:k < l.length:=by
  by_cases hk:k < l.length
  ·exact hk
  ·rw[List.drop_eq_nil_of_le (by omega)] at h
   cases h
 refine⟨hk,?_⟩;rw[dw hk] at h;injection h with h1 h2;exact⟨h1,h2⟩
theorem drop_nil {α:Type}{l:List α}{k:Nat}(h:l.drop k=[])(hk:k<=l.length):k=l.length:=by
 have:=List.drop_eq_nil_iff.1 h;omega
theorem A7 (s:aA)(all:List aG)(e:Bool)(hs:s.aa.length*128<=ba)(iU:all.length*176<=ba)(zL:∀ y∈all,aG.ok y):Sq ae 62 [.dv s.enc 0,.dv [.sl 17 (all.map aG.enc)] 0,.dv [bv e] 0] ((gS all e 0 s.aa).map fun w=>.agg (w.enc.map .t)):=by
 generalize hW:gS all e 0 s.aa=ws;refine XU Tryz.func62 rfl (enters_of Tryz.func62 (by kernel_rfl) rfl) tabOk (by kernel_rfl) rfl rfl fun l J n0 E0 hJ hR=>?_
 have TG:∀ (k:Nat) (w:aF) (r:List aF),ws.drop k=w :: r->KA ae l J n0 E0 k (.agg (w.enc.map .t))/\ws.drop (k+1)=r:=fun k w r h=>by
  obtain⟨hk,h1,h2⟩:=Ib h;have:=hR k (by rw[Lm];exact hk);rw[List.getElem_map,h1] at this;exact⟨this,h2⟩
 refine fA.seq (fA.xS hJ fun w0 O _=>aBW [] ?_);refine fA.block ?_;refine fA.loop (α:=Nat × Nat) hJ (fun x=>⟨[(0,.c (.t (.lit (.func (.yield l) #[] #[])))),(1,.dv s.enc 0),(2,.dv [.sl 17 (all.map aG.enc)] 0),(3,.dv [bv e] 0),(11,.c (.t (.sl 19 (s.aa.map aE.enc)))),(12,aBZ (s.aa.map aE.enc).length),(13,aBZ x.1)],[],[],10000⟩) (fun x=>x.2) (fun x=>x.1<=s.aa.length/\x.2<=ws.length/\ws.drop x.2=gS all e x.1 (s.aa.drop x.1)) (fun x=>s.aa.length - x.1) (0,0) ?_ rfl ⟨aD _,aD _,hW.symm⟩ ?_
 ·refine bh [] rfl rfl ?_ ?_ ?_
  all_goals repeat' first|refine Ai ?_ ?_|exact rfl|exact⟨⟩|exact Ei _ rfl
 rintro⟨i,c⟩ ⟨hi,hc,hd⟩;refine fA.seq (fA.xS hJ fun w0 O _=>aBW [] ?_);refine fA.seq (fA.cond (t:=decide ((i:Int) < ((s.aa.map aE.enc).length:Int))) rfl (fun h=>fA.skip ?_) (fun h=>fA.exit ?_))
 ·have aS:=cN h;have Fx:i < s.aa.length:=aS;rw[dw aS] at hd;have hd:ws.drop c=yU all e i s.aa[i]++gS all e (i+1) (s.aa.drop (i+1)):=hd;unfold yU at hd;have DT:=yZ zL i;refine fA.seq (fA.block (fA.seq (fA.xS hJ fun w0 O _=>aBW [] ?_)));refine Ei i (Ei (s.aa[i].enc) (Ai rfl (Ai (aQ _ _ i aS) ?_)));refine fA.seq (fA.seq (fA.xS hJ fun w0 O _=>aBW [] ?_));refine fA.cond (t:=s.aa[i].cg != 0) rfl (fun h=>fA.exit ?_) (fun h=>fA.skip ?_)
  ·have hz:(s.aa[i].cg==0)=false:=by simpa using h
   rw[hz,if_neg (by decide),bF] at hd;refine fA.xS hJ fun w0 O _=>aBW [] ?_;refine Ei (i+1,c) (Ai ⟨Fx,hc,hd⟩ (Ai rfl (Ai (show s.aa.length - (i+1) < s.aa.length - i by omega) ?_)));refine bh [] rfl rfl ?_ ?_ ?_
   ·repeat' first|refine Ai ?_ ?_|exact rfl|exact⟨⟩|exact Ei _ rfl
    exact ed i aS 128 (by decide) hs
   all_goals repeat' first|refine Ai ?_ ?_|exact rfl|exact⟨⟩|exact Ei _ rfl|refine aj ?_|refine bS ?_
  ·have hz:(s.aa[i].cg==0)=true:=by simpa using h
   rw[hz,if_pos rfl] at hd;refine fA.seq (fA.xS hJ fun w0 O _=>aBW [] ?_);refine cR (xI all i iU) ⟨rfl,rfl,trivial⟩ ?_;refine fA.seq (fA.xS hJ fun w0 O _=>aBW [] ?_);refine fA.block ?_;refine fA.loop (α:=Nat × Nat) hJ (fun x=>⟨[(0,.c (.t (.lit (.func (.yield l) #[] #[])))),(1,.dv s.enc 0),(2,.dv [.sl 17 (all.map aG.enc)] 0),(3,.dv [bv e] 0),(11,.c (.t (.sl 19 (s.aa.map aE.enc)))),(12,aBZ (s.aa.map aE.enc).length),(13,aBZ i),(6,.ptr 10512 0),(7,.ptr 11664 0),(25,.c (.t (.sl 72 ((gG all i).aT.map cz.enc)))),(26,aBZ ((gG all i).aT.map cz.enc).length),(27,aBZ x.1)],[(10512,s.aa[i].enc.map .t),(11664,(gG all i).enc.map .t)],[],20000⟩) (fun x=>x.2) (fun x=>x.1<=(gG all i).aT.length/\x.2<=ws.length/\ws.drop x.2=u4 s.aa[i].id (gG all i).aaB e x.1 ((gG all i).aT.drop x.1)++gS all e (i+1) (s.aa.drop (i+1))) (fun x=>(gG all i).aT.length - x.1) (0,c) ?_ rfl ⟨aD _,hc,hd⟩ ?_
   ·refine bh [] rfl rfl ?_ ?_ ?_
    all_goals repeat' first|refine Ai ?_ ?_|exact rfl|exact⟨⟩|exact Ei _ rfl
   rintro⟨j,c2⟩ ⟨hj,mZ,wi⟩;refine fA.seq (fA.xS hJ fun w0 O _=>aBW [] ?_);refine fA.seq (fA.cond (t:=decide ((j:Int) < (((gG all i).aT.map cz.enc).length:Int))) rfl (fun h=>fA.skip ?_) (fun h=>fA.exit ?_))
   ·have Xm:=cN h;have VM:j < (gG all i).aT.length:=Xm;rw[dw Xm] at wi;have wi:ws.drop c2=((if (gG all i).aT[j].kind==4&&xn (gG all i).aT[j].aM.when==e then [⟨s.aa[i].id,j,(gG all i).aaB,(gG all i).aT[j],e⟩] else [])++u4 s.aa[i].id (gG all i).aaB e (j+1) ((gG all i).aT.drop (j+1)))++gS all e (i+1) (s.aa.drop (i+1)):=wi;refine fA.seq (fA.block (fA.seq (fA.xS hJ fun w0 O _=>aBW [] ?_)));refine Ei j (Ei ((gG all i).aT[j].enc) (Ai rfl (Ai (aQ _ _ j Xm) ?_)));refine fA.seq (fA.seq (fA.xS hJ fun w0 O _=>aBW [] ?_));have nx:∀ {st:St},True:=trivial;refine cS (fun h1=>?_) (fun h1=>?_)
    ·have hk:((gG all i).aT[j].kind==4)=false:=by simpa using h1
     rw[hk,Bool.false_and,if_neg (by decide),bF] at wi;refine fA.cond (t:=true) rfl (fun h=>fA.exit ?_) (fun h=>by cases h);refine fA.xS hJ fun w0 O _=>aBW [] ?_;refine Ei (j+1,c2) (Ai ⟨VM,mZ,wi⟩ (Ai rfl (Ai (show(gG all i).aT.length - (j+1) < (gG all i).aT.length - j by omega) ?_)));refine bh [] rfl rfl ?_ ?_ ?_
     ·repeat' first|refine Ai ?_ ?_|exact rfl|exact⟨⟩|exact Ei _ rfl
      exact ed j Xm 640 (by decide) DT.2.2.1
     all_goals repeat' first|refine Ai ?_ ?_|exact rfl|exact⟨⟩|exact Ei _ rfl|refine aj ?_|refine bS ?_
    ·have hk:((gG all i).aT[j].kind==4)=true:=by simpa using h1
     rw[hk,Bool.true_and] at wi;refine cF (Js (gG all i).aT[j].aM.when) ⟨rfl,trivial⟩ ?_;refine fA.cond (t:=xn (gG all i).aT[j].aM.when != e) rfl (fun h=>fA.exit ?_) (fun h=>fA.skip ?_)
     ·have hk:(xn (gG all i).aT[j].aM.when==e)=false:=by simpa using h
      rw[hk,if_neg (by decide),bF] at wi;refine fA.xS hJ fun w0 O _=>aBW [] ?_;refine Ei (j+1,c2) (Ai ⟨VM,mZ,wi⟩ (Ai rfl (Ai (show(gG all i).aT.length - (j+1) < (gG all i).aT.length - j by omega) ?_)));refine bh [] rfl rfl ?_ ?_ ?_
      ·repeat' first|refine Ai ?_ ?_|exact rfl|exact⟨⟩|exact Ei _ rfl
       exact ed j Xm 640 (by decide) DT.2.2.1
      all_goals repeat' first|refine Ai ?_ ?_|exact rfl|exact⟨⟩|exact Ei _ rfl|refine aj ?_|refine bS ?_
     ·have hk:(xn (gG all i).aT[j].aM.when==e)=true:=by simpa using h
      rw[hk,if_pos rfl,cH] at wi;obtain⟨hy,hd3⟩:=TG c2 _ _ wi
      have Zx:c2+1<=ws.length:=by
       obtain⟨hk,_⟩:=Ib wi;exact hk
      refine fA.seq (fA.TW 9 hJ hy rfl ?_);refine Ai rfl (Ai (Ai rfl (Ai rfl ?_)) ?_)
      ·repeat' first|refine Ai ?_ ?_|exact rfl|exact⟨⟩|exact Ei _ rfl|refine aj ?_|refine bS ?_
      refine fA.cond (t:=false) rfl (fun h=>by cases h) (fun _=>fA.skip ?_);refine fA.xS hJ fun w0 O _=>aBW [] ?_;refine Ei (j+1,c2+1) (Ai ⟨VM,Zx,hd3⟩ (Ai rfl (Ai (show(gG all i).aT.length - (j+1) < (gG all i).aT.length - j by omega) ?_)));refine bh [] rfl rfl ?_ ?_ ?_
      ·repeat' first|refine Ai ?_ ?_|exact rfl|exact⟨⟩|exact Ei _ rfl
       exact ed j Xm 640 (by decide) DT.2.2.1
      all_goals repeat' first|refine Ai ?_ ?_|exact rfl|exact⟨⟩|exact Ei _ rfl|refine aj ?_|refine bS ?_
   ·have uj:=cP h hj;subst uj;rw[List.drop_eq_nil_of_le (al _)] at wi;have wi:ws.drop c2=gS all e (i+1) (s.aa.drop (i+1)):=wi;refine fA.xS hJ fun w0 O _=>aBW [] ?_;refine Ei (i+1,c2) (Ai ⟨Fx,mZ,wi⟩ (Ai rfl (Ai (show s.aa.length - (i+1) < s.aa.length - i by omega) ?_)));refine bh [] rfl rfl ?_ ?_ ?_
    ·repeat' first|refine Ai ?_ ?_|exact rfl|exact⟨⟩|exact Ei _ rfl
     exact ed i aS 128 (by decide) hs
    all_goals repeat' first|refine Ai ?_ ?_|exact rfl|exact⟨⟩|exact Ei _ rfl|refine aj ?_|refine bS ?_
 ·have uj:=cP h hi;subst uj;rw[List.drop_eq_nil_of_le (al _)] at hd;have mZ:=drop_nil (show ws.drop c=[] from hd) hc;refine Ai (Ei [] (Ai rfl (Ai trivial ?_))) (by rw[Lm];exact mZ)
  repeat' first|refine Ai ?_ ?_|exact rfl|exact⟨⟩|exact Ei _ rfl|refine aj ?_|refine bS ?_
theorem qL (s:aA)(all:List aG)(e:Bool):Ct ae 25 [.agg (s.enc.map .t),.c (.t (.sl 17 (all.map aG.enc))),.c (.t (bv e))] (.kp 62 [(s.enc,0),([.sl 17 (all.map aG.enc)],0),([bv e],0)]) [] false:=by
 refine Wz Tryz.func25 rfl (enters_of Tryz.func25 (by kernel_rfl) rfl) tabOk (by kernel_rfl) rfl rfl rfl fun w0 O _=>aBW [] ?_;refine Ai rfl ?_;exact⟨⟨rfl,vw s.enc⟩,⟨rfl,rfl⟩,⟨rfl,rfl⟩,trivial⟩
theorem Co (a:Int):Ct ae 66 [.c (.t (iv a))] (aB0 false) [] true:=by
 have key:Ct ae 66 [.c (.t (iv a))] (aB0 (a != a)) [] true:=by
  refine aB4 (b:=false) ?_ rfl;refine cT Tryz.func66 rfl (by kernel_rfl) rfl fun w0 O _=>aBW [] ?_;refine Ei [] (Ai rfl (Ai trivial ?_));exact rfl
 rw[show(a != a)=false by simp] at key;exact key
theorem wL (a b:Int):Ct ae 29 [.c (.t (iv a)),.c (.t (iv b))] (aBZ (AF a b)) [] true:=by
 refine aB4 (b:=false) ?_ rfl;have h1:=Co a;have h2:=Co b;generalize hz:AF a b=z;unfold AF at hz;refine cT Tryz.func29 rfl (by kernel_rfl) rfl fun w0 O _=>aBW [] ?_;refine cF h1 ⟨rfl,trivial⟩ ?_;refine cF h2 ⟨rfl,trivial⟩ ?_;refine cS (fun h=>?_) (fun h=>?_)
 ·rw[if_pos (of_decide_eq_true h)] at hz;subst hz;refine Ei [] ?_
  repeat' first|refine Ai ?_ ?_|exact rfl|exact⟨⟩|exact Ei _ rfl
 ·rw[if_neg (of_decide_eq_false h)] at hz;refine cS (fun h=>?_) (fun h=>?_)
  ·rw[if_pos (of_decide_eq_true h)] at hz;subst hz;refine Ei [] ?_
   repeat' first|refine Ai ?_ ?_|exact rfl|exact⟨⟩|exact Ei _ rfl
  ·rw[if_neg (of_decide_eq_false h)] at hz;subst hz;refine Ei [] ?_
   repeat' first|refine Ai ?_ ?_|exact rfl|exact⟨⟩|exact Ei _ rfl
def Qx:List Int->Int
 | []=>0
 | x :: r=>if x≠0 then x else Qx r
theorem Ys (l:List Int)(hl:l.length*8<=ba):Ct ae 28 [.c (.t (.sl 1 (l.map eI)))] (aBZ (Qx l)) [] true:=by
 refine aB4 (b:=false) ?_ rfl;refine cT Tryz.func28 rfl (by kernel_rfl) rfl fun w0 O _=>aBW [] ?_;refine aBY (fun k:Nat=>⟨[(3,aBZ 0),(6,.c (.t (.sl 1 (l.map eI)))),(7,aBZ (l.map eI).length),(8,aBZ k)],[],[],10000⟩) (fun k=>k<=l.length/\Qx (l.drop k)=Qx l) (fun k=>l.length - k) 0 ?_ ⟨aD _,rfl⟩ ?_
 ·refine bh [] rfl rfl ?_ ?_ ?_
  all_goals repeat' first|refine Ai ?_ ?_|exact rfl|exact⟨⟩|exact Ei _ rfl
 rintro k ⟨hk,eZ⟩;refine aBW [] ?_;refine cS (fun h=>?_) (fun h=>?_)
 ·have aS:=cN h;rw[dw aS] at eZ;have eZ:(if l[k]≠0 then l[k] else Qx (l.drop (k+1)))=Qx l:=eZ;refine Ei k (Ei (eI l[k]) (Ai rfl (Ai (aQ _ _ k aS) ?_)));refine cS (fun h=>?_) (fun h=>?_)
  ·rw[if_pos (by simpa using h)] at eZ;refine Ei [] (Ai rfl (Ai trivial ?_));rw[<- eZ];exact rfl
  ·rw[if_neg (by simpa using h)] at eZ;refine Ei (k+1) (Ai ⟨by omega,eZ⟩ (Ai (show l.length - (k+1) < l.length - k by omega) ?_));refine bh [] rfl rfl ?_ ?_ ?_
   ·repeat' first|refine Ai ?_ ?_|exact rfl|exact⟨⟩|exact Ei _ rfl
    exact ed k aS 8 (by decide) hl
   all_goals repeat' first|refine Ai ?_ ?_|exact rfl|exact⟨⟩|exact Ei _ rfl|refine aj ?_|refine bS ?_
 ·have fS:=cP h hk;subst fS;rw[List.drop_eq_nil_of_le (al _)] at eZ;rw[<- eZ];refine Ei [] (Ai rfl (Ai trivial ?_));exact rfl
theorem or2 (a b:Int):Ct ae 28 [.c (.t (.sl 1 [eI a,eI b]))] (aBZ (if a≠0 then a else b)) [] true:=by
 have h:=Ys [a,b] (by unfold ba;exact Nb rfl)
 have e:Qx [a,b]=if a≠0 then a else b:=by
  unfold Qx;split
  ·rfl
  ·unfold Qx;split
   ·rfl
   ·rename_i h;have:b=0:=by simpa using h
    rw[this];rfl
 rw[e] at h;exact h
theorem Sj:OP 27 sD:=fun x y=>by
 refine aB4 (b:=false) ?_ rfl;have h1:=wL x.id y.id;have h2:=wL x.index y.index;have h3:=or2 (AF x.id y.id) (AF x.index y.index);refine cT Tryz.func27 rfl (by kernel_rfl) rfl fun w0 O _=>aBW [] ?_;refine cF h1 ⟨rfl,rfl,trivial⟩ ?_;refine cF h2 ⟨rfl,rfl,trivial⟩ ?_;refine cF h3 ⟨?_,trivial⟩ ?_
 ·repeat' first|refine Ai ?_ ?_|exact rfl|exact⟨⟩|exact Ei _ rfl
 refine Ei [] ?_
 repeat' first|refine Ai ?_ ?_|exact rfl|exact⟨⟩|exact Ei _ rfl
attribute [local irreducible] oK
theorem Ba (id you:Int)(e:Bool):∀ (k:Nat) (l:List cz),(u4 id you e k l).length<=l.length
 | _,[]=>al _
 | k,a :: r=>by
  unfold u4;rw[au,aq];have:=Ba id you e (k+1) r;split <;> simp <;> omega
theorem Lg {α:Type}(f:α->Nat)(n:Nat)(h:∀ x,f x<=n):∀ l:List α,(l.map f).sum<=l.length*n
 | []=>aD _
 | x :: r=>by
  rw[bP,List.sum_cons,aq,Nat.add_mul,Nat.one_mul];have:=Lg f n h r;have:=h x;omega
theorem Bb (c:fx)(w:aF):(aaL c w).length<=c.after.aa.length+1:=by
 have:=Bm c w;unfold aaL
 repeat' split
 ·exact Nat.le_add_left _ _
 ·exact aD _
 ·rw[Lm];exact this
def sq (c:fx):List bW:=(iT (gF sD) (gS c.de true 0 c.before.aa++gS c.dS false 0 c.after.aa)).flatMap (aaL c)
theorem NS (c:fx)(b1:c.before.aa.length<=4000)(b2:c.after.aa.length<=4000)(hp:c.after.ok)(h3:c.de.length*176<=ba)(h4:c.dS.length*176<=ba)(m3:∀ y∈c.de,aG.ok y)(m4:∀ y∈c.dS,aG.ok y)(n3:(gS c.de true 0 c.before.aa).length<=100000)(n4:(gS c.dS false 0 c.after.aa).length<=100000)(hw:∀ w∈gS c.de true 0 c.before.aa++gS c.dS false 0 c.after.aa,w.ai.ok):Ct ae 13 [.agg (c.before.enc.map .t),.c (.t (.sl 17 (c.de.map aG.enc))),.agg (c.after.enc.map .t),.c (.t (.sl 17 (c.dS.map aG.enc))),.agg (c.e.enc.map .t)] (.c (.t (.sl 89 ((sq c).map bW.enc)))) [] false:=by
 have Cy:=A7 c.before c.de true (by unfold ba;omega) h3 m3;have uf:=A7 c.after c.dS false (by unfold ba;omega) h4 m4;generalize hX:gS c.de true 0 c.before.aa=xs at *;generalize hY:gS c.dS false 0 c.after.aa=ys at *;have adZ:=vg 27 sD Sj (xs++ys) (by rw[au];unfold ba;omega);generalize hM:sq c=M;unfold sq at hM;rw[hX,hY] at hM;refine Wy Tryz.func13 rfl (enters_of Tryz.func13 (by kernel_rfl) rfl) tabOk rfl rfl rfl rfl fun w0=>?_;refine oK.seq (oK.xS rfl fun O _=>aBW [] ?_);refine oK.seq (oK.xS rfl fun O _=>aBW [] ?_);refine oK.seq (oK.seq (oK.xS rfl fun O _=>aBW [] ?_));refine cR (qL c.before c.de true) ⟨fL c.before.enc,rfl,rfl,trivial⟩ ?_;refine oK.block ?_;have YZ:∀ (zs:List aF) (k:Nat) (hk:k < (zs.map fun w:aF=>(AV.agg (w.enc.map .t))).length),(zs.map fun w:aF=>(AV.agg (w.enc.map .t)))[k]=.agg ((zs[k]'(by rw[Lm] at hk;exact hk)).enc.map .t):=fun zs k hk=>List.getElem_map ..
 have mq:∀ (zs:List aF),∀ x∈(zs.map fun w:aF=>(AV.agg (w.enc.map .t))),x.plain=true:=fun zs x hx=>by
  obtain⟨w,_,rfl⟩:=bA.1 hx;exact rfl
 refine oK.wk (cJ:=⟨[(1,.c (.t (.sl 17 (c.de.map aG.enc)))),(3,.c (.t (.sl 17 (c.dS.map aG.enc)))),(5,.ptr 0 0),(7,.ptr 128 0),(9,.ptr 256 0),(11,.ptr 512 0),(20,.kp 62 [(c.before.enc,0),([Tr.sl 17 (List.map aG.enc c.de)],0),([bv true],0)])],[(0,c.before.enc.map .t),(128,c.after.enc.map .t),(256,c.e.enc.map .t),(512,[.row 9000 0])],[(9000,⟨100,76,0,([]:List aF).map aF.enc,none⟩)],10000⟩) ?_ ?_
 ·refine bh [] rfl rfl ?_ ?_ ?_
  all_goals repeat' first|refine Ai ?_ ?_|exact rfl|exact⟨⟩|exact Ei _ rfl
 refine oK.LK (bx:=fun _=>[(0,c.before.enc.map .t),(128,c.after.enc.map .t),(256,c.e.enc.map .t),(512,[.row 9000 0])]) (rw:=fun k=>[(9000,⟨100,76,0,(xs.take k).map aF.enc,none⟩)]) (pins:=[0,128,256,512]) (xs:=xs.map fun w:aF=>(AV.agg (w.enc.map .t))) (caps:=[(c.before.enc,0),([Tr.sl 17 (List.map aG.enc c.de)],0),([bv true],0)]) rfl Cy rfl ?_ rfl rfl rfl (mq xs) ?_ ?_
 ·intro k j hj;rcases List.mem_cons.1 hj with rfl|hj
  ·exact⟨_,rfl⟩
  rcases List.mem_cons.1 hj with rfl|hj
  ·exact⟨_,rfl⟩
  rcases List.mem_cons.1 hj with rfl|hj
  ·exact⟨_,rfl⟩
  rcases List.mem_cons.1 hj with rfl|hj
  ·exact⟨_,rfl⟩
  cases hj
 ·intro l k hk;rw[YZ xs k hk];rw[Lm] at hk;intro O lJ hv hb
  haveI:=lJ
  refine Kz.region 3 _ _ _ rfl ?_;refine Ai rfl fun O2 JQ AZ dD=>?_
  haveI:=JQ
  refine Kz.block (Kz.region 4 _ _ _ rfl ?_)
  have kY:(((xs.take k).map aF.enc).length+1)*672<=140737488355328/\((xs.take k).map aF.enc).length+1 < 140737488355328:=by
   rw[Lm,aB];omega
  have fR:(xs.take k).map aF.enc++[xs[k].enc]=(xs.take (k+1)).map aF.enc:=by
   rw[bc hk,aW];rfl
  refine Ai (.inl rfl) (Ai kY.1 (Ai kY.2 ?_));refine Ai rfl ?_;refine KV [(9000,9000)] ?_ rfl rfl ?_ ?_ ?_
  ·intro j hj;rcases List.mem_cons.1 hj with rfl|hj
   ·exact⟨_,rfl⟩
   rcases List.mem_cons.1 hj with rfl|hj
   ·exact⟨_,rfl⟩
   rcases List.mem_cons.1 hj with rfl|hj
   ·exact⟨_,rfl⟩
   rcases List.mem_cons.1 hj with rfl|hj
   ·exact⟨_,rfl⟩
   cases hj
  ·repeat' first|refine Ai ?_ ?_|exact rfl|exact⟨⟩|exact Ei _ rfl|refine aj ?_|refine bS ?_
  ·repeat' first|refine Ai ?_ ?_|exact rfl|exact⟨⟩|exact Ei _ rfl|refine aj ?_|refine bS ?_
  ·repeat' first|refine Ai ?_ ?_|exact rfl|exact⟨⟩|exact Ei _ rfl|refine aj ?_|refine bS ?_
   exact fR
 rw[Lm,bm];refine oK.seq (oK.seq (oK.xS rfl fun O _=>aBW [] ?_));refine cR (qL c.after c.dS false) ⟨fL c.after.enc,rfl,rfl,trivial⟩ ?_;refine oK.block ?_;refine oK.wk (cJ:=⟨[(1,.c (.t (.sl 17 (c.de.map aG.enc)))),(3,.c (.t (.sl 17 (c.dS.map aG.enc)))),(5,.ptr 0 0),(7,.ptr 128 0),(9,.ptr 256 0),(11,.ptr 512 0),(28,.kp 62 [(c.after.enc,0),([Tr.sl 17 (List.map aG.enc c.dS)],0),([bv false],0)])],[(0,c.before.enc.map .t),(128,c.after.enc.map .t),(256,c.e.enc.map .t),(512,[.row 9000 0])],[(9000,⟨100,76,0,(xs++ys.take 0).map aF.enc,none⟩)],10000⟩) ?_ ?_
 ·refine bh [(9000,9000)] rfl rfl ?_ ?_ ?_
  all_goals repeat' first|refine Ai ?_ ?_|exact rfl|exact⟨⟩|exact Ei _ rfl|refine aj ?_|refine bS ?_
  rw[List.take_zero,aZ]
 refine oK.LK (bx:=fun _=>[(0,c.before.enc.map .t),(128,c.after.enc.map .t),(256,c.e.enc.map .t),(512,[.row 9000 0])]) (rw:=fun k=>[(9000,⟨100,76,0,(xs++ys.take k).map aF.enc,none⟩)]) (pins:=[0,128,256,512]) (xs:=ys.map fun w:aF=>(AV.agg (w.enc.map .t))) (caps:=[(c.after.enc,0),([Tr.sl 17 (List.map aG.enc c.dS)],0),([bv false],0)]) rfl uf rfl ?_ rfl rfl rfl (mq ys) ?_ ?_
 ·intro k j hj;rcases List.mem_cons.1 hj with rfl|hj
  ·exact⟨_,rfl⟩
  rcases List.mem_cons.1 hj with rfl|hj
  ·exact⟨_,rfl⟩
  rcases List.mem_cons.1 hj with rfl|hj
  ·exact⟨_,rfl⟩
  rcases List.mem_cons.1 hj with rfl|hj
  ·exact⟨_,rfl⟩
  cases hj
 ·intro l k hk;rw[YZ ys k hk];rw[Lm] at hk;intro O lJ hv hb
  haveI:=lJ
  refine Kz.region 6 _ _ _ rfl ?_;refine Ai rfl fun O2 JQ AZ dD=>?_
  haveI:=JQ
  refine Kz.block (Kz.region 7 _ _ _ rfl ?_)
  have kY:(((xs++ys.take k).map aF.enc).length+1)*672<=140737488355328/\((xs++ys.take k).map aF.enc).length+1 < 140737488355328:=by
   rw[Lm,au,aB];omega
  have fR:(xs++ys.take k).map aF.enc++[ys[k].enc]=(xs++ys.take (k+1)).map aF.enc:=by
   rw[bc hk,<- cH,aW (l₁:=xs++ys.take k)];rfl
  refine Ai (.inl rfl) (Ai kY.1 (Ai kY.2 ?_));refine Ai rfl ?_;refine KV [(9000,9000)] ?_ rfl rfl ?_ ?_ ?_
  ·intro j hj;rcases List.mem_cons.1 hj with rfl|hj
   ·exact⟨_,rfl⟩
   rcases List.mem_cons.1 hj with rfl|hj
   ·exact⟨_,rfl⟩
   rcases List.mem_cons.1 hj with rfl|hj
   ·exact⟨_,rfl⟩
   rcases List.mem_cons.1 hj with rfl|hj
   ·exact⟨_,rfl⟩
   cases hj
  ·repeat' first|refine Ai ?_ ?_|exact rfl|exact⟨⟩|exact Ei _ rfl|refine aj ?_|refine bS ?_
  ·repeat' first|refine Ai ?_ ?_|exact rfl|exact⟨⟩|exact Ei _ rfl|refine aj ?_|refine bS ?_
  ·repeat' first|refine Ai ?_ ?_|exact rfl|exact⟨⟩|exact Ei _ rfl|refine aj ?_|refine bS ?_
   exact fR
 rw[Lm,bm];refine oK.xS rfl fun O _=>aBW [9] ?_;refine cM [] [(9000,0)] adZ ?_ ?_ ?_
 ·repeat' first|refine Ai ?_ ?_|exact rfl|exact⟨⟩|exact Ei _ rfl
 ·exact rfl
 have hlen:(iT (gF sD) (xs++ys)).length<=200000:=by
  rw[Ll,au];omega
 have s8:∀ w∈iT (gF sD) (xs++ys),w.ai.ok:=fun w h=>hw w ((Ee _).mem_iff.1 h);generalize hL:iT (gF sD) (xs++ys)=L at *;refine aBW [] ?_
 have si:∀ k,((L.take k).flatMap (aaL c)).length<=L.length*4001:=fun k=>by
  rw[List.length_flatMap];refine bd (Lg (fun w=>(aaL c w).length) 4001 (fun w=>?_) (L.take k)) (cw _ (by rw[aB];omega));exact bd (Bb c w) (by omega)
 refine aBY (fun k:Nat=>⟨[(14,.ptr 11024 0),(15,.c (.row 9100 0)),(42,.c (.row 9000 0)),(43,aBZ (L.map aF.enc).length),(44,aBZ k)],[(11024,c.enc.map .t)],[(9000,⟨100,76,0,L.map aF.enc,none⟩),(9100,⟨72,89,0,((L.take k).flatMap (aaL c)).map bW.enc,none⟩)],20000⟩) (fun k=>k<=L.length) (fun k=>L.length - k) 0 ?_ (aD _) ?_
 ·refine bh [(9000,9000)] rfl rfl ?_ ?_ ?_
  all_goals repeat' first|refine Ai ?_ ?_|exact rfl|exact⟨⟩|exact Ei _ rfl|refine aj ?_|refine bS ?_
 rintro k hk;refine aBW [14] ?_;refine cS (fun h=>?_) (fun h=>?_)
 ·have aS:=cN h;have Y4:=D1 c L[k] (s8 _ (aI aS)) (by omega) (by omega) hp h3 h4 m3 m4;refine Ei k (Ai rfl (Ai (by rw[Lm];exact aS) ?_));refine Ei (L[k].enc) (Ei _ (Ai (aQ _ _ k aS) (Ai rfl ?_)));refine aBW [] ?_;refine cR Y4 ⟨fL c.enc,fL L[k].enc,trivial⟩ ?_
  have kY:((((L.take k).flatMap (aaL c)).map bW.enc).length+((aaL c L[k]).map bW.enc).length)*768<=140737488355328/\(((L.take k).flatMap (aaL c)).map bW.enc).length+((aaL c L[k]).map bW.enc).length < 140737488355328:=by
   rw[Lm,Lm];have h1:=si k;have h2:=Bb c L[k];omega
  have fR:((L.take k).flatMap (aaL c)).map bW.enc++(aaL c L[k]).map bW.enc=((L.take (k+1)).flatMap (aaL c)).map bW.enc:=by
   rw[bc aS,List.flatMap_append,aW,List.flatMap_singleton]
  refine Ai (.inl rfl) (Ai kY.1 (Ai kY.2 ?_));refine Ei (k+1) (Ai (show k+1<=_ by omega) (Ai (show L.length - (k+1) < L.length - k by omega) ?_));refine bh [(9000,9000),(9100,9100)] rfl rfl ?_ ?_ ?_
  all_goals repeat' first|refine Ai ?_ ?_|exact rfl|exact⟨⟩|exact Ei _ rfl|refine aj ?_|refine bS ?_
  exact ed k aS 672 (by decide) (by unfold ba;omega);exact fR
 ·have fS:=cP h hk;subst fS;subst hM;refine Ei [] ?_
  repeat' first|refine Ai ?_ ?_|exact rfl|exact⟨⟩|exact Ei _ rfl
  rw[bm];exact rfl
end
section
open Go Cg
theorem Rn {A:List aF}(B:List aF){x:aF}(h:∀ a∈A,zV a x=true):vZ zV x (A++B)=A++vZ zV x B:=by
 unfold vZ;rw[List.takeWhile_append_of_pos h,List.dropWhile_append_of_pos h,cH]
theorem Cr:∀ (b A:List aF),(A++b).Pairwise Fg->oF zV A b=A++b
 | [],A,_=>by rw[oF,aZ]
 | x :: b,A,h=>by
  have h2:∀ a∈A,zV a x=true:=fun a ha=>(Ch a x).2 ((List.pairwise_append.1 h).2.2 a ha x aC);have:=Rn (x:=x) [] h2;rw[aZ] at this;rw[oF,this];have e:vZ zV x []=[x]:=rfl;rw[e,Cr b (A++[x]) (by rw[cH];exact h),cH];rfl
theorem pF (id you:Int)(e:Bool):∀ (l:List cz) (k:Nat),∀ w∈u4 id you e k l,w.id=id/\(k:Int)<=w.index/\w.you=you/\w.ai∈l/\w.ai.kind=4/\xn w.ai.aM.when=e
 | [],_,_,h=>by cases h
 | a :: r,k,w,h=>by
  rcases aX.1 h with h|h
  ·split at h
   ·rename_i hc;rw[aJ.1 h];simp at hc;exact⟨rfl,Int.le_refl _,rfl,aC,hc.1,hc.2⟩
   ·cases h
  ·obtain⟨h1,h2,h3,h4,h5⟩:=pF id you e r (k+1) w h;exact⟨h1,by omega,h3,aK _ h4,h5⟩
theorem A9 (id you:Int)(e:Bool):∀ (l:List cz) (k:Nat),(u4 id you e k l).Pairwise Fg
 | [],_=>List.Pairwise.nil
 | a :: r,k=>by
  rw[u4];refine List.pairwise_append.2 ⟨by split <;> simp,A9 id you e r (k+1),fun x hx y hy=>?_⟩;split at hx
  ·rw[aJ.1 hx];obtain⟨h1,h2,_⟩:=pF id you e r (k+1) y hy;refine .inr ⟨h1.symm,?_⟩;show(k:Int)<=_;omega
  ·cases hx
theorem pE (all:List aG)(e:Bool):∀ (l:List aE) (i:Nat),∀ w∈gS all e i l,(∃ (j:Nat) (hj:j < l.length),w.id=l[j].id/\l[j].cg=0/\w.you=(gG all (i+j)).aaB/\w.ai∈(gG all (i+j)).aT)/\w.ai.kind=4/\xn w.ai.aM.when=e
 | [],_,_,h=>by cases h
 | o :: r,i,w,h=>by
  rcases aX.1 h with h|h
  ·unfold yU at h;split at h
   ·rename_i hz;obtain⟨h1,_,h3,h4,h5⟩:=pF _ _ _ _ _ w h;exact⟨⟨0,Nat.zero_lt_succ _,h1,by simpa using hz,h3,h4⟩,h5⟩
   ·cases h
  ·obtain⟨⟨j,hj,h1,h2,h3,h4⟩,h5⟩:=pE all e r (i+1) w h;refine⟨⟨j+1,Nat.succ_lt_succ hj,h1,h2,?_,?_⟩,h5⟩
   ·rw[h3,show i+1+j=i+(j+1) by omega]
   ·rw[show i+(j+1)=i+1+j by omega];exact h4
theorem uZ (all:List aG)(e:Bool):∀ (l:List aE) (i:Nat),(l.Pairwise fun a b=>a.id < b.id)->(gS all e i l).Pairwise Fg
 | [],_,_=>List.Pairwise.nil
 | o :: r,i,h=>by
  obtain⟨h1,h2⟩:=List.pairwise_cons.1 h;rw[gS];refine List.pairwise_append.2 ⟨?_,uZ all e r (i+1) h2,fun x hx y hy=>?_⟩
  ·unfold yU;split
   ·exact A9 _ _ _ _ _
   ·exact List.Pairwise.nil
  ·unfold yU at hx;split at hx
   ·obtain⟨g1,_⟩:=pF _ _ _ _ _ x hx;obtain⟨⟨j,hj,g2,_⟩,_⟩:=pE all e r (i+1) y hy;exact .inl (by rw[g1,g2];exact h1 _ (aI hj))
   ·cases hx
theorem ZL {p:aE->Bool}{l:List aE}:decide (jS p l>=0)=l.any p:=by
 rcases im p l with⟨h,h2,h3⟩|⟨i,hi,h,h2⟩
 ·rw[h]
  have:l.any p=false:=by
   rw[List.any_eq_false];intro x hx;have:=List.find?_eq_none.1 h3 x hx;simpa using this
  rw[this];rfl
 ·rw[h]
  have:l.any p=true:=by
   rw[List.any_eq_true]
   exact⟨l[i],aI hi,by
    have:=h2
    grind [List.findIdx?_eq_some_iff_getElem]⟩
  rw[this];simp
theorem Is {s:aA}{L:List bN}:∀ (f k:Nat) (w:Wd),pr s L w->pr s L (AQ s L f k w)
 | 0,_,_,h=>h
 | f+1,k,w,h=>by
  unfold AQ;exact Is f _ _ (Gk h _)
theorem SC {cards:List bX}{s:aA}(mc:∀ y∈cards,bX.ok y)(hs:s.ok)(ho:s.aa.length<=4000)(hn:(ajR cards s).length<=1000000):(ahV cards s).length=s.aa.length/\∀ y∈ahV cards s,aG.ok y:=by
 have h:=Is 8 1 _ (H4 mc hs ho hn);exact⟨h.all,h.ok⟩
def OS (a b:aG):Prop:=b.aT=[]\/b.aT=a.aT
theorem OS.trans {a b c:aG}(h1:OS a b)(h2:OS b c):OS a c:=by
 rcases h2 with h|h
 ·exact .inl h
 ·rcases h1 with h1|h1
  ·exact .inl (h.trans h1)
  ·exact .inr (h.trans h1)
theorem ik {c:Prop}[Decidable c]{a x y:aG}(h1:OS a x)(h2:OS a y):OS a (if c then x else y):=by
 split
 ·exact h1
 ·exact h2
theorem Sx {t:aG}{m:eb}{you n:Int}:OS t (AP t m you n):=by
 have r:∀ {x:aG},x.aT=t.aT->OS t x:=fun h=>.inr h;unfold AP;exact ik (r rfl) (ik (r rfl) (ik (r rfl) (ik (r rfl) (ik (r rfl) (ik (r rfl) (ik (r rfl) (ik (r rfl) (ik (r rfl) (ik (r rfl) (ik (.inl rfl) (ik (r rfl) (ik (r rfl) (ik (r rfl) (ik (r rfl) (r rfl)))))))))))))))
theorem zK {aP you:Int}{jQ:List Int}:∀ {l:List eb} {t:aG} {n:Nat},OS t (rV aP you jQ t l n)
 | [],_,_=>.inr rfl
 | m :: r,t,n=>by
  unfold rV;split
  ·exact Sx.trans zK
  ·exact zK
def SO (cards:List bX)(s:aA)(l:List aG):Prop:=∀ (k:Nat) t,l[k]? = some t->∃ o,s.aa[k]? = some o/\OS (ofM cards o) t
theorem WR {cards:List bX}{s:aA}{w:Wd}(h:SO cards s w.all)(f:bN)(i:Nat)(aP:Int):SO cards s (qF s f w i aP).all:=by
 unfold qF;split
 ·intro k t ht;have ht:(kS (A4 s f w i aP) s.aa.length w.all)[k]? = some t:=ht;rw[oT] at ht
  cases hq:w.all[k]? with
  | none=>rw[hq] at ht;cases ht
  | some t0=>
   rw[hq] at ht;have ht:(if k < s.aa.length then A4 s f w i aP k t0 else t0)=t:=aR ht;obtain⟨o,h1,h2⟩:=h k t0 hq;refine⟨o,h1,h2.trans ?_⟩;rw[<- ht];split
   ·unfold A4;split
    ·exact zK
    ·exact .inr rfl
   ·exact .inr rfl
 ·exact h
theorem WQ {cards:List bX}{s:aA}{w:Wd}(h:SO cards s w.all):SO cards s (Of s w).all:=fun k t ht=>by
 have ht:((s.aa.zip w.all).map fun p=>jT p.1 p.2)[k]? = some t:=ht;rw[bp] at ht
 cases hq:(s.aa.zip w.all)[k]? with
 | none=>rw[hq] at ht;cases ht
 | some p=>
  rw[hq] at ht;have ht:jT p.1 p.2=t:=aR ht;obtain⟨h1,h2⟩:=List.getElem?_zip_eq_some.1 hq;obtain⟨o,h3,h4⟩:=h k p.2 h2;refine⟨o,h3,h4.trans ?_⟩;rw[<- ht];unfold jT;split
  ·exact .inr rfl
  ·exact .inr rfl
theorem OC {cards:List bX}{s:aA}{L:List bN}{aP:Int}:∀ (f:Nat) (w:Wd) (m o:List Int),SO cards s w.all->SO cards s (xj s L aP f w m o).1.all
 | 0,_,_,_,h=>h
 | f+1,w,m,o,h=>by
  unfold xj;exact OC f _ _ _ (WR h _ _ _)
theorem OD {cards:List bX}{s:aA}{L:List bN}:∀ (f k:Nat) (w:Wd),SO cards s w.all->SO cards s (AQ s L f k w).all
 | 0,_,_,h=>h
 | f+1,k,w,h=>by
  unfold AQ;refine OD f _ _ ?_;unfold aeT;refine OC _ _ _ _ ?_;split
  ·exact WQ h
  ·exact h
theorem Ir (cards:List bX)(s:aA):SO cards s (ahV cards s):=by
 refine OD 8 1 _ fun k t ht=>?_;have ht:(s.aa.map (ofM cards))[k]? = some t:=ht;rw[bp] at ht
 cases hq:s.aa[k]? with
 | none=>rw[hq] at ht;cases ht
 | some o=>
  rw[hq] at ht;exact⟨o,rfl,.inr (by rw[<- aR ht])⟩
theorem allM_nil {cards:List bX}{s:aA}(h:ajR cards s=[]):ahV cards s=(s.aa.zip (s.aa.map (ofM cards))).map fun p=>jT p.1 p.2:=by
 unfold ahV;rw[h];rfl
theorem GQ {cards:List bX}{n:Nat}(h:∀ c∈cards,c.aT.length<=n)(o:aE):(ofM cards o).aT.length<=n:=by
 have key:∀ (t:aG) (c:Int),t.aT.length<=n->({ t with aaB:=c }:aG).aT.length<=n:=fun _ _ h=>h;unfold ofM;refine key _ _ ?_;generalize (if o.copy < 0 then o.dK else o.copy)=i;split
 ·rename_i c hc;split at hc
  ·cases hc
  ·exact h c (aU hc)
 ·exact aD _
theorem Ou {cards:List bX}{s:aA}{n:Nat}(h:∀ c∈cards,c.aT.length<=n):∀ t∈ahV cards s,t.aT.length<=n:=fun t ht=>by
 obtain⟨k,hk,rfl⟩:=bB.1 ht;obtain⟨o,_,h2|h2⟩:=Ir cards s k _ (cD hk)
 ·rw[h2];exact aD _
 ·rw[h2];exact GQ h o
theorem Ph (id you:Int)(e:Bool):∀ (k:Nat) (l:List cz),(u4 id you e k l).length<=l.length:=Ba id you e
theorem A8 {all:List aG}{e:Bool}{n:Nat}(h:∀ t∈all,t.aT.length<=n):∀ (l:List aE) (i:Nat),(gS all e i l).length<=l.length*n
 | [],_=>aD _
 | o :: r,i=>by
  rw[gS,au,aq,Nat.add_mul,Nat.one_mul];have h1:=A8 h r (i+1) (e:=e)
  have h2:(yU all e i o).length<=n:=by
   unfold yU;split
   ·refine bd (Ph _ _ _ _ _) ?_;unfold gG
    cases hq:all[i]? with
    | none=>exact aD _
    | some t=>exact h t (aU hq)
   ·exact aD _
  omega
theorem CP (o:aE):∀ (l:List cz) (k:Nat),(ajW o k l).length<=l.length
 | [],_=>al _
 | a :: r,k=>by
  rw[ajW,au,aq];have:=CP o r (k+1);split <;> simp <;> omega
theorem NN {cards:List bX}{s:aA}{n:Nat}(h:∀ c∈cards,c.aT.length<=n):(ajR cards s).length<=s.aa.length*n+s.dG.length:=by
 unfold ajR;rw[au,Lm,List.length_flatMap];refine Nat.add_le_add_right (Gh (fun o=>(kF cards o).length) n (fun o=>?_) s.aa) _;unfold kF;split
 ·exact bd (CP o _ 0) (GQ h o)
 ·exact aD _
end
section
open Go Cg Go.RowKit Go.Sort


theorem akN (a:bX)(ha:a.ok)(Wa:8 < a.aT.length):∃ r:Bool,r=false/\Ct ae 38 [.agg (a.enc.map .t)] (aB0 r) [] true:=by
 have CH:=ha;obtain⟨S8,S7,S6,S5⟩:=CH;refine db (Φ:=fun (r:Bool)=>r=false) dc (cX Tryz.func38 rfl (by kernel_rfl) rfl (aBX [] [1002,3] ?_))
 repeat' (first|(exfalso;(simp only[Lm] at *);omega)|(apply bY <;> intro _)|(apply dx <;> intro _)|apply cy|(apply cS <;> intro _)|(apply bL;exact Ei [] (Ai rfl (Ai trivial rfl));exact(rfl);rfl)|(apply ee 1002 rfl;refine aB3 (α:=Bool) 1002 (fun p=>[(36,aB0 p)]) (fun _=>True) [1] [0] 200000 rfl ?_;refine Ai (aBX [] [1002,3] ?_) (fun _ _=>aBX [] [1002,3] ?_))|(apply ee 3 rfl;refine aB3 (α:=Unit) 3 (fun _=>[]) (fun _=>True) [1] [0] 300000 rfl ?_;refine Ai (aBX [] [1002,3] ?_) (fun _ _=>aBX [] [1002,3] ?_))|(apply ee 1004 rfl;refine aB3 (α:=Bool) 1004 (fun p=>[(75,aB0 p)]) (fun _=>True) [1] [0] 400000 rfl ?_;refine Ai (aBX [] [1002,3] ?_) (fun _ _=>aBX [] [1002,3] ?_))|(apply ee 5 rfl;refine aB3 (α:=Unit) 5 (fun _=>[]) (fun _=>True) [1] [0] 500000 rfl ?_;refine Ai (aBX [] [1002,3] ?_) (fun _ _=>aBX [] [1002,3] ?_))|(apply ee 8 rfl;refine aB3 (α:=Int) 8 (fun p=>[(3,aBZ p)]) (fun _=>True) [1,4] [0] 600000 rfl ?_;refine Ai (aBX [] [1002,3] ?_) (fun _ _=>aBX [] [1002,3] ?_))|(apply eX 7 rfl;refine gP.up (β:=Int) 7 4 ((((a.aT.map cz.enc).length:Nat):Int)) (by first|omega|exact gV (by first|assumption|exact eO ‹_› ‹_› | exact eV _ ‹_›) rfl) (by omega) (fun p=>[(3,aBZ p)]) (fun _ _=>True) [1] [0] 700000 rfl ?_;refine Ai ?_ (fun _ _ _ _ _=>aBX [] [1002,3] ?_))|exact Ei () (Ai (trivial) (cE rfl rfl rfl rfl))|exact Ei _ (Ai (trivial) (cE rfl rfl rfl rfl))|exact Ai (by first|assumption|omega) (Ei _ (Ai (trivial) (cE rfl rfl rfl rfl)))|(apply jf;(first|assumption|omega|(simp only[ak,dM,aq,aw];omega)|(simp only[Lm] at *;omega)|decide);(first|assumption|omega|(simp only[ak,dM,aq,aw];omega)|(simp only[Lm] at *;omega)|decide);intro _ _)|(apply bj 79;refine cY (SX _) ⟨rfl,trivial⟩ (fun _ _=>?_))|(apply bj 80;refine cY (SW _) ⟨fL (eB.enc _),trivial⟩ (fun _ _=>?_))|(apply bj 81;refine cY (ajV _ (by first|assumption|exact eO ‹_› ‹_› | exact eV _ ‹_›)) ⟨fL (jv.enc _),trivial⟩ (fun _ _=>?_))|(apply bj 82;refine cY (Yl _) ⟨rfl,trivial⟩ (fun _ _=>?_))|(apply bj 83;refine cY (abN _ (by first|assumption|exact eO ‹_› ‹_› | exact eV _ ‹_›)) ⟨fL (bX.enc _),trivial⟩ (fun _ _=>?_))|(apply bj 84;refine cY (Yf _ (by first|assumption|exact eO ‹_› ‹_› | exact eV _ ‹_›)) ⟨fL (cz.enc _),trivial⟩ (fun _ _=>?_))|(apply bj 85;refine cY (ahA _ (by first|assumption|exact eO ‹_› ‹_› | exact eV _ ‹_›)) ⟨fL (bX.enc _),trivial⟩ (fun _ _=>?_)))
section
theorem aiG (c:bX)(h:c.ok):∃ r:Bool,(r=true->c.aT.length<=8)/\Ct ae 38 [.agg (c.enc.map .t)] (aB0 r) [] true:=by
 by_cases hb:8 < c.aT.length
 ·obtain⟨r,hr,A3⟩:=akN c h hb;exact⟨r,(fun e=>by rw[hr] at e;cases e),A3⟩
 ·obtain⟨r,_,A3⟩:=amM c h;exact⟨r,(fun _=>by omega),A3⟩
open Classical in
noncomputable def isB (c:bX):Bool:=if h:c.ok then Classical.choose (aiG c h) else false
theorem alM (c:bX)(h:c.ok):Ct ae 38 [.agg (c.enc.map .t)] (aB0 (isB c)) [] true:=by
 unfold isB;rw[dif_pos h];exact(Classical.choose_spec (aiG c h)).2
theorem ajQ {c:bX}(h:isB c=true):c.aT.length<=8:=by
 unfold isB at h;split at h
 ·rename_i hc;exact(Classical.choose_spec (aiG c hc)).1 h
 ·cases h
open Classical in
noncomputable def fiI (l:List bX)(n:ByteArray):Int:=if h:l.length*176<=ba/\∀ y∈l,bX.ok y then Classical.choose (agX l n h.1 h.2) else 0
theorem alX (l:List bX)(n:ByteArray)(h1:l.length*176<=ba)(h2:∀ y∈l,bX.ok y):Ct ae 39 [.c (.t (.sl 17 (l.map bX.enc))),AV.s n] (aBZ (fiI l n)) [] true:=by
 unfold fiI;rw[dif_pos ⟨h1,h2⟩];exact(Classical.choose_spec (agX l n h1 h2)).2
open Classical in
noncomputable def crB (l:List bX)(c:bX):Bool:=if h:(l.length*176<=ba/\∀ y∈l,bX.ok y)/\c.ok then Classical.choose (acO l c h.1.1 h.1.2 h.2) else false
theorem alY (l:List bX)(c:bX)(h1:l.length*176<=ba)(h2:∀ y∈l,bX.ok y)(h3:c.ok):Ct ae 40 [.c (.t (.sl 17 (l.map bX.enc))),.agg (c.enc.map .t)] (aB0 (crB l c)) [] true:=by
 unfold crB;rw[dif_pos ⟨⟨h1,h2⟩,h3⟩];exact(Classical.choose_spec (acO l c h1 h2 h3)).2
noncomputable def ahM (l:List bX):Nat->List bX->Int × Int
 | _,[]=>(-1,0)
 | k,c :: r=>if isB c=false then((k:Int),9) else if fiI l c.name < (k:Int) then((k:Int),6) else if crB l c=false then((k:Int),7) else ahM l (k+1) r
noncomputable def afG (l:List bX):Int × Int:=if 256 < l.length then(-1,5) else ahM l 0 l
theorem agC {l:List bX}:∀ (r:List bX) (k:Nat),(ahM l k r).2=0->∀ c∈r,c.aT.length<=8
 | [],_,_,_,h=>by cases h
 | x :: r,k,h,c,hc=>by
  unfold ahM at h;split at h
  ·cases h
  ·rename_i hb;split at h
   ·cases h
   ·split at h
    ·cases h
    ·rcases List.mem_cons.1 hc with rfl|hc
     ·exact ajQ (by simpa using hb)
     ·exact agC r (k+1) h c hc
theorem aiM {l:List bX}(h:(afG l).2=0):l.length<=256/\∀ c∈l,c.aT.length<=8:=by
 unfold afG at h;split at h
 ·cases h
 ·exact⟨by omega,agC l 0 h⟩
theorem ajT (l:List bX)(hl:l.length*176<=ba)(ml:∀ y∈l,bX.ok y):Ct ae 19 [.c (.t (.sl 17 (l.map bX.enc)))] (.fH [aBZ (afG l).1,aBZ (afG l).2]) [] true:=by
 refine aB4 (b:=false) ?_ rfl;generalize hM:afG l=M;unfold afG at hM;refine cT Tryz.func19 rfl (by kernel_rfl) rfl fun w0 O _=>aBW [] ?_;refine cS (fun h=>?_) (fun h=>?_)
 ·have h:256 < l.length:=by
   have:=of_decide_eq_true h;rw[Lm] at this;omega
  rw[if_pos h] at hM;subst hM;refine Ei [] ?_
  repeat' first|refine Ai ?_ ?_|exact rfl|exact⟨⟩|exact Ei _ rfl
 ·have h:¬ 256 < l.length:=by
   have:=of_decide_eq_false h;rw[Lm] at this;omega
  rw[if_neg h] at hM;refine aBY (fun k:Nat=>⟨[(0,.c (.t (.sl 17 (l.map bX.enc)))),(4,aBZ k)],[],[],10000⟩) (fun k=>k<=l.length/\ahM l k (l.drop k)=M) (fun k=>l.length - k) 0 ?_ ⟨aD _,hM⟩ ?_
  ·refine bh [] rfl rfl ?_ ?_ ?_
   all_goals repeat' first|refine Ai ?_ ?_|exact rfl|exact⟨⟩|exact Ei _ rfl
  rintro k ⟨hk,he⟩;refine aBW [] ?_;refine cS (fun h=>?_) (fun h=>?_)
  ·have aS:k < l.length:=cN h;have hco:=ml _ (aI aS);rw[dw aS,ahM] at he;refine Ei k (Ei (l[k].enc) (Ai rfl (Ai (aQ _ _ k aS) ?_)));refine cF (alM l[k] hco) ⟨fL l[k].enc,trivial⟩ ?_;refine cy (cS (fun h1=>?_) (fun h1=>?_))
   ·rw[if_neg (by rw[show isB l[k]=true from h1];decide)] at he;refine Ei k (Ei (l[k].enc) (Ai rfl (Ai (aQ _ _ k aS) ?_)));refine cF (alX l l[k].name hl ml) ⟨rfl,rfl,trivial⟩ ?_;refine cS (fun h2=>?_) (fun h2=>?_)
    ·rw[if_pos (of_decide_eq_true h2)] at he;subst he;refine Ei [] ?_
     repeat' first|refine Ai ?_ ?_|exact rfl|exact⟨⟩|exact Ei _ rfl
    ·rw[if_neg (of_decide_eq_false h2)] at he;refine Ei k (Ei (l[k].enc) (Ai rfl (Ai (aQ _ _ k aS) ?_)));refine cF (alY l l[k] hl ml hco) ⟨rfl,fL l[k].enc,trivial⟩ ?_;refine cy (cS (fun h3=>?_) (fun h3=>?_))
     ·rw[if_neg (by rw[show crB l l[k]=true from h3];decide)] at he
      (try refine aBW [] ?_)
      refine Ei (k+1) (Ai ⟨aS,he⟩ (Ai (show l.length - (k+1) < l.length - k by omega) ?_));refine bh [] rfl rfl ?_ ?_ ?_
      ·repeat' first|refine Ai ?_ ?_|exact rfl|exact⟨⟩|exact Ei _ rfl
       exact ed k aS 176 (by decide) hl
      all_goals repeat' first|refine Ai ?_ ?_|exact rfl|exact⟨⟩|exact Ei _ rfl|refine aj ?_|refine bS ?_
     ·rw[if_pos (show crB l l[k]=false from h3)] at he;subst he;refine Ei [] ?_
      repeat' first|refine Ai ?_ ?_|exact rfl|exact⟨⟩|exact Ei _ rfl
   ·rw[if_pos (show isB l[k]=false from h1)] at he;subst he;refine Ei [] ?_
    repeat' first|refine Ai ?_ ?_|exact rfl|exact⟨⟩|exact Ei _ rfl
  ·have fS:k=l.length:=cP h hk;rw[fS,List.drop_eq_nil_of_le (al _)] at he;have he:((-1:Int),(0:Int))=M:=he;subst he;refine Ei [] ?_
   repeat' first|refine Ai ?_ ?_|exact rfl|exact⟨⟩|exact Ei _ rfl
end
noncomputable def agE (l:List bX)(s:aA):Bool:=(afG l).2==0&&kh S1 ((l.length:Nat):Int) s
theorem aiR (l:List bX)(s:aA)(hl:l.length*176<=ba)(ml:∀ y∈l,bX.ok y)(hs:s.ok):Ct ae 8 [.c (.t (.sl 17 (l.map bX.enc))),.agg (s.enc.map .t)] (aB0 (agE l s)) [] true:=by
 refine aB4 (b:=false) ?_ rfl;generalize hM:agE l s=M;unfold agE at hM;refine cT Tryz.func8 rfl (by kernel_rfl) rfl fun w0 O _=>aBW [] ?_;refine cF (ajT l hl ml) ⟨rfl,trivial⟩ ?_;refine cS (fun h=>?_) (fun h=>?_)
 ·rw[show((afG l).2==0)=true from h,Bool.true_and] at hM;refine cF (amK l s hl ml hs) ⟨rfl,fL s.enc,trivial⟩ ?_;subst hM;refine Ei [] ?_
  repeat' first|refine Ai ?_ ?_|exact rfl|exact⟨⟩|exact Ei _ rfl
 ·rw[show((afG l).2==0)=false from h,Bool.false_and] at hM;subst hM;refine Ei [] ?_
  repeat' first|refine Ai ?_ ?_|exact rfl|exact⟨⟩|exact Ei _ rfl
theorem aiQ {l:List bX}{s:aA}(h:agE l s=true):(l.length<=256/\∀ c∈l,c.aT.length<=8)/\kh S1 ((l.length:Nat):Int) s=true:=by
 unfold agE at h;rw[ag] at h;exact⟨aiM (by simpa using h.1),h.2⟩
structure xf (cards:List bX)(s:aA):Prop where
 hc:cards.length*176<=ba
 mc:∀ y∈cards,bX.ok y
 h:s.ok
 te:∀ c∈cards,c.aT.length<=8
 len:s.aa.length<=2048
 ct:s.dG.length<=64
 qN:s.aa.Pairwise fun a b=>a.id < b.id
theorem ajP {q:tp}{c:Int}{s:aA}(h:kh q c s=true):s.bE<=1000000/\s.bQ<=1000000:=by
 unfold kh isA at h;simp only[ag,cb,decide_eq_false_iff_not] at h;obtain⟨⟨a1,a2,_⟩,_⟩:=h;rw[qo] at a1 a2;exact⟨a1.2,a2.2⟩
theorem xf.akU {l:List bX}{s:aA}(h:agE l s=true)(hl:l.length*176<=ba)(ml:∀ y∈l,bX.ok y)(hs:s.ok):xf l s/\jE S1 l.length s/\(s.bE<=1000000/\s.bQ<=1000000):=by
 obtain⟨⟨_,h2⟩,h3⟩:=aiQ h;have V:=T2 h3;have a1:=V.ER;have a2:=V.Wx.1;exact⟨⟨hl,ml,hs,h2,by omega,by omega,V.qN⟩,V,ajP h3⟩
theorem xf.many {cards:List bX}{s:aA}(H:xf cards s):(ajR cards s).length<=1000000:=by
 have:=NN (s:=s) H.te;have h1:=H.len;have h2:=H.ct;omega
theorem xf.DC {cards:List bX}{s:aA}(H:xf cards s):(ahV cards s).length=s.aa.length/\∀ y∈ahV cards s,aG.ok y:=SC H.mc H.h (bd H.len (by decide)) H.many
theorem xf.WK {cards:List bX}{s:aA}(H:xf cards s):(ahV cards s).length*176<=ba:=by
 rw[H.DC.1];have h1:=H.len;unfold ba;omega
theorem xf.all {cards:List bX}{s:aA}(H:xf cards s):Ct ae 11 [.c (.t (.sl 17 (cards.map bX.enc))),.agg (s.enc.map .t)] (.c (.t (.sl 17 ((ahV cards s).map aG.enc)))) [] false:=Z7 cards s H.hc H.mc H.h (bd H.len (by decide)) H.many
theorem xf.XN {cards:List bX}{s:aA}(H:xf cards s)(e:Bool):(gS (ahV cards s) e 0 s.aa).length<=20000:=by
 have:=A8 (all:=ahV cards s) (e:=e) (n:=8) (Ou H.te) s.aa 0;have h1:=H.len;omega
theorem xf.SS {cards:List bX}{s:aA}(H:xf cards s)(e:Bool):∀ w∈gS (ahV cards s) e 0 s.aa,w.ai.ok:=fun w hw=>by
 obtain⟨⟨j,hj,_,_,_,h4⟩,_⟩:=pE _ _ _ _ w hw;exact(yZ H.DC.2 _).2.2.2 _ h4
noncomputable def Lw (cards:List bX)(s t:aA)(e:bV):fx:=⟨s,t,ahV cards s,ahV cards t,e⟩
noncomputable def DU (cards:List bX)(s t:aA)(e:bV):List bW:=sq (Lw cards s t e)
theorem R6 {cards:List bX}{s t:aA}(e:bV)(H:xf cards s)(K:xf cards t):Ct ae 13 [.agg (s.enc.map .t),.c (.t (.sl 17 ((ahV cards s).map aG.enc))),.agg (t.enc.map .t),.c (.t (.sl 17 ((ahV cards t).map aG.enc))),.agg (e.enc.map .t)] (.c (.t (.sl 89 ((DU cards s t e).map bW.enc)))) [] false:=
 NS (Lw cards s t e) (bd H.len (by decide)) (bd K.len (by decide)) K.h H.WK K.WK H.DC.2 K.DC.2 (bd (H.XN true) (by decide)) (bd (K.XN false) (by decide)) fun w hw=>by
  rcases aX.1 hw with hw|hw
  ·exact H.SS true w hw
  ·exact K.SS false w hw
theorem alV {cards:List bX}{s t:aA}{e:bV}{x:bW}(h:x∈DU cards s t e):∃ w,(w∈gS (ahV cards s) true 0 s.aa\/w∈gS (ahV cards t) false 0 t.aa)/\x∈aaL (Lw cards s t e) w:=by
 obtain⟨w,hw,hx⟩:=List.mem_flatMap.1 h;exact⟨w,aX.1 ((Ee _).mem_iff.1 hw),hx⟩
theorem abF {c:fx}{w:aF}{x:bW}(h:x∈aaL c w):x.fp=w.id/\x.aaB=w.you/\x.ai=w.ai:=by
 unfold aaL at h;split at h
 ·split at h
  ·rw[aJ.1 h];exact⟨rfl,rfl,rfl⟩
  ·cases h
 ·obtain⟨i,_,rfl⟩:=bA.1 h;exact⟨rfl,rfl,rfl⟩
theorem alW {cards:List bX}{s t:aA}{e:bV}(H:xf cards s)(K:xf cards t):(DU cards s t e).length*768<=ba:=by
 have h1:=H.XN true;have h2:=K.XN false;have h3:=K.len
 have h4:(DU cards s t e).length<=40000*2049:=by
  unfold DU sq;rw[List.length_flatMap];refine bd (Lg (fun w=>(aaL (Lw cards s t e) w).length) 2049 (fun w=>bd (Bb _ w) (by show t.aa.length+1<=2049;omega)) _) ?_;refine cw _ ?_;rw[(Ee _).length_eq,au];show(gS (ahV cards s) true 0 s.aa).length+(gS (ahV cards t) false 0 t.aa).length<=_;omega
 unfold ba;omega
noncomputable def qJ (cards:List bX)(s:aA)(e:bV):aA:=wG cards s (ahV cards s) e
theorem xf.doh {cards:List bX}{s:aA}(H:xf cards s)(V:jE S1 cards.length s)(hn:s.bE<=1000000/\s.bQ<=1000000):Pe S1 cards s (ahV cards s):=⟨H.hc,H.mc,H.h,H.WK,H.DC.2,V,hn⟩
theorem xf.Ox {cards:List bX}{s:aA}(H:xf cards s)(D:Pe S1 cards s (ahV cards s))(e:bV):xf cards (qJ cards s e):=by
 have R:=D.res e;exact⟨H.hc,H.mc,R.ok,H.te,R.len,by show(wG cards s (ahV cards s) e).dG.length<=64;rw[R.ct];exact H.ct,R.qN⟩
theorem Ov {cards:List bX}{s:aA}(H:xf cards s)(D:Pe S1 cards s (ahV cards s))(e:bV):Ct ae 10 [.c (.t (.sl 17 (cards.map bX.enc))),.agg (s.enc.map .t),.agg (e.enc.map .t)] (.agg ((qJ cards s e).enc.map .t)) [] false:=by
 have h1:=H.all;have h2:=Yd D (e:=e);generalize hM:qJ cards s e=M;unfold qJ at hM;rw[hM] at h2;generalize ahV cards s=L at *;refine cT Tryz.func10 rfl (by kernel_rfl) rfl fun w0 O _=>aBW [] ?_;refine cR h1 ⟨rfl,fL s.enc,trivial⟩ ?_;refine cR h2 ⟨rfl,fL s.enc,rfl,fL e.enc,trivial⟩ ?_;refine Ei [] ?_
 repeat' first|refine Ai ?_ ?_|exact rfl|exact⟨⟩|exact Ei _ rfl
theorem lL {cards:List bX}{s:aA}(H:xf cards s)(D:Pe S1 cards s (ahV cards s))(e:bV):Ct ae 15 [.c (.t (.sl 17 (cards.map bX.enc))),.agg (s.enc.map .t),.agg (e.enc.map .t)] (.c (.t (.sl 89 ((DU cards s (qJ cards s e) e).map bW.enc)))) [] false:=by
 have h1:=Ov H D e;have K:=H.Ox D e;generalize qJ cards s e=t at *;have h2:=H.all;have h3:=K.all;have h4:=R6 e H K;generalize DU cards s t e=M at *;generalize ahV cards s=L1 at *;generalize ahV cards t=L2 at *;refine cT Tryz.func15 rfl (by kernel_rfl) rfl fun w0 O _=>aBW [] ?_;refine cR h1 ⟨rfl,fL s.enc,fL e.enc,trivial⟩ ?_;refine cR h2 ⟨rfl,fL s.enc,trivial⟩ ?_;refine cR h3 ⟨rfl,fL t.enc,trivial⟩ ?_;refine cR h4 ⟨fL s.enc,rfl,fL t.enc,rfl,fL e.enc,trivial⟩ ?_;refine Ei [] ?_
 repeat' first|refine Ai ?_ ?_|exact rfl|exact⟨⟩|exact Ei _ rfl
end
section
open Go Cg Go.RowKit
def p20:cq:=⟨20,0,0,0,0,0,0,0,0,false,false,[],[],[]⟩
def MB (gq:Int):aA:=⟨[p20,p20],[],[],[],[],[],[],0,0,0,false,0,0,1,1,gq,[],0,-1⟩
def vo:List Tr:=[iv 20,iv 0,iv 0,iv 0,iv 0,iv 0,iv 0,iv 0,iv 0,bv false,bv false,.sl 0 [],.sl 0 [],.sl 0 []]
theorem Gw:Pc vo p20.enc:=by repeat' constructor
def RU (you:Int)(i:Nat):aE:={ id:=(i+1:Nat),dK:=0,fG:=you,aaB:=you,cg:=0,token:=false,eR:=false,oY:=false,jj:=false,fD:=0,cL:=0,cK:=0,dh:=0,du:=(i+1:Nat),copy:=-1,jD:=-1,blocked:=false,blocks:=0,nh:=0 }
def kE (you:Int)(k:Nat):List aE:=(List.range k).map (RU you)
def xx (k:Nat):List Int:=(List.range k).map fun i=>((i+1:Nat):Int)
def eD (you:Int)(k:Nat):aA:={ MB 1 with aa:=kE you k,bw:=xx k,bE:=(k+1:Nat),bQ:=(k+1:Nat) }
theorem JY (you:Int)(k:Nat):kE you (k+1)=kE you k++[RU you k]:=by
 unfold kE;rw[List.range_succ,aW];rfl
theorem JZ (k:Nat):xx (k+1)=xx k++[((k+1:Nat):Int)]:=by
 unfold xx;rw[List.range_succ,aW];rfl
theorem jt (you:Int)(k:Nat):(kE you k).length=k:=by simp[kE]
theorem wu (k:Nat):(xx k).length=k:=by simp[xx]
def eJ:cC:=⟨0,0,0,0,0,0,0,⟨#[]⟩,0,0,⟨0,0⟩,⟨0,0⟩,⟨0,0⟩⟩
def oZ:cC:={ eJ with self:=1 }
def Wq:cZ:=⟨4,⟨1,0,eJ⟩,⟨0,1,0,eJ⟩,0,0,⟨#[]⟩,eJ,0,0,0,0,0,0,[]⟩
def SP:eB:=⟨0,0,0,0,0,0,0⟩
def jg (t:eh):cz:=⟨4,eJ,[],⟨SP,false,false,0⟩,false,t,false,[],[Wq],⟨0,0,eJ,0,0,0,0⟩⟩
def ea (t:eh):bX:=⟨⟨#[102,111,120]⟩,false,SP,0,⟨0,1,[]⟩,1,1,0,[jg t]⟩
theorem fg:eJ.ok:=⟨trivial,trivial,trivial⟩
theorem RW:Wq.ok:=⟨fg,fg,fg,aD _,fun _ h=>by cases h⟩
theorem RY (t:eh)(h:t.ok):(jg t).ok:=by
 refine⟨fg,aD _,(fun _ h=>by cases h),trivial,h,aD _,(fun _ h=>by cases h),?_,fun y hy=>?_,fg⟩
 ·show 1*560<=ba;unfold ba;omega
 ·rw[aJ.1 hy];exact RW
theorem RX (t:eh)(h:t.ok):(ea t).ok:=by
 refine⟨trivial,aD _,?_,fun y hy=>?_⟩
 ·show 1*640<=ba;unfold ba;omega
 ·rw[aJ.1 hy];exact RY t h
theorem Wo:∀ n:Fin 21,kh S1 1 (eD 0 n.val)=true/\kh S1 1 (eD 1 n.val)=true:=by decide +kernel
end
end Go.Proofs.YtbmdcnkidjlbbaaGreat
namespace Cg
section
open Go Go.RowKit Go.Sort Go.Lib
section
variable {P:Program}{T:Nat->Option Ty}{O:gD}[GlC O]{N:Nat}{w0:World}
def xe (P:Program)(T:Nat->Option Ty)(N:Nat)(w0:World)(O:gD)(ops:Array Oper)(j:Nat)(st:St)(Q:Ex->St->Prop):Prop:=
 dg P T->jG N ops false=true->∀ E a w,aaP O E w w0.heap.size N st a->Below w0.heap.size w0 w->wpOpsIn (wid none) 0 P ops (kR w0 N O Q) (List.range' j (ops.size - j)) a w
omit [GlC O] in
theorem xe.start {id:Nat}{ops:Array Oper}{st:St}{Q:Ex->St->Prop}(h:xe P T N w0 O ops 0 st Q):Tp P T N w0 O (.region id ops false) st Q:=fun hT hc E a w r hb=>by
 refine(wpIn_wide (n:=0)).1 (wpIn_region ?_);rw[List.range_eq_range'];exact h hT hc E a w r hb
omit [GlC O] in
theorem xe.wk [en O]{ops:Array Oper}{j:Nat}{st cJ:St}{Q:Ex->St->Prop}(hw:Wk st cJ)(h:xe P T N w0 O ops j cJ Q):xe P T N w0 O ops j st Q:=fun hT hc E a w r hb=>by
 obtain⟨E',r'⟩:=hw O E w _ N a r;exact h hT hc E' a w r' hb
omit [GlC O] in
theorem xe.lW [en O](ms:List Nat){ops:Array Oper}{j:Nat}{st:St}{Q:Ex->St->Prop}(h:xe P T N w0 O ops j (Cg.lW ms st) Q):xe P T N w0 O ops j st Q:=xe.wk (Wk.lW ms st) h
omit [GlC O] in
theorem xe.done {ops:Array Oper}{j:Nat}{st:St}{Q:Ex->St->Prop}(hj:Nat.ble ops.size j=true)(h:Q .ic st):xe P T N w0 O ops j st Q:=fun _ _ E a w r hb=>by
 have:=Nb hj;rw[show ops.size - j=0 by omega];exact⟨st,E,h,r,hb⟩
theorem xe.run (n:Nat){ops:Array Oper}{j:Nat}{st:St}{Q:Ex->St->Prop}(n9:ops.toList.all vJ=true)(hn:Nat.ble (j+n) ops.size=true)(h:ju P T ops st.nx 0 ((ops.toList.drop j).take n) st fun mK=>match mK with
  | ⟨sl,bx,rw,_⟩=>mA (st.nx+128*n) fun nx=>xe P T N w0 O ops (j+n) ⟨sl,bx,rw,nx⟩ Q):xe P T N w0 O ops j st Q:=fun hT hc E a w r hb=>by
 have hn:=Nb hn;obtain⟨L,hL,hp,cJ,hK,he⟩:=iK ((ops.toList.drop j).take n) [] st _ (jV.refl _) (fun j o d hj=>by simp at hj) h;rw[bF] at hp he
 have hlen:L.length=n:=by
  rw[<- Lm (f:=(·.1)),hL,aB,aL,bD];omega
 have k0:=r.kb;have r0:ca O E w w0.heap.size N (st.nx+128*n) st a:=r.mono (by omega)
 rw[show List.range' j (ops.size - j)=List.range' (j+0) n++List.range' (j+n) (ops.size - (j+n)) by
  have:=List.range'_append_1 (s:=j) (m:=n) (n:=ops.size - (j+n));rw[cO,this,show n+(ops.size - (j+n))=ops.size - j by omega]]
 refine kf (ro:=none) hT hc n9 (fun i o d hi=>?_) hp k0 (m:=st.nx+128*n) (by rw[hlen];omega) n 0 E w a (by omega) (by simpa [bM] using r0) fun E1 w1 a1 r1 xw=>?_
 ·have:((ops.toList.drop j).take n)[i]? = some o:=by rw[<- hL,bp,hi];rfl
  rw[List.getElem?_take] at this;split at this
  ·rw[List.getElem?_drop,cp] at this;exact this
  ·cases this
 ·obtain⟨sl,bx,dB,nx⟩:=cJ;simp only[jZ] at hK;have VY:jV (bM st L) ⟨sl,bx,dB,st.nx+128*n⟩:=⟨he.sl,he.bx,he.rw⟩
  exact hK hT hc E1 a1 w1 (VY.rep r1) (hb.trans xw)
end
end
end Cg
namespace Go.Proofs.YtbmdcnkidjlbbaaGreat
section
open Go Cg Go.RowKit
def YD (gq:Int):List Ce:=((((MB gq).enc.map Ce.t).set 0 (.t (.sl 14 [vo,vo]))).set 1 .nil).set 2 .nil
theorem PU (gq:Int):Ct ae 37 [.c (.t (iv 2)),.c (.t (iv 0)),DN gq] (.agg (YD gq)) [] false:=by
 refine cT Tryz.func37 rfl (by kernel_rfl) rfl fun w0 O _=>aBW [7,8,10] ?_;refine aBY (fun k:Nat=>⟨[(1,.c (.t (iv 0))),(6,.ptr 0 0),(7,.c (.t (iv 2))),(8,.ptr 896 0),(9,aBZ k)],[(0,List.replicate 19 .bot),(896,((YD gq).set 0 (.row 9000 0)))],[(9000,⟨163,14,0,List.replicate k vo,none⟩)],10000⟩) (fun k=>k<=2) (fun k=>2 - k) 0 ?_ (aD _) ?_
 ·refine bh [] rfl rfl ?_ ?_ ?_
  all_goals repeat' first|refine Ai ?_ ?_|exact rfl|exact⟨⟩|exact Ei _ rfl
 rintro k hk;refine aBW [5,6,7] ?_;refine cS (fun hc=>?_) (fun hc=>?_)
 ·have aS:k < 2:=by have:=of_decide_eq_true hc;omega
  refine aBW [] ?_;refine Ai (.inl rfl) (Ai ?_ (Ai ?_ ?_))
  ·rw[cc];show(k+1)*152<=_;omega
  ·rw[cc];show k+1 < _;omega
  refine aBW [] ?_;refine Ei (k+1) (Ai (show k+1<=2 by omega) (Ai (show 2 - (k+1) < 2 - k by omega) ?_));refine bh [(9000,9000)] rfl rfl ?_ ?_ ?_
  all_goals repeat' first|refine Ai ?_ ?_|exact rfl|exact⟨⟩|exact Ei _ rfl|refine aj ?_|refine bS ?_
  exact congrArg iv (fU k (by omega));exact(List.replicate_succ' (n:=k) (a:=vo)).symm
 ·have:k=2:=by have:=of_decide_eq_false hc;omega
  subst this;refine aBW [] ?_;refine aBW [] ?_;refine aBW [] ?_;refine Ei [] ?_
  repeat' first|refine Ai ?_ ?_|exact rfl|exact⟨⟩|exact Ei _ rfl
attribute [local irreducible] xe
theorem yY {α:Type}(f:α->List Tr)(h:∀ x,Pc (f x) (f x)):∀ l:List α,SH (l.map f) (l.map f)
 | []=>.nil
 | x :: r=>.cons (h x) (yY f h r)
theorem Wm (you:Int)(n:Nat):Pc ((eD you n).enc.set 0 (.sl 14 [vo,vo])) (eD you n).enc:=by
 have h1:TS (.sl 19 ((kE you n).map aE.enc)) (.sl 19 ((kE you n).map aE.enc)):=.sl 19 (yY _ (fun o=>by repeat' constructor) _);have h2:TS (.sl 1 ((xx n).map eI)) (.sl 1 ((xx n).map eI)):=.sl 1 (yY _ (fun o=>by repeat' constructor) _);refine .cons ?_ (.cons h1 (.cons h2 ?_))
 ·exact .sl 14 (.cons Gw (.cons Gw .nil))
 ·repeat' constructor
def ZK (t:eh):Tr:=.sl 17 [((ea t).enc.set 12 (.sl 0 [])).set 16 (.sl 72 [(((jg t).enc.set 17 (.sl 0 [])).set 48 (.sl 0 [])).set 49 (.sl 64 [Wq.enc.set 63 (.sl 0 [])])])]
theorem Ap (t:eh):Ct ae 17 [.agg (t.enc.map .t)] (.c (.t (.sl 17 ([ea t].map bX.enc)))) [] false:=by
 refine Ct.ts1 (t:=ZK t) ?_ (by repeat' constructor);refine cT Tryz.func17 rfl (by kernel_rfl) rfl fun w0 O _=>aBW [2] ?_;refine xe.start (xe.run 4 rfl rfl ?_);refine xe.lW [] (xe.run 2 rfl rfl ?_);refine xe.lW [] (xe.run 3 rfl rfl ?_);refine xe.done rfl ?_;refine Ei [] ?_
 repeat' first|refine Ai ?_ ?_|exact rfl|exact⟨⟩|exact Ei _ rfl
def WC:List Ce:=((((MB 1).enc.map Ce.t).set 0 (.t (.sl 14 [vo,vo]))).set 1 (.row 9000 0)).set 2 (.row 9100 0)
theorem wq (n:Nat)(you:Int)(hn:n<=1000):Ct ae 18 [.c (.t (iv n)),.c (.t (iv you))] (.agg ((eD you n).enc.map .t)) [] false:=by
 refine Ct.ts (ts:=(eD you n).enc.set 0 (.sl 14 [vo,vo])) ?_ ?_
 case refine_2=>exact Wm you n
 refine cT Tryz.func18 rfl (by kernel_rfl) rfl fun w0 O _=>aBW [3,4,5,6,7,8,9] ?_;refine cR (PU 1) ⟨rfl,rfl,rfl,trivial⟩ ?_;refine aBW [] ?_;refine aBW [] ?_;refine aBY (fun k:Nat=>⟨[(0,aBZ n),(1,aBZ you),(4,.ptr 0 0),(5,.ptr 256 0),(6,aBZ ((k+1:Nat):Int))],[(0,List.replicate 19 .bot),(256,WC)],[(9000,⟨75,19,0,(kE you k).map aE.enc,none⟩),(9100,⟨3,1,0,(xx k).map eI,none⟩)],10000⟩) (fun k=>k<=n) (fun k=>n - k) 0 ?_ (aD _) ?_
 ·refine bh [] rfl rfl ?_ ?_ ?_
  all_goals repeat' first|refine Ai ?_ ?_|exact rfl|exact⟨⟩|exact Ei _ rfl
 rintro k hk;refine aBW [4,5,6,7] ?_;refine cS (fun hc=>?_) (fun hc=>?_)
 ·have aS:k < n:=by have:=of_decide_eq_true hc;omega
  (try refine aBW [] ?_)
  (try refine aBW [] ?_)
  refine Ai (.inl rfl) (Ai ?_ (Ai ?_ ?_))
  ·rw[Lm,jt];show(k+1)*128<=_;omega
  ·rw[Lm,jt];show k+1 < _;omega
  refine aBW [] ?_;refine Ai (.inl rfl) (Ai ?_ (Ai ?_ ?_))
  ·rw[Lm,wu];show(k+1)*8<=_;omega
  ·rw[Lm,wu];show k+1 < _;omega
  refine aBW [] ?_;refine Ei (k+1) (Ai (show k+1<=n by omega) (Ai (show n - (k+1) < n - k by omega) ?_));refine bh [(9000,9000),(9100,9100)] rfl rfl ?_ ?_ ?_
  all_goals repeat' first|refine Ai ?_ ?_|exact rfl|exact⟨⟩|exact Ei _ rfl|refine aj ?_|refine bS ?_
  exact congrArg iv (fU (k+1) (by omega))
  ·rw[JY,aW];rfl
  ·rw[JZ,aW];rfl
 ·have:k=n:=by have:=of_decide_eq_false hc;omega
  subst this;refine aBW [] ?_;refine aBW [] ?_
  (try refine aBW [] ?_)
  refine Ei [] ?_
  repeat' first|refine Ai ?_ ?_|exact rfl|exact⟨⟩|exact Ei _ rfl
  ·exact congrArg iv (fU k (by omega))
  ·exact congrArg iv (fU k (by omega))
section
variable {t:eh}{s T:aA}{e:bV}
theorem CM (o:aE):∀ a∈(ofM [ea t] o).aT,a=jg t:=by
 have key:∀ (x:aG) (c:Int),(∀ a∈x.aT,a=jg t)->∀ a∈({ x with aaB:=c }:aG).aT,a=jg t:=fun _ _ h=>h;unfold ofM;refine key _ _ ?_;generalize (if o.copy < 0 then o.dK else o.copy)=i;split
 ·rename_i c hc;split at hc
  ·cases hc
  ·have:=aU hc;rw[aJ.1 this];intro a ha;exact aJ.1 ha
 ·intro a ha
  cases ha
theorem Wp (b:Bool):∀ w∈gS (ahV [ea t] s) b 0 s.aa,w.ai=jg t/\xn t.when=b:=fun w hw=>by
 obtain⟨⟨j,hj,_,_,_,h4⟩,_,h5⟩:=pE _ _ _ _ w hw
 have ha:w.ai=jg t:=by
  rw[bu] at h4;unfold gG at h4
  cases hq:(ahV [ea t] s)[j]? with
  | none=>
   rw[hq] at h4
   cases h4
  | some x=>
   rw[hq] at h4;have h4:w.ai∈x.aT:=h4;obtain⟨o,_,h|h⟩:=Ir [ea t] s j x hq
   ·rw[h] at h4
    cases h4
   ·rw[h] at h4;exact CM o _ h4
 refine⟨ha,?_⟩;rw[ha] at h5;exact h5
theorem CN {b:Bool}(h:xn t.when≠b):gS (ahV [ea t] s) b 0 s.aa=[]:=List.eq_nil_iff_forall_not_mem.2 fun w hw=>h (Wp b w hw).2
theorem Wn {o:aE}(h1:o.dK=0)(h2:o.copy = -1)(h3:o.cg=0):ofM [ea t] o={ zx (ea t) with aaB:=o.aaB }:=by
 unfold ofM;rw[h1,h2,h3];rfl
theorem CO (o:aE):∀ (l:List cz) (k:Nat),(∀ a∈l,a.kind=4)->ajW o k l=[]
 | [],_,_=>rfl
 | a :: r,k,h=>by
  rw[ajW,CO o r (k+1) fun x hx=>h x (aK _ hx),h a aC];rfl
theorem RO (hc:s.dG=[]):ajR [ea t] s=[]:=by
 unfold ajR;rw[hc,List.map_nil,aZ,List.flatMap_eq_nil_iff];intro o _;unfold kF;split
 ·exact CO o _ 0 fun a ha=>by rw[CM o a ha];rfl
 ·rfl
theorem A5 {α β γ:Type}(f:α->β)(g:α × β->γ):∀ l:List α,(l.zip (l.map f)).map g=l.map fun x=>g (x,f x)
 | []=>rfl
 | x :: r=>by rw[bP,List.zip_cons_cons,bP,bP,A5 f g r]
theorem RQ (hc:s.dG=[]):ahV [ea t] s=s.aa.map fun o=>jT o (ofM [ea t] o):=by
 rw[allM_nil (RO hc),A5]
structure KB (s:aA):Prop where
 ct:s.dG=[]
 ob:∀ o∈s.aa,o.dK=0/\o.copy = -1/\o.cg=0
 qN:s.aa.Pairwise fun a b=>a.id < b.id
theorem KB.tr (H:KB s)(k:Nat)(hk:k < s.aa.length):gG (ahV [ea t] s) k=jT s.aa[k] { zx (ea t) with aaB:=s.aa[k].aaB }:=by
 obtain⟨h1,h2,h3⟩:=H.ob _ (aI hk);unfold gG;rw[RQ H.ct,bp,cD hk,<- Wn h1 h2 h3];rfl
def TY (t:eh)(b:Bool)(o:aE):aF:=⟨o.id,0,o.aaB,jg t,b⟩
theorem Gb {all:List aG}{b:Bool}(he:xn t.when=b):∀ (l:List aE) (i:Nat),(∀ k (hk:k < l.length),(gG all (i+k)).aT=[jg t]/\(gG all (i+k)).aaB=l[k].aaB/\l[k].cg=0)->gS all b i l=l.map (TY t b)
 | [],_,_=>rfl
 | o :: r,i,h=>by
  rw[gS,Gb he r (i+1) fun k hk=>by
   have:=h (k+1) (Nat.succ_lt_succ hk);rw[show i+(k+1)=i+1+k by omega] at this;exact this]
  obtain⟨h1,h2,h3⟩:=h 0 (Nat.succ_pos _);have h3:o.cg=0:=h3;rw[cO] at h1 h2;have h2:(gG all i).aaB=o.aaB:=h2;unfold yU;rw[if_pos (by rw[h3];rfl),h1,h2]
  have:((jg t).kind==4&&xn (jg t).aM.when==b)=true:=by
   show(true&&xn t.when==b)=true;rw[he,Bool.true_and,beq_self_eq_true]
  rw[u4,if_pos this];rfl
theorem TM (o:aE)(x:aG):(jT o x).aT=x.aT/\(jT o x).aaB=x.aaB/\(jT o x).line=x.line/\(jT o x).keys=x.keys:=by
 unfold jT;split <;> exact⟨rfl,rfl,rfl,rfl⟩
theorem KB.XN (H:KB s){b:Bool}(he:xn t.when=b):gS (ahV [ea t] s) b 0 s.aa=s.aa.map (TY t b):=by
 refine Gb he _ 0 fun k hk=>?_;rw[bu,H.tr k hk];obtain⟨h1,h2,_⟩:=TM s.aa[k] { zx (ea t) with aaB:=s.aa[k].aaB };exact⟨h1,h2,(H.ob _ (aI hk)).2.2⟩
theorem Bn {l:List aF}(h:l.Pairwise Fg):iT (gF sD) l=l:=by
 rw[IE];exact Cr l [] h
theorem wo (he:xn t.when=true)(H:KB s):DU [ea t] s T e=s.aa.flatMap fun o=>aaL (Lw [ea t] s T e) (TY t true o):=by
 unfold DU sq;show(iT (gF sD) (gS (ahV [ea t] s) true 0 s.aa++gS (ahV [ea t] T) false 0 T.aa)).flatMap _=_;rw[CN (s:=T) (by rw[he];decide),aZ,Bn (uZ _ _ _ _ H.qN),H.XN he,List.flatMap_map]
theorem kt {α β:Type}{f:α->List β}{g:α->β}{l:List α}(h:∀ x∈l,f x=[g x]):l.flatMap f=l.map g:=by
 induction l with
 | nil=>rfl
 | cons x r ih=>rw[bK,h x aC,ih fun y hy=>h y (aK _ hy)];rfl
theorem wz {α β:Type}{f:α->List β}{l:List α}(h:∀ x∈l,f x=[]):l.flatMap f=[]:=List.flatMap_eq_nil_iff.2 h
theorem WJ (a:Int):DB a 0=0:=by
 unfold DB;rw[show BitVec.ofInt IntKind.i64.bits 0=0#_ from rfl,BitVec.and_zero];rfl
theorem akH:wy eJ=true/\wy oZ=true:=by
 unfold wy Pb;rw[show eJ.sub=(⟨#[]⟩:ByteArray) from rfl,show oZ.sub=(⟨#[]⟩:ByteArray) from rfl,beq_self_eq_true];exact⟨rfl,rfl⟩
theorem aiL (h:Int):xm h 0 0=true:=by
 unfold xm ze;rw[WJ];rfl
theorem akO (x:aG):jU x eJ=true/\jU x oZ=true:=by
 unfold jU xz ke;exact⟨rfl,rfl⟩
theorem aaS {o:aE}{x:aG}(you src:Int)(h:o.cg=0)(hk:x.keys=0):eW o x you src eJ=true/\eW o x you src oZ=(o.id==src):=by
 unfold eW;rw[akH.1,akH.2,(akO x).1,(akO x).2,h,hk];show(true&&(true&&(tt x.aaB you 0&&(tt o.id src 0&&(xm x.line.types 0 0&&(xm x.dQ 0 0&&((Pb ⟨#[]⟩||oH x.line.dN ⟨#[]⟩)&&(mW 0 0&&(Ea o.eR 0&&true)))))))))=true/\(true&&(true&&(tt x.aaB you 0&&(tt o.id src 1&&(xm x.line.types 0 0&&(xm x.dQ 0 0&&((Pb ⟨#[]⟩||oH x.line.dN ⟨#[]⟩)&&(mW 0 0&&(Ea o.eR 0&&true)))))))))=(o.id==src);rw[aiL,aiL,show Pb ⟨#[]⟩=true from by unfold Pb;exact beq_self_eq_true _,show mW 0 0=true from by decide +kernel];unfold tt Ea;simp
theorem KB.fits (H:KB s){k:Nat}(hk:k < s.aa.length)(you src:Int):jK s.aa (ahV [ea t] s) s.aa[k].id you src eJ=true/\jK s.aa (ahV [ea t] s) s.aa[k].id you src oZ=(s.aa[k].id==src):=by
 have eZ:∀ j (hj:j < s.aa.length),j < k->(s.aa[j].id==s.aa[k].id)=false:=fun j hj h=>by
  have:=cu.1 H.qN j k hj hk h;simp only[beq_eq_false_iff_ne,ne_eq];omega
 have hf:=fun f=>CS (l:=s.aa) (all:=ahV [ea t] s) (id:=s.aa[k].id) (you:=you) (src:=src) (f:=f) k hk (beq_self_eq_true _) eZ;have hm:=aaS (o:=s.aa[k]) (x:=gG (ahV [ea t] s) k) you src (H.ob _ (aI hk)).2.2 (by rw[H.tr k hk,(TM _ _).2.2.2];rfl);exact⟨(hf eJ).trans hm.1,(hf oZ).trans hm.2⟩
theorem Bc {c:fx}{w:aF}(h:w.ai.aM.when=3):aaL c w=(if mM c&&c.e.nQ==3 then oB c.e.kind 2 c.e.aO c.before c.de w else []).map fun id=>⟨w.id,w.you,w.ai,R8 c.e false id⟩:=by
 unfold aaL fC;rw[h];rfl
def kG:eh:=⟨3,0,eJ⟩
theorem Hu (H:KB s)(h:mM (Lw [ea kG] s T e)=false\/e.nQ≠3):DU [ea kG] s T e=[]:=by
 rw[wo rfl H];refine wz fun o _=>?_;rw[Bc rfl,if_neg]
 ·rfl
 ·rw[ag,not_and];rcases h with h|h
  ·intro h1;rw[h] at h1
   cases h1
  ·intro _ h1;exact h (by simpa [Lw] using h1)
theorem Ht (H:KB s)(h:mM (Lw [ea kG] s T e)=true)(ht:e.nQ=3)(hk:e.kind=2){k:Nat}(hl:k < s.aa.length)(he:s.aa[k].id=e.aO):DU [ea kG] s T e=s.aa.map fun o=>⟨o.id,o.aaB,jg kG,e⟩:=by
 rw[wo rfl H];refine kt fun o _=>?_;rw[Bc rfl,if_pos (by rw[h];show(true&&e.nQ==3)=true;rw[ht];rfl)];unfold oB
 rw[if_pos (by
  show(e.kind==2&&jK s.aa (ahV [ea kG] s) e.aO o.aaB o.id eJ)=true;rw[hk,<- he,(H.fits hl _ _).1];rfl)]
 rfl
end
section
variable {t:eh}
theorem kQ (you:Int)(n:Nat):KB (eD you n):=by
 refine⟨rfl,fun o ho=>?_,?_⟩
 ·obtain⟨i,_,rfl⟩:=bA.1 ho;exact⟨rfl,rfl,rfl⟩
 ·refine List.pairwise_map.2 (List.pairwise_lt_range.imp fun {a b} h=>?_);show((a+1:Nat):Int) < ((b+1:Nat):Int);omega
theorem RS (you:Int){n:Nat}(hn:n<=1000):(eD you n).ok:=by
 have hp:∀ y∈(MB 1).az,cq.ok y:=fun y hy=>by
  have:y=p20:=by simpa [MB] using hy
  rw[this];exact⟨aD _,aD _,aD _⟩
 refine⟨?_,hp,?_,fun y _=>trivial,?_,aD _,aD _,(fun y hy=>by cases hy),aD _,(fun y hy=>by cases hy),aD _,(fun y hy=>by cases hy),aD _⟩
 ·show 2*152<=ba;unfold ba;omega
 ·show(kE you n).length*128<=ba;rw[jt];unfold ba;omega
 ·show(xx n).length*8<=ba;rw[wu];unfold ba;omega
theorem CL (ht:t.ok)(you:Int){n:Nat}(hn:n<=20):xf [ea t] (eD you n):=by
 refine⟨?_,fun y hy=>?_,RS you (by omega),fun c hc=>?_,?_,aD _,(kQ you n).qN⟩
 ·show 1*176<=ba;unfold ba;omega
 ·rw[aJ.1 hy];exact RX t ht
 ·rw[aJ.1 hc];show 1<=8;omega
 ·show(kE you n).length<=2048;rw[jt];omega
theorem Hy (ht:t.ok){you:Int}(hy:you=0\/you=1){n:Nat}(hn:n<=20):Pe S1 [ea t] (eD you n) (ahV [ea t] (eD you n)):=by
 have hi:=Wo ⟨n,by omega⟩;refine(CL ht you hn).doh (T2 ?_) ?_
 ·rcases hy with rfl|rfl
  ·exact hi.1
  ·exact hi.2
 ·show((n+1:Nat):Int)<=1000000/\((n+1:Nat):Int)<=1000000;omega
def tf (id p to:Int):bV:=⟨2,0,id,p,0,0,to,0,0,0,false,false,0,0,0⟩
def evT:bV:=⟨6,0,1,0,0,0,0,0,0,0,false,false,0,0,0⟩
theorem Ao:oN [] (eD 1 2) (tf 1 1 3)=true/\((eD 1 2).aa.any fun o=>o.id==(1:Int)&&o.cg==0)=true/\((EW (eD 1 2) (tf 1 1 3)).aa.any fun o=>o.id==(1:Int))=false:=by decide +kernel
theorem zT {you id p to:Int}{n:Nat}(h1:oN [] (eD you n) (tf id p to)=true)(h2:((eD you n).aa.any fun o=>o.id==id&&o.cg==0)=true)(h3:((EW (eD you n) (tf id p to)).aa.any fun o=>o.id==id)=false):mM (Lw [ea t] (eD you n) (qJ [ea t] (eD you n) (tf id p to)) (tf id p to))=true:=by
 have dZ:oN [ea t] (eD you n) (tf id p to)=true:=h1;unfold qJ;rw[ZP dZ rfl];unfold mM;show(true&&(decide (jS (fun o:aE=>o.id==id&&o.cg==0) (eD you n).aa>=0)&&!decide (jS (fun o:aE=>o.id==id) (EW (eD you n) (tf id p to)).aa>=0)))=true;rw[ZL,ZL,h2,h3];rfl
theorem ZI:DU [ea kG] (eD 1 2) (qJ [ea kG] (eD 1 2) (tf 1 1 3)) (tf 1 1 3)=[⟨1,1,jg kG,tf 1 1 3⟩,⟨2,1,jg kG,tf 1 1 3⟩]:=by
 rw[Ht (kQ 1 2) (zT Ao.1 Ao.2.1 Ao.2.2) rfl rfl (k:=0) (by decide) rfl];rfl
theorem Wi (T:aA):DU [ea kG] (eD 1 2) T evT=[]:=Hu (kQ 1 2) (.inl rfl)
end
end
section
open Go Cg Go.RowKit Go.Sort
theorem qI:Ct ae 9 [] (aB0 true) [] true:=by
 refine aB4 (b:=false) ?_ rfl;have hd:(kG:eh).ok:=fg;have TC:=Ap kG;have hs:=wq 2 1 (by decide);have D:=Hy (t:=kG) hd (you:=1) (.inr rfl) (n:=2) (by decide);have Q:=CL (t:=kG) hd 1 (n:=2) (by decide);have h1:=lL Q D (tf 1 1 3);have h2:=lL Q D evT;rw[ZI] at h1;rw[Wi] at h2;refine cT Tryz.func9 rfl (by kernel_rfl) rfl fun w0 O _=>aBW [2,3,4] ?_;refine cR TC ⟨?_,trivial⟩ ?_
 ·repeat' first|refine Ai ?_ ?_|exact rfl|exact⟨⟩|exact Ei _ rfl
 refine aBW [] ?_;refine cR hs ⟨rfl,rfl,trivial⟩ ?_;refine cR h1 ⟨rfl,fL (eD 1 2).enc,?_,trivial⟩ ?_
 ·repeat' first|refine Ai ?_ ?_|exact rfl|exact⟨⟩|exact Ei _ rfl
 refine aBW [] ?_;refine cR hs ⟨rfl,rfl,trivial⟩ ?_;refine cR h2 ⟨rfl,fL (eD 1 2).enc,?_,trivial⟩ ?_
 ·repeat' first|refine Ai ?_ ?_|exact rfl|exact⟨⟩|exact Ei _ rfl
 refine aBW [] ?_;refine Ei 0 (Ei _ (Ai rfl (Ai rfl ?_)));refine Ei 1 (Ei _ (Ai rfl (Ai rfl ?_)));refine Ei 0 (Ei _ (Ai rfl (Ai rfl ?_)));refine Ei 0 (Ei _ (Ai rfl (Ai rfl ?_)));refine Ei 0 (Ei _ (Ai rfl (Ai rfl ?_)));refine Ei [] ?_
 repeat' first|refine Ai ?_ ?_|exact rfl|exact⟨⟩|exact Ei _ rfl
end
section
open Go Cg Go.RowKit
def aeX (w:Int):Int:=if w=1\/w=2\/w=3 then 2 else if w=4 then 12 else if w=5 then 13 else if w=6\/w=7 then 1 else if w=8 then 3 else if w=9 then 11 else if w=10 then 14 else if w=11 then 15 else if w=12 then 4 else if w=13 then 5 else if w=14 then 8 else 0
theorem acW {k kind id:Int}{s:aA}{all:List aG}{w:aF}{x:Int}(h:x∈oB k kind id s all w):k=kind:=by
 unfold oB at h;split at h
 ·rename_i h1;rw[ag] at h1;simpa using h1.1
 ·cases h
theorem amJ {c:fx}{w:aF}{x:Int}(h:x∈fC c w):aeX w.ai.aM.when=c.e.kind\/(w.ai.aM.when=1/\c.e.kind=10):=by
 unfold fC at h;generalize w.ai.aM.when=k at h ⊢;split at h
 ·rename_i h1;subst h1;split at h
  ·cases h
  ·rename_i h2;simp only[ag,bne_iff_ne,ne_eq,not_and,Classical.not_not] at h2
   by_cases h3:c.e.kind=2
   ·left;rw[h3];rfl
   ·exact .inr ⟨rfl,h2 h3⟩
 split at h
 ·rename_i h1;subst h1;split at h
  ·rw[acW h];exact .inl rfl
  ·cases h
 split at h
 ·rename_i h1;subst h1;split at h
  ·rw[acW h];exact .inl rfl
  ·cases h
 split at h
 ·rename_i h1;subst h1;rw[acW h];exact .inl rfl
 split at h
 ·rename_i h1;subst h1;rw[acW h];exact .inl rfl
 split at h
 ·rename_i h1;subst h1;rw[acW h];exact .inl rfl
 split at h
 ·rename_i h1;subst h1;rw[acW h];exact .inl rfl
 split at h
 ·rename_i h1;subst h1;split at h
  ·rw[acW h];exact .inl rfl
  ·cases h
 cases h
theorem amR {k:Int}(h:kD k≠0):aeX k=kD k:=by
 by_cases h1:k=8
 ·subst h1;rfl
 by_cases h2:k=10
 ·subst h2;rfl
 by_cases h3:k=11
 ·subst h3;rfl
 by_cases h4:k=12
 ·subst h4;rfl
 by_cases h5:k=13
 ·subst h5;rfl
 by_cases h6:k=9
 ·subst h6;rfl
 unfold kD at h;rw[if_neg h1,if_neg h2,if_neg h3,if_neg h4,if_neg h5,if_neg h6] at h;exact absurd rfl h
theorem anL (e:bV)(b:Bool)(id:Int):(R8 e b id).kind=e.kind/\(R8 e b id).bC=e.bC/\(R8 e b id).bq=e.bq:=by
 unfold R8;split <;> exact⟨rfl,rfl,rfl⟩
theorem akF {c:fx}{w:aF}{x:bW}(h:x∈aaL c w):(aeX x.ai.aM.when=c.e.kind\/(x.ai.aM.when=1/\c.e.kind=10))/\x.aeN.kind=c.e.kind/\x.aeN.bC=c.e.bC/\x.aeN.bq=c.e.bq:=by
 have ha:=(abF h).2.2;rw[ha];unfold aaL at h;split at h
 ·rename_i hk;split at h
  ·rename_i h1;rw[aJ.1 h];refine⟨.inl ?_,rfl,rfl,rfl⟩;rw[ag,ag] at h1;rw[amR hk];exact(by simpa using h1.1.1:c.e.kind=_).symm
  ·cases h
 ·obtain⟨i,hi,rfl⟩:=bA.1 h;exact⟨amJ hi,anL _ _ _⟩
theorem ahN (l:List aF):(iT (gF sD) l).Pairwise Fg:=(Gp yq yr l (List.pairwise_of_forall fun x y=>G3 x y)).2
theorem afY {c:fx}:∀ {l:List aF},l.Pairwise Fg->(l.flatMap (aaL c)).Pairwise fun a b=>a.fp<=b.fp
 | [],_=>List.Pairwise.nil
 | w :: r,h=>by
  obtain⟨h1,h2⟩:=List.pairwise_cons.1 h;rw[bK,List.pairwise_append];refine⟨?_,afY h2,fun a ha b hb=>?_⟩
  ·refine cu.2 fun i j hi hj _=>?_;rw[(abF (aI hi)).1,(abF (aI hj)).1];exact Int.le_refl _
  ·obtain⟨v,hv,hb⟩:=List.mem_flatMap.1 hb;rw[(abF ha).1,(abF hb).1];have:=h1 v hv;unfold Fg at this;omega
theorem alU (cards:List bX)(s t:aA)(e:bV):(DU cards s t e).Pairwise fun a b=>a.fp<=b.fp:=afY (ahN _)
theorem akV {cards:List bX}{o:aE}:∀ a∈(ofM cards o).aT,∃ c∈cards,a∈c.aT:=by
 have key:∀ (x:aG) (c:Int),(∀ a∈x.aT,∃ c∈cards,a∈c.aT)->∀ a∈({ x with aaB:=c }:aG).aT,∃ c∈cards,a∈c.aT:=fun _ _ h=>h;unfold ofM;refine key _ _ ?_;generalize (if o.copy < 0 then o.dK else o.copy)=i;split
 ·rename_i c hc;split at hc
  ·cases hc
  ·exact fun a ha=>⟨c,aU hc,ha⟩
 ·intro a ha
  cases ha
theorem amQ {cards:List bX}{o:aE}{a:cz}(h:a∈(ofM cards o).aT):∃ c∈cards,a∈c.aT:=akV a h
theorem afI {cards:List bX}{s:aA}{b:Bool}{w:aF}(h:w∈gS (ahV cards s) b 0 s.aa):w.ai.kind=4/\(∃ c∈cards,w.ai∈c.aT)/\∃ o∈s.aa,o.id=w.id/\o.cg=0:=by
 obtain⟨⟨j,hj,h1,h2,_,h4⟩,h5,_⟩:=pE _ _ _ _ w h;refine⟨h5,?_,s.aa[j],aI hj,h1.symm,h2⟩;rw[bu] at h4;unfold gG at h4
 cases hq:(ahV cards s)[j]? with
 | none=>
  rw[hq] at h4
  cases h4
 | some x=>
  rw[hq] at h4;have h4:w.ai∈x.aT:=h4;obtain⟨o,_,h|h⟩:=Ir cards s j x hq
  ·rw[h] at h4
   cases h4
  ·rw[h] at h4;exact amQ h4
def agF (c:bX):Bool:=c.aT.any fun a=>a.kind==4
structure FrX (cards:List bX)(s t:aA)(e:bV)(x:bW):Prop where
 some:cards.any agF=true
 kd:x.ai.kind=4
 src:0<=x.fp
 ev:aeX x.ai.aM.when=e.kind\/(x.ai.aM.when=1/\e.kind=10)
 there:((s.aa++t.aa).any fun o=>o.id==x.fp&&o.cg==0)=true
 same:x.aeN.kind=e.kind/\x.aeN.bC=e.bC/\x.aeN.bq=e.bq
theorem atD {cards:List bX}{s t:aA}{e:bV}(hs:∀ i∈s.aa.map aE.id,0<=i)(ht:∀ i∈t.aa.map aE.id,0<=i):∀ x∈DU cards s t e,FrX cards s t e x:=fun x hx=>by
 obtain⟨w,hw,hx⟩:=alV hx;obtain⟨e1,e2,e3⟩:=abF hx;obtain⟨k1,k2⟩:=akF hx
 have hc:w.ai.kind=4/\(∃ c∈cards,w.ai∈c.aT)/\∃ o∈s.aa++t.aa,o.id=w.id/\o.cg=0:=by
  rcases hw with hw|hw
  ·obtain⟨a,b,o,ho,c⟩:=afI hw;exact⟨a,b,o,bH _ ho,c⟩
  ·obtain⟨a,b,o,ho,c⟩:=afI hw;exact⟨a,b,o,bJ _ ho,c⟩
 obtain⟨a,⟨c,hcm,hca⟩,o,ho,h1,h2⟩:=hc;refine⟨List.any_eq_true.2 ⟨c,hcm,List.any_eq_true.2 ⟨_,hca,by rw[a];rfl⟩⟩,e3▸a,?_,k1,List.any_eq_true.2 ⟨o,ho,by rw[h1,h2,e1];simp⟩,k2⟩;rw[e1,<- h1];rcases aX.1 ho with ho|ho
 ·exact hs _ (bA.2 ⟨o,ho,rfl⟩)
 ·exact ht _ (bA.2 ⟨o,ho,rfl⟩)
end
section
open Go Cg Go.RowKit Go.Sort
theorem ajH (a:Int):∃ r:Int,(r=(aeX a))/\Ct ae 16 [.c (.t (iv a))] (aBZ r) [] true:=by
 refine db (Φ:=fun (r:Int)=>r=(aeX a)) lF (cX Tryz.func16 rfl (by kernel_rfl) rfl (aBX [] [] ?_))
 repeat' (first|(apply bY <;> intro _)|(apply dV <;> intro _)|(apply dx <;> intro _)|apply cy|(apply cS <;> intro _)|(apply bL;exact Ei [] (Ai rfl (Ai trivial rfl));exact(by simp_all[aeX]);rfl))
theorem akX (a:Int):Ct ae 16 [.c (.t (iv a))] (aBZ (aeX a)) [] true:=by
 obtain⟨r,hr,h⟩:=ajH a;rw[hr] at h;exact h
def afR (l:List bW):Nat->Int
 | 0=>0
 | k+1=>((l[k]?).map bW.fp).getD 0
theorem akW (l:List bW):afR l 0=0:=rfl
theorem aiD {l:List bW}(k:Nat)(hk:k < l.length):afR l (k+1)=l[k].fp:=by
 show((l[k]?).map bW.fp).getD 0=_;rw[cD hk];rfl
theorem ajG {l:List bW}(hs:l.Pairwise fun a b=>a.fp<=b.fp)(h0:∀ x∈l,0<=x.fp)(k:Nat)(hk:k < l.length):¬ l[k].fp < afR l k:=by
 cases k with
 | zero=>
  have:=h0 _ (aI hk);rw[akW];omega
 | succ k=>
  rw[aiD k (by omega)];have:=cu.1 hs k (k+1) (by omega) hk (by omega);omega
theorem ahK {l:List bW}(k:Nat)(hk:k < l.length):afR l (k+1)=l[k].fp:=aiD k hk
theorem adE {α:Type}(p:α->Bool)(l:List α)(k:Nat)(hk:k < l.length):(l.take (k+1)).any p=((l.take k).any p||p l[k]):=by
 rw[bc hk,List.any_append,List.any_cons,List.any_nil,Bool.or_false]
def plC (id:Int)(o:aE):Bool:=o.id==id&&o.cg==0
theorem adP (a:List bX)(s:aA)(e:bV)(ha:a.length*176<=ba)(ma:∀ y∈a,bX.ok y)(hs:s.ok):Ct ae 5 [.c (.t (.sl 17 (a.map bX.enc))),.agg (s.enc.map .t),.agg (e.enc.map .t)] (aB0 true) [] true:=by
 refine aB4 (b:=false) ?_ rfl;have hv:=aiR a s ha ma hs
 cases hb:agE a s with
 | false=>
  rw[hb] at hv;refine cT Tryz.func5 rfl (by kernel_rfl) rfl fun w0 O _=>aBW [2,3] ?_;refine cF hv ⟨rfl,fL s.enc,trivial⟩ ?_;refine aBW [] ?_;refine cF qI trivial ?_;refine Ei [] ?_
  repeat' first|refine Ai ?_ ?_|exact rfl|exact⟨⟩|exact Ei _ rfl
 | true=>
  rw[hb] at hv;obtain⟨H,V,hn⟩:=xf.akU hb ha ma hs;have D:=H.doh V hn;have K:=H.Ox D e;have R:=D.res e;have af:=Ov H D e;have fr:=lL H D e;have hx:=atD (cards:=a) (s:=s) (t:=qJ a s e) (e:=e) (zy V) R.pos;have hso:=alU a s (qJ a s e) e;have hM8:=alW (e:=e) H K;generalize qJ a s e=t at *;generalize DU a s t e=M at *;have Vy:=H.len;have htl:=K.len;refine cT Tryz.func5 rfl (by kernel_rfl) rfl fun w0 O _=>aBW [2,3,4,13,14,15,31] ?_;refine cF hv ⟨rfl,fL s.enc,trivial⟩ ?_;refine aBW [4] ?_;refine aBW [] ?_;refine aBY (fun k:Nat=>⟨[(0,.c (.t (.sl 17 (a.map bX.enc)))),(4,.ptr 0 0),(5,.ptr 128 0),(7,aB0 ((a.take k).any agF)),(25,.c (.t (.sl 17 (a.map bX.enc)))),(26,aBZ (a.map bX.enc).length),(27,aBZ k)],[(0,s.enc.map .t),(128,e.enc.map .t)],[],10000⟩) (fun k=>k<=a.length) (fun k=>a.length - k) 0 ?_ (aD _) ?_
  ·refine bh [] rfl rfl ?_ ?_ ?_
   all_goals repeat' first|refine Ai ?_ ?_|exact rfl|exact⟨⟩|exact Ei _ rfl
  rintro k hk;refine aBW [6,7,12] ?_;refine cS (fun h=>?_) (fun h=>?_)
  ·have aS:=cN h;have Wc:a[k].aT.length*640<=ba:=(ma _ (aI aS)).2.2.1;have fR:=adE agF a k aS;refine aBW [7,12] ?_;refine Ei k (Ei (a[k].enc) (Ai rfl (Ai (aQ _ _ k aS) ?_)));refine aBW [12] ?_;refine aBY (fun j:Nat=>⟨[(0,.c (.t (.sl 17 (a.map bX.enc)))),(4,.ptr 0 0),(5,.ptr 128 0),(7,aB0 ((a.take k).any agF||(a[k].aT.take j).any fun x=>x.kind==4)),(25,.c (.t (.sl 17 (a.map bX.enc)))),(26,aBZ (a.map bX.enc).length),(27,aBZ k),(32,.c (.t (.sl 72 (a[k].aT.map cz.enc)))),(33,aBZ (a[k].aT.map cz.enc).length),(34,aBZ j)],[(0,s.enc.map .t),(128,e.enc.map .t)],[],20000⟩) (fun j=>j<=a[k].aT.length) (fun j=>a[k].aT.length - j) 0 ?_ (aD _) ?_
   ·refine bh [] rfl rfl ?_ ?_ ?_
    ·repeat' first|refine Ai ?_ ?_|exact rfl|exact⟨⟩|exact Ei _ rfl
     exact congrArg bv (Bool.or_false _).symm
    all_goals repeat' first|refine Ai ?_ ?_|exact rfl|exact⟨⟩|exact Ei _ rfl|refine aj ?_|refine bS ?_
   rintro j hj;refine aBW [9,10,11] ?_;refine cS (fun h=>?_) (fun h=>?_)
   ·have nE:=cN h;have xt:=adE (fun x:cz=>x.kind==4) a[k].aT j nE;refine aBW [10,11] ?_;refine Ei j (Ei (a[k].aT[j].enc) (Ai rfl (Ai (aQ _ _ j nE) ?_)));refine aBW [11] ?_;generalize hB:((a.take k).any agF||(a[k].aT.take j).any fun x=>x.kind==4)=B;have anB:((a.take k).any agF||(a[k].aT.take (j+1)).any fun x=>x.kind==4)=(B||a[k].aT[j].kind==4):=by rw[xt,<- Bool.or_assoc,hB]
    cases B with
    | true=>
     refine aBW [] ?_;refine Ei (j+1) (Ai (show j+1<=_ by omega) (Ai (show a[k].aT.length - (j+1) < a[k].aT.length - j by omega) ?_));refine bh [] rfl rfl ?_ ?_ ?_
     ·repeat' first|refine Ai ?_ ?_|exact rfl|exact⟨⟩|exact Ei _ rfl
      ·rw[anB];rfl
      ·exact ed j nE 640 (by decide) Wc
     all_goals repeat' first|refine Ai ?_ ?_|exact rfl|exact⟨⟩|exact Ei _ rfl|refine aj ?_|refine bS ?_
    | false=>
     refine aBW [] ?_;refine Ei (j+1) (Ai (show j+1<=_ by omega) (Ai (show a[k].aT.length - (j+1) < a[k].aT.length - j by omega) ?_));refine bh [] rfl rfl ?_ ?_ ?_
     ·repeat' first|refine Ai ?_ ?_|exact rfl|exact⟨⟩|exact Ei _ rfl
      ·rw[anB];rfl
      ·exact ed j nE 640 (by decide) Wc
     all_goals repeat' first|refine Ai ?_ ?_|exact rfl|exact⟨⟩|exact Ei _ rfl|refine aj ?_|refine bS ?_
   ·have Rx:=cP h hj;subst Rx;refine aBW [] ?_;refine Ei (k+1) (Ai (show k+1<=_ by omega) (Ai (show a.length - (k+1) < a.length - k by omega) ?_));refine bh [] rfl rfl ?_ ?_ ?_
    ·repeat' first|refine Ai ?_ ?_|exact rfl|exact⟨⟩|exact Ei _ rfl
     ·rw[fR,bm];rfl
     ·exact ed k aS 176 (by decide) ha
    all_goals repeat' first|refine Ai ?_ ?_|exact rfl|exact⟨⟩|exact Ei _ rfl|refine aj ?_|refine bS ?_
  ·have fS:=cP h hk;subst fS;rw[bm];generalize hB:a.any agF=B at *;refine aBW [] ?_;refine cR af ⟨rfl,fL s.enc,fL e.enc,trivial⟩ ?_;refine aBW [] ?_;refine aBW [] ?_;refine cR fr ⟨rfl,fL s.enc,fL e.enc,trivial⟩ ?_;have qq:M.length*768<=ba:=hM8;obtain⟨L,hL⟩:∃ L,L=s.aa++t.aa:=⟨_,rfl⟩
   have hLl:L.length<=4096:=by rw[hL,au];omega
   have hL8:L.length*128<=ba:=by unfold ba;omega
   refine aBY (fun k:Nat=>⟨[(4,.ptr 0 0),(5,.ptr 128 0),(7,aB0 B),(12,.ptr 10640 0),(13,aBZ (afR M k)),(53,.c (.t (.sl 89 (M.map bW.enc)))),(54,aBZ (M.map bW.enc).length),(55,aBZ k)],[(0,s.enc.map .t),(128,e.enc.map .t),(10640,t.enc.map .t)],[],20000⟩) (fun k=>k<=M.length) (fun k=>M.length - k) 0 ?_ (aD _) ?_
   ·refine bh [] rfl rfl ?_ ?_ ?_
    all_goals repeat' first|refine Ai ?_ ?_|exact rfl|exact⟨⟩|exact Ei _ rfl
   rintro k hk;refine aBW [17,19,21,22,23,28,30] ?_;refine cS (fun h=>?_) (fun h=>?_)
   ·have aS:=cN h;obtain⟨x1,x2,x3,x4,x5,x6,x7,x8⟩:=hx M[k] (aI aS);have hl:=ajG hso (fun x hm=>(hx x hm).src) k aS;have hls:=ahK k aS;rw[hB] at x1;rw[<- hL] at x5;subst x1;have y2:(M[k].ai.kind != 4)=false:=by rw[x2];rfl
    have y6:(M[k].aeN.kind != e.kind)=false:=by rw[x6];exact bne_self_eq_false _
    have y7:(M[k].aeN.bC != e.bC)=false:=by rw[x7];exact bne_self_eq_false _
    have y8:(M[k].aeN.bq != e.bq)=false:=by rw[x8];exact bne_self_eq_false _
    have x5:L.any (plC M[k].fp)=true:=x5;refine aBW [] ?_;refine Ei k (Ei (M[k].enc) (Ai rfl (Ai (aQ _ _ k aS) ?_)));refine aBW [] ?_;apply zW (P:=ae) (T:=T) (N:=Tryz.f5.ntmps) (w0:=w0) (O:=O) ⟨[(4,.ptr 0 0),(5,.ptr 128 0),(7,aB0 true),(12,.ptr 10640 0),(15,.ptr 20384 0),(53,.c (.t (.sl 89 (M.map bW.enc)))),(54,aBZ (M.map bW.enc).length),(55,aBZ k)],[(0,s.enc.map .t),(128,e.enc.map .t),(10640,t.enc.map .t),(20384,M[k].enc.map .t)],[],26000⟩
    case h=>
     intro J;refine cQ y2 ?_;refine cQ (decide_eq_false hl) ?_;refine cF (akX M[k].ai.aM.when) ⟨rfl,trivial⟩ ?_;refine cS (fun hk1=>?_) (fun _=>?_)
     ·have hk1:¬ aeX M[k].ai.aM.when=e.kind:=by simpa using hk1
      obtain⟨w1,w2⟩:=x4.resolve_left hk1;refine cQ (show(M[k].ai.aM.when != 1)=false by rw[w1];rfl) ?_;refine cQ (show(e.kind != 10)=false by rw[w2];rfl) ?_;refine aB1 (bh [] rfl rfl ?_ ?_ ?_) J
      all_goals repeat' first|refine Ai ?_ ?_|exact rfl|exact⟨⟩|exact Ei _ rfl
     ·refine aB1 (bh [] rfl rfl ?_ ?_ ?_) J
      all_goals repeat' first|refine Ai ?_ ?_|exact rfl|exact⟨⟩|exact Ei _ rfl
    case key=>
     refine aBW [] ?_;refine aBW [] ?_;refine aBW [] ?_;refine Ai (.inl rfl) (Ai ?_ (Ai ?_ ?_))
     ·simp only[Lm,aw,y74];omega
     ·simp only[Lm,aw];omega
     refine Ai (.inl rfl) (Ai ?_ (Ai ?_ ?_))
     ·simp only[Lm,au,aw,y74];omega
     ·simp only[Lm,au,aw];omega
     refine aBY (fun j:Nat=>⟨[(4,.ptr 0 0),(5,.ptr 128 0),(7,aB0 true),(12,.ptr 10640 0),(15,.ptr 20384 0),(13,aBZ M[k].fp),(17,aB0 ((L.take j).any (plC M[k].fp))),(53,.c (.t (.sl 89 (M.map bW.enc)))),(54,aBZ (M.map bW.enc).length),(55,aBZ k),(101,.c (.t (.sl 19 (L.map aE.enc)))),(102,aBZ (L.map aE.enc).length),(103,aBZ j)],[(0,s.enc.map .t),(128,e.enc.map .t),(10640,t.enc.map .t),(20384,M[k].enc.map .t)],[],30000⟩) (fun j=>j<=L.length) (fun j=>L.length - j) 0 ?_ (aD _) ?_
     ·refine bh [] rfl rfl ?_ ?_ ?_
      ·repeat' first|refine Ai ?_ ?_|exact rfl|exact⟨⟩|exact Ei _ rfl
       ·rw[hL,aW];rfl
       ·rw[hL,aW];rfl
      all_goals repeat' first|refine Ai ?_ ?_|exact rfl|exact⟨⟩|exact Ei _ rfl|refine aj ?_|refine bS ?_
     rintro j hj;refine aBW [25,26,27] ?_;refine cS (fun h=>?_) (fun h=>?_)
     ·have nE:=cN h;have fR:=adE (plC M[k].fp) L j nE;refine aBW [26,27] ?_;refine Ei j (Ei (L[j].enc) (Ai rfl (Ai (aQ _ _ j nE) ?_)));refine aBW [27] ?_;generalize (L.take j).any (plC M[k].fp)=B at fR ⊢
      cases B with
      | true=>
       refine aBW [] ?_;refine Ei (j+1) (Ai (show j+1<=_ by omega) (Ai (show L.length - (j+1) < L.length - j by omega) ?_));refine bh [] rfl rfl ?_ ?_ ?_
       ·repeat' first|refine Ai ?_ ?_|exact rfl|exact⟨⟩|exact Ei _ rfl
        ·rw[fR];rfl
        ·exact ed j nE 128 (by decide) hL8
       all_goals repeat' first|refine Ai ?_ ?_|exact rfl|exact⟨⟩|exact Ei _ rfl|refine aj ?_|refine bS ?_
      | false=>
       refine cS (fun hi=>?_) (fun hi=>?_)
       ·refine aBW [] ?_;refine Ei (j+1) (Ai (show j+1<=_ by omega) (Ai (show L.length - (j+1) < L.length - j by omega) ?_));refine bh [] rfl rfl ?_ ?_ ?_
        ·repeat' first|refine Ai ?_ ?_|exact rfl|exact⟨⟩|exact Ei _ rfl
         ·rw[fR,Bool.false_or];unfold plC;rw[show(L[j].id==M[k].fp)=true from hi];rfl
         ·exact ed j nE 128 (by decide) hL8
        all_goals repeat' first|refine Ai ?_ ?_|exact rfl|exact⟨⟩|exact Ei _ rfl|refine aj ?_|refine bS ?_
       ·refine aBW [] ?_;refine Ei (j+1) (Ai (show j+1<=_ by omega) (Ai (show L.length - (j+1) < L.length - j by omega) ?_));refine bh [] rfl rfl ?_ ?_ ?_
        ·repeat' first|refine Ai ?_ ?_|exact rfl|exact⟨⟩|exact Ei _ rfl
         ·rw[fR,Bool.false_or];unfold plC;rw[show(L[j].id==M[k].fp)=false from hi];rfl
         ·exact ed j nE 128 (by decide) hL8
        all_goals repeat' first|refine Ai ?_ ?_|exact rfl|exact⟨⟩|exact Ei _ rfl|refine aj ?_|refine bS ?_
     ·have Rx:=cP h hj;subst Rx;rw[bm,x5];refine aBW [] ?_;refine cQ y6 ?_;refine cQ y7 ?_;refine cQ y8 ?_;refine aBW [] ?_;refine Ei (k+1) (Ai (show k+1<=_ by omega) (Ai (show M.length - (k+1) < M.length - k by omega) ?_));refine bh [] rfl rfl ?_ ?_ ?_
      ·repeat' first|refine Ai ?_ ?_|exact rfl|exact⟨⟩|exact Ei _ rfl
       ·exact congrArg iv hls.symm
       ·exact ed k aS 768 (by decide) qq
      all_goals repeat' first|refine Ai ?_ ?_|exact rfl|exact⟨⟩|exact Ei _ rfl|refine aj ?_|refine bS ?_
   ·refine aBW [] ?_;refine cF qI trivial ?_;refine Ei [] ?_
    repeat' first|refine Ai ?_ ?_|exact rfl|exact⟨⟩|exact Ei _ rfl

end
section
open Go Go.ChangeShapes Go.WideShapes Go.ChangeAt Go.RowKit Go.Sort Cg
section
theorem own:ownKnob Tryz.prog.godebug=none:=by kernel_rfl
theorem laidOut:laidOutB ae=true:=by kernel_rfl
theorem B7 {W:World}(se:W.ShapedOpen ae):Gl W:=
 cell_of_shapedOpen_int (P:=ae) (g:=0) (t:=3) (zero:=#[.int .i64 0]) se (of_decide_eq_true (by kernel_rfl)) (by kernel_rfl) rfl (by kernel_rfl) (by kernel_rfl) Tryz.underlying3
theorem WE {H:Type}{enc:TypeId × Value->H}{W:World}{v:Value}{d:DataW H}{ps:List MemPlace}{r:Reach}{b0:Nat}{t:TypeId}{ks:List K}(hu:∃ fs,Tryz.prog.underlying t=some (.struct fs))(hs:ajA ae 12 t=some ks)(hv:Value.okWide ae W r b0 t v)
  (h:DataW.Trod enc ae W 0 (fun _=>true) true t v d ps) (hw:KT ae t d):∃ cs es,v=.agg cs.toArray/\xB (fun _=>True) reachBytes W ks cs es:=by
 obtain⟨fs,hu⟩:=hu;unfold Value.okWide at hv;rw[hu] at hv;obtain⟨cs,rfl,_,_⟩:=hv;obtain⟨fuel,hf⟩:=h;obtain⟨es,he⟩:=Gy 12 t ks hs fuel cs.toList (d,ps) hf hw;exact⟨cs.toList,es,rfl,he⟩
open Classical in
noncomputable def yD (F:Nat->Prop):Env:=⟨fun b=>if F b then .bz else .dX,fun _=>0,fun _ _=>undef⟩
theorem FO {F:Nat->Prop}{b:Nat}:(yD F).rl b=.bz↔F b:=by
 unfold yD;simp only;split
 ·simp_all
 ·simp_all
theorem R9 (F:Nat->Prop):(yD F).F=F:=funext fun _=>propext FO
theorem PC {F:Nat->Prop}{w:World}{vs:List Value}{ts:List Tr}(h:iR F w vs ts):A2 (RC (yD F) w) vs (ts.map .t):=zj (by rw[R9];exact h)
theorem WL {F:Nat->Prop}{w:World}{cs:List Value}{ts:List Tr}(h:iR F w cs ts):R1 (yD F) w (.agg cs.toArray) (.agg (ts.map .t)):=⟨cs,rfl,PC h⟩
theorem Om {E0:Env}{w:World}{v:Value}{b:Bool}(h:R1 E0 w v (aB0 b)):v=.bool b:=by
 have h:RT E0.F w v (.lit (.bool b)):=h
 cases h
 rfl
theorem yv {P:Program}{f:FuncId}{ax:List AV}{b:Bool}(h:Ct P f ax (aB0 true) [] b){w:World}(hg:Gl w){vs:List Value}{E0:Env}(ha:A2 (R1 E0 w) vs ax):Calls P f vs.toArray w fun e w'=>e=.returned (.bool true)/\Below w.heap.size w w':=by
 refine(h.run w vs E0 hg ha).mono ?_;rintro e w' ⟨v,rfl,hb,E,hr,_⟩;obtain rfl:=Om (E0:=E) (w:=w') hr;exact⟨rfl,hb⟩
theorem Uo {F:Nat->Prop}{w:World}{ks:List K}{cs:List Value}{es:List D}(h:xB F reachBytes w ks cs es):xB F ba w ks cs es:=h.frame (by decide) (al _) (fun _ _ _=>rfl) (fun _ h _=>h)
end
end
section
open Go Cg Go.RowKit Go.Sort
open Go.ChangeShapes Go.WideShapes Go.ChangeAt in
theorem alZ {H:Type}{enc:TypeId × Value->H}{W:World}{v:Value}{d:DataW H}{ps:List MemPlace}{t:TypeId}{ks:List K}(hs:ajA ae 12 t=some ks)(hv:∃ a l c,v=.slice a l c)
  (h:DataW.Trod enc ae W 0 (fun _=>true) true t v d ps) (hw:KT ae t d):∃ es,xB (fun _=>True) reachBytes W ks [v] es:=by
 obtain⟨a,l,c,rfl⟩:=hv;obtain⟨fuel,hf⟩:=h;exact Gy 12 t ks hs fuel _ (d,ps) hf hw
theorem aiV:ajA ae 12 22=some [.sl bX.ks 176]:=by kernel_rfl
theorem aiU:ajA ae 12 34=some bV.ks:=by kernel_rfl
theorem agU {F:Nat->Prop}{w:World}{v:Value}{es:List D}(h:xB F reachBytes w [.sl bX.ks 176] [v] es):∃ l:List bX,l.length*176<=ba/\(∀ y∈l,bX.ok y)/\R1 (yD F) w v (.c (.t (.sl 17 (l.map bX.enc)))):=by
 obtain⟨ts,h3,_,h5⟩:=LH (Uo h);obtain⟨_,_,rfl,k7,q7⟩:=lK.1 h3;obtain⟨_,rfl,hb7,hc7⟩:=HV.1 k7;obtain⟨l7,rfl,ho7⟩:=fX bX.UW hc7;rw[Lm] at hb7;obtain rfl:=NQ.1 q7;refine⟨l7,hb7,ho7,?_⟩
 cases PC h5 with
 | cons h1 _=>exact h1
theorem agI {F:Nat->Prop}{w:World}{cs:List Value}{es:List D}(h:xB F reachBytes w aA.ks cs es):∃ s:aA,s.ok/\R1 (yD F) w (.agg cs.toArray) (.agg (s.enc.map .t)):=by
 obtain⟨ts,h3,_,h5⟩:=LH (Uo h);obtain⟨a,h6,rfl⟩:=aA.UW ts h3;exact⟨a,h6,WL h5⟩
theorem agT {F:Nat->Prop}{w:World}{cs:List Value}{es:List D}(h:xB F reachBytes w bV.ks cs es):∃ s:bV,R1 (yD F) w (.agg cs.toArray) (.agg (s.enc.map .t)):=by
 obtain⟨ts,h3,_,h5⟩:=LH (Uo h);obtain⟨a,_,rfl⟩:=bV.UW ts h3;exact⟨a,WL h5⟩
abbrev Cs (a:List bX):AV:=.c (.t (.sl 17 (a.map bX.enc)))
abbrev Ag (s:aA):AV:=.agg (s.enc.map .t)
abbrev Ev (s:bV):AV:=.agg (s.enc.map .t)
abbrev Rd1 (w:World)(ks:List K)(cs:List Value)(es:List D):Prop:=xB (fun _=>True) reachBytes w ks cs es
theorem ajF {f:FuncId}{b:Bool}(hf:∀ (a:List bX) (s:aA) (e:bV),a.length*176<=ba->(∀ y∈a,bX.ok y)->s.ok->Ct ae f [Cs a,Ag s,Ev e] (aB0 true) [] b)(v0:Value)(ji:List D)(cs1:List Value)(es1:List D)(cs2:List Value)(es2:List D)(w:World)(hg:Gl w)(h0:Rd1 w [.sl bX.ks 176] [v0] ji)(h1:Rd1 w aA.ks cs1 es1)(h2:Rd1 w bV.ks cs2 es2):Calls ae f #[v0,.agg cs1.toArray,.agg cs2.toArray] w fun e w'=>e=.returned (.bool true)/\Below w.heap.size w w':=by
 obtain⟨a,ha,ma,ra⟩:=agU h0;obtain⟨s,hs,rs⟩:=agI h1;obtain⟨e,re⟩:=agT h2;exact yv (hf a s e ha ma hs) hg (.cons ra (.cons rs (.cons re .nil)))
end
section
open Go
theorem Yr:(laidOutB ae)=true:=by kernel_rfl
theorem Yq:(mapsRowed ae)=true:=by kernel_rfl
theorem Yp:((Tryz.prog.stops==[]))=true:=by kernel_rfl
theorem Yo:((Tryz.prog.stopKnobs==[]))=true:=by kernel_rfl
theorem SZ:(Tryz.prog.stopsHeard)=true:=by kernel_rfl
theorem SY:(Tryz.prog.mayEnter)=true:=by kernel_rfl
theorem dY {a b:Bool}(h1:a=true)(h2:b=true):(a&&b)=true:=by rw[h1,h2];rfl
theorem adO:(Rows.watchFiresRow.wf (OpenSpec.ofChange Rows.watchFiresSpec))=true:=by kernel_rfl
theorem adN:(Tryz.f5.params.all (Tryz.prog.readableRec ·))=true:=by kernel_rfl
theorem adM:(namedTie ae Rows.watchFiresRow.named Rows.watchFiresSpec.vars)=true:=by kernel_rfl
theorem adJ:((Rows.watchFiresRow.stops==[]))=true:=by kernel_rfl
theorem adI:((Rows.watchFiresRow.knobs==[]))=true:=by kernel_rfl
theorem adG:((Rows.watchFiresRow.inPlace==Tryz.prog.inPlace 5))=true:=by kernel_rfl
theorem acK:((Rows.watchFiresRow.unfollowed==Tryz.prog.unfollowed 5))=true:=by kernel_rfl
theorem acJ:((Rows.watchFiresRow.recurses==Tryz.prog.recurses 5))=true:=by kernel_rfl
theorem acI:((Rows.watchFiresRow.named==Tryz.prog.varsNamed 5))=true:=by kernel_rfl
theorem acH:((Rows.watchFiresRow.maps==(Tryz.f5.params.toList++Rows.watchFiresSpec.plain.varTypes ae).any (Tryz.prog.mapsRec ·)))=true:=by kernel_rfl
theorem acG:((Rows.watchFiresRow.ifaces==(Tryz.f5.params.toList++Rows.watchFiresSpec.plain.varTypes ae).any (Tryz.prog.ifacesRec ·)))=true:=by kernel_rfl
theorem acF:((Rows.watchFiresRow.mapsOut==Tryz.prog.mapsAmong Tryz.f5.resultTypes.toList))=true:=by kernel_rfl
theorem acE:((Rows.watchFiresRow.loops==(Tryz.f5.params.toList++Rows.watchFiresSpec.plain.varTypes ae).any (Tryz.prog.loopsFrom ·)))=true:=by kernel_rfl
theorem acD:((Rows.watchFiresRow.wideKeys==(Tryz.f5.params.toList++Rows.watchFiresSpec.plain.varTypes ae++Tryz.f5.resultTypes.toList).any (Tryz.prog.wideKeysFrom ·)))=true:=by kernel_rfl
theorem acC:(Rows.watchFiresSpec.vars.all (Tryz.prog.varReadable ·))=true:=by kernel_rfl
theorem acB:(Tryz.f5.resultTypes.all (fun t=>Tryz.prog.readableRec t&&decide (t < Tryz.prog.types.size)))=true:=by kernel_rfl
theorem acA:((Rows.watchFiresRow.ifacesOut==Tryz.f5.resultTypes.toList.any (Tryz.prog.ifacesRec ·)))=true:=by kernel_rfl
theorem abZ:((Rows.watchFiresRow.loopsOut==Tryz.f5.resultTypes.toList.any (Tryz.prog.loopsFrom ·)))=true:=by kernel_rfl
theorem abY:((Rows.watchFiresRow.plainKeys==Tryz.prog.plainKeys))=true:=by kernel_rfl
theorem abX:(Rows.watchFiresRow.shortTexts.isNone)=true:=by kernel_rfl
theorem abW:((Rows.watchFiresRow.lifted==Tryz.prog.liftsFinal))=true:=by kernel_rfl
theorem abV:((Tryz.prog.make==some Rows.watchFiresRow.make))=true:=by kernel_rfl
theorem abU:((Rows.watchFiresRow.kinds==(if Rows.watchFiresRow.domain.isEmpty then [] else Tryz.f5.params.toList.map fun t=>match Tryz.prog.underlying t with|some (.int k)=>some k|_=>none)))=true:=by kernel_rfl
theorem abT:((Rows.watchFiresRow.pinned==Rows.watchFiresRow.pinnedBy))=true:=by kernel_rfl
theorem abS:((Rows.watchFiresRow.veiled==(Tryz.f5.params.toList++Rows.watchFiresSpec.plain.varTypes ae++Tryz.f5.resultTypes.toList).any (Tryz.prog.veiledRec ·)))=true:=by kernel_rfl
theorem abR:(Rows.watchFiresRow.veiledFits ae Tryz.f5.params.toList (Tryz.f5.params.toList++Rows.watchFiresSpec.plain.varTypes ae++Tryz.f5.resultTypes.toList))=true:=by kernel_rfl
theorem abJ:joinedFacts ae 5 Tryz.f5 Rows.watchFiresSpec Rows.watchFiresRow=true:=by
 unfold joinedFacts;exact dY (dY (dY (dY (dY (dY (dY (dY (dY (dY (dY (dY (dY (dY (dY (dY (dY (dY (dY (dY (dY (dY (dY (dY (dY (dY (dY (dY (dY (dY (dY (adO) Yr) Yq) adN) adM) adJ) Yp) adI) Yo) adG) acK) acJ) acI) acH) acG) acF) acE) acD) acC) acB) acA) abZ) abY) abX) SZ) SY) abW) abV) abU) abT) abS) abR
theorem abQ:Tryz.f5.isInstance ae Rows.watchFiresRow.origin Rows.watchFiresRow.targs:=of_decide_eq_true (by kernel_rfl)
theorem abP:Tryz.f5.isWrapper ae Rows.watchFiresRow.wrapper Rows.watchFiresRow.mainSum:=by unfold Func.isWrapper;first|(rw[if_pos (by decide +kernel)];kernel_rfl)|(rw[if_neg (by decide +kernel)];exact⟨rfl,rfl⟩)
theorem abL:Tryz.prog.funcNamed Rows.watchFiresRow.func=some 5:=by kernel_rfl
end
end Go.Proofs.YtbmdcnkidjlbbaaGreat
