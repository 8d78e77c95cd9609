/- Parts of the proof, joined: . -/
import Derived.Test.YtbmdcnkidjlbbaaGreatDE
open True renaming intro->ea
open Go.Proofs.Tryz renaming prog->ae
open List renaming getElem?_eq_getElem->ag,length_append->al,getElem?_eq_some_iff->an,length_cons->aZ,length_take->au,length_nil->bM,mem_cons_self->aB,getElem_mem->aH,mem_singleton->aJ,mem_cons_of_mem->aM,length_drop->aO,map_append->aQ,take_succ_eq_append_getElem->aS,append_nil->aW,mem_of_getElem?->bc,mem_append->bh,take_length->bj,getElem?_append_right->bm,getElem?_append_left->bz,mem_iff_getElem->bD,nil_append->bE,getElem?_map->bI,mem_map->bL,length_set->bQ,mem_append_left->bR,mem_append_right->bT,append_assoc->b9,drop_eq_getElem_cons->cd,length_replicate->cz,length_filter_le->cE
open Bool renaming and_eq_true->ah,false_and->cm,true_and->cq,not_eq_true'->cu
open Nat renaming eq_of_beq_eq_true->ai,le_refl->ak,zero_le->aA,le_trans->aX,zero_add->bw,lt_of_lt_of_le->cA,add_zero->dm
open Go.IntKind renaming wrap_i64->bp,wrap_u64->cK
open Option.some renaming inj->aY
open Array renaming length_toList->bP,getElem?_toList->dF
open Cg.Tp renaming run->aEk,loop->aEm,wk->aEp,nW->aEq
open Cg.cc renaming bn->aEl
open Cg.AV renaming i->aEn,b->aEo
open Cg.Ct renaming lit->aEs
set_option maxRecDepth 100000
set_option maxHeartbeats 4000000
namespace Go.Proofs.YtbmdcnkidjlbbaaGreat
section
open Go Cg Go.RowKit Go.Sort
theorem Cf {P:Program}{T:Nat->Option Ty}{N:Nat}{w0:World}{O:iy}{c:Code}{Q:Ex->St->Prop}{B:Prop}(st:St)(h:Tp P T N w0 O c st Q->B)(key:Tp P T N w0 O c st Q):B:=h key
theorem uQ {n:Nat}(h:n<=1000000):n*8<=aV:=by unfold aV;omega
theorem ap8 {X:List Int}(h:X.length<=1000000):((X.map eI).length+1)*8<=140737488355328:=by rw[Lm];omega
theorem acS {X:List Int}(h:X.length<=1000000):(X.map eI).length+1 < 140737488355328:=by rw[Lm];omega
theorem apI (X:List Int)(n:Int):X.map eI++[eI n]=(X++[n]).map eI:=by rw[aQ];rfl
theorem MN (l:List Int)(n:Int)(hl:l.length*8<=aV):Ct ae 177 [.c (.t (.sl 1 (l.map eI))),.c (.t (iv n))] (aEn (ixI l n)) [] true:=by
 refine aEs (b:=false) ?_ rfl;refine cT Tryz.func177 rfl (by kernel_rfl) rfl fun w0 O _=>aEk [] ?_;refine aEm (fun k:Nat=>⟨[(0,.c (.t (.sl 1 (l.map eI)))),(1,.c (.t (iv n))),(5,aEn k)],[],[],10000⟩) (fun k=>k<=l.length/\∀ j (h:j < l.length),j < k->(fun m=>m==n) l[j]=false) (fun k=>l.length - k) 0 ?_ ⟨aA _,fun j _ hj=>by omega⟩ ?_
 ·refine ba [] rfl rfl ?_ ?_ ?_
  repeat' constructor
 rintro k ⟨hk,fk⟩;refine aEk [4,5,3] (cS (fun h=>?_) fun h=>?_)
 ·have aU:=cJ h;refine aEk [] (Ei k (Ei (eI l[k]) (Ai rfl (Ai (aK _ _ k aU) ?_))));refine cS (fun h=>?_) fun h=>?_
  ·refine aEk [] (Ei [] (Ai rfl (Ai ea ?_)));rw[ixI,kf _ _ k aU h fk];exact rfl
  ·refine aEk [] (Ei (k+1) (Ai ⟨by omega,fun j hj Am=>?_⟩ (Ai (show l.length - (k+1) < l.length - k by omega) ?_)))
   ·by_cases e:j=k
    ·subst e;exact h
    ·exact fk j hj (by omega)
   refine ba [] rfl rfl ?_ ?_ ?_
   ·repeat' constructor
    exact cZ k aU 8 (by decide) hl
   repeat' constructor
 ·have fp:=dM h hk;refine Ei [] (Ai rfl (Ai ea ?_));rw[ixI,jj _ _ (fun j hj=>fk j hj (by omega))];exact rfl
theorem Cu (l:List Int)(n:Int)(hl:l.length*8<=aV):Ct ae 120 [.c (.t (.sl 1 (l.map eI))),.c (.t (iv n))] (aEo (sk l n)) [] true:=by
 refine aEs (b:=false) ?_ rfl;refine cT Tryz.func120 rfl (by kernel_rfl) rfl fun w0 O _=>aEk [] ?_;refine cF (MN l n hl) ⟨rfl,rfl,ea⟩ ?_;refine Ei [] ?_
 repeat' constructor
theorem abH (l:List Int)(n:Int)(hl:l.length<=1000000):Ct ae 120 [.c (.t (.sl 1 (l.map eI))),.c (.t (iv n))] (aEo (sk l n)) [] true:=Cu l n (uQ hl)
theorem MI (l:List Int)(n:Int)(hl:l.length<=500000):Ct ae 134 [.c (.t (.sl 1 (l.map eI))),.c (.t (iv n))] (.c (.row 0 0)) [⟨3,1,0,(ins z8 n l).map eI,none⟩] true:=by
 refine pD (b:=false) ?_ (ld _);have qx:l.length*8<=aV:=uQ (by omega);refine cT Tryz.func134 rfl (by kernel_rfl) rfl fun w0 O _=>aEk [12,13] ?_;refine aEm (fun x:Nat × List Int × Bool=>⟨[(0,.c (.t (.sl 1 (l.map eI)))),(1,.c (.t (iv n))),(5,.c (.row 9000 0)),(6,aEo x.2.2),(7,aEn x.1)],[],[(9000,⟨3,1,0,x.2.1.map eI,none⟩)],10000⟩) (fun x=>x.1<=l.length/\x.2.1.length<=2*x.1/\(l.drop x.1).foldl (gW z8 n) (x.2.1,x.2.2)=l.foldl (gW z8 n) ([],false)) (fun x=>l.length - x.1) (0,[],false) ?_ ⟨aA _,ak _,rfl⟩ ?_
 ·refine ba [] rfl rfl ?_ ?_ ?_
  repeat' constructor
 rintro⟨k,q,d⟩ ⟨hk,hq,he⟩;simp only at hk hq he;refine aEk [6,7,9,10,5] (cS (fun h=>?_) fun h=>?_)
 ·have aU:k < l.length:=cJ h;rw[cd aU,List.foldl_cons] at he;have hqb:q.length<=1000000:=by omega
  refine aEk [] ?_
  -- what is out behind the first test
  obtain⟨q1,d1,hq1,KF,Cq⟩:∃ (q1:List Int) (d1:Bool),q1.length<=q.length+1/\(d=false/\decide (n<=l[k])=true->q1=q++[n]/\d1=true)/\(¬ (d=false/\decide (n<=l[k])=true)->q1=q/\d1=d):=by
   by_cases hc:d=false/\decide (n<=l[k])=true
   ·exact⟨q++[n],true,by simp,fun _=>⟨rfl,rfl⟩,fun h=>absurd hc h⟩
   ·exact⟨q,d,by omega,fun h=>absurd h hc,fun _=>⟨rfl,rfl⟩⟩
  have aiU:q1.length<=1000000:=by omega
  have fu:gW z8 n (q,d) l[k]=(if l[k]=n then q1 else q1++[l[k]],d1):=by
   unfold gW
   by_cases hc:d=false/\decide (n<=l[k])=true
   ·obtain⟨e1,e2⟩:=KF hc;rw[if_pos ⟨hc.1,by have:=of_decide_eq_true hc.2;simp[z8];omega⟩,e1,e2]
   ·obtain⟨e1,e2⟩:=Cq hc;rw[if_neg fun h=>hc ⟨h.1,by have:=h.2;simp[z8] at this;exact decide_eq_true this⟩,e1,e2]
  rw[fu] at he;apply Cf (P:=ae) (T:=T) (N:=Tryz.f134.ntmps) (w0:=w0) (O:=O) ⟨[(0,.c (.t (.sl 1 (l.map eI)))),(1,.c (.t (iv n))),(5,.c (.row 9000 0)),(6,aEo d1),(7,aEn k)],[],[(9000,⟨3,1,0,q1.map eI,none⟩)],15000⟩
  case h=>
   intro K;refine cj (cS (fun hd=>?_) fun hd=>?_)
   ·have hd:d=true:=hd;obtain⟨rfl,rfl⟩:=Cq (fun h=>by rw[hd] at h;cases h.1);refine aEp (ba [(9000,9000)] rfl rfl ?_ ?_ ?_) K
    repeat' constructor
   ·have hd:d=false:=hd;refine Ei k (Ei (eI l[k]) (Ai rfl (Ai (aK _ _ k aU) ?_)));refine cS (fun hn=>?_) fun hn=>?_
    ·obtain⟨rfl,rfl⟩:=KF ⟨hd,hn⟩;refine aEk [] (Ai (.inl rfl) (Ai (ap8 hqb) (Ai (acS hqb) ?_)));refine aEp (ba [(9000,9000)] rfl rfl ?_ ?_ ?_) K
     repeat' constructor
     exact apI _ _
    ·obtain⟨rfl,rfl⟩:=Cq (fun h=>by rw[h.2] at hn;cases hn);refine aEp (ba [(9000,9000)] rfl rfl ?_ ?_ ?_) K
     repeat' constructor
  case key=>
   refine aEk [] (Ei k (Ei (eI l[k]) (Ai rfl (Ai (aK _ _ k aU) ?_))));refine cS (fun hn=>?_) fun hn=>?_
   ·have hn:¬ l[k]=n:=by
     have:(l[k] != n)=true:=hn;simpa using this
    rw[if_neg hn] at he;refine aEk [] (Ei k (Ei (eI l[k]) (Ai rfl (Ai (aK _ _ k aU) ?_))));refine Ai (.inl rfl) (Ai (ap8 aiU) (Ai (acS aiU) ?_));refine aEk [] (Ei (k+1,q1++[l[k]],d1) (Ai ⟨show k+1<=_ by omega,by simp only[al,List.length_singleton];omega,he⟩ (Ai (show l.length - (k+1) < l.length - k by omega) ?_)));refine ba [(9000,9000)] rfl rfl ?_ ?_ ?_
    repeat' constructor
    exact cZ k aU 8 (by decide) qx;exact apI _ _
   ·have hn:l[k]=n:=by
     have:(l[k] != n)=false:=hn;simpa using this
    rw[if_pos hn] at he;refine aEk [] (Ei (k+1,q1,d1) (Ai ⟨show k+1<=_ by omega,show q1.length<=2*(k+1) by omega,he⟩ (Ai (show l.length - (k+1) < l.length - k by omega) ?_)));refine ba [(9000,9000)] rfl rfl ?_ ?_ ?_
    ·repeat' constructor
     exact cZ k aU 8 (by decide) qx
    repeat' constructor
 ·have Iy:k=l.length:=dM h hk;rw[Iy,List.drop_length,List.foldl_nil] at he;have hf:=sa z8 vC n l [];rw[<- he,bE] at hf;simp only at hf;have hqb:q.length<=1000000:=by omega
  refine cj (cS (fun hd=>?_) fun hd=>?_)
  ·have hd:d=true:=hd;rw[if_pos hd] at hf;refine aEk [] (Ei [(0,9000)] ?_)
   repeat' constructor
   all_goals exact congrArg (List.map eI) hf
  ·have hd:d=false:=hd;rw[hd,if_neg (by decide)] at hf;refine aEk [] (Ai (.inl rfl) (Ai (ap8 hqb) (Ai (acS hqb) ?_)));refine aEk [] (Ei [(0,9000)] ?_)
   repeat' constructor
   all_goals exact(apI _ _).trans (congrArg (List.map eI) hf)
theorem L7 (a:Int):∃ r:Int,(r=(km a))/\Ct ae 113 [.c (.t (iv a))] (aEn r) [] true:=by
 refine cU (Φ:=fun (r:Int)=>r=(km a)) kF (cX Tryz.func113 rfl (by kernel_rfl) rfl (aEl [] [] ?_))
 repeat' (first|(apply bN <;> intro _)|(apply ej <;> intro _)|(apply cQ <;> intro _)|apply cj|(apply cS <;> intro _)|(exact bo _ (Ei [] (Ai rfl (Ai ea rfl))) (by simp_all[km]) rfl))
theorem rC (a:Int):Ct ae 113 [.c (.t (iv a))] (aEn (km a)) [] true:=by
 obtain⟨r,hr,h⟩:=L7 a;rw[hr] at h;exact h
theorem zR (a:er):∃ r:Int,True/\Ct ae 170 [.agg (a.enc.map .t)] (aEn r) [] true:=by
 refine cU (Φ:=fun _=>True) kF (cX Tryz.func170 rfl (by kernel_rfl) rfl (aEl [] [] ?_))
 repeat' (first|(apply bN <;> intro _)|(apply ej <;> intro _)|(apply cQ <;> intro _)|apply cj|(apply cS <;> intro _)|(exact bo _ (Ei [] (Ai rfl (Ai ea rfl))) (trivial) rfl)|(apply dV 6 rfl;refine fM.one 6 rfl (aEl [] [] ?_))|(apply fV;(iterate 2 first|assumption|omega|(simp only[bp,cK,aZ,bM];omega)|(simp only[Lm] at *;omega)|decide);intro _ _)|(apply rZ;(iterate 2 first|assumption|omega|(simp only[bp];omega)|(simp only[Lm] at *;omega)|decide);intro _)|(apply aT 80;refine cF (PC _) ⟨fL (er.enc _),ea⟩ ?_))
theorem wN:∀ ts:List Tr,kp (ts.map .t)=some ts
 | []=>rfl
 | t :: ts=>by
  show(match kp (ts.map .t) with
   | some xs=>some (t :: xs)
   | none=>none)=_
  rw[wN ts]
theorem um {st:St}:∀ caps:List (List Tr × Nat),Fits st (caps.map fun c=>.dL c.1 c.2) (caps.map fun c=>.dL c.1 c.2)
 | []=>trivial
 | _ :: r=>⟨⟨rfl,rfl⟩,um r⟩
theorem ML (l:List az)(q:az->Bool)(f:Nat)(caps:List (List Tr × Nat))(hq:∀ o:az,Ct ae f ((.agg (o.enc.map .t)) :: caps.map fun c=>.dL c.1 c.2) (aEo (q o)) [] true)(hl:l.length*128<=aV):Ct ae 236 [.c (.t (.sl 19 (l.map az.enc))),.lL f caps] (aEn (kQ q l)) [] true:=by
 refine aEs (b:=false) ?_ rfl;refine cT Tryz.func236 rfl (by kernel_rfl) rfl fun w0 O _=>aEk [] ?_;refine aEm (fun k:Nat=>⟨[(0,.c (.t (.sl 19 (l.map az.enc)))),(1,.lL f caps),(7,aEn (l.map az.enc).length),(8,aEn k)],[],[],10000⟩) (fun k=>k<=l.length/\∀ j (h:j < l.length),j < k->q l[j]=false) (fun k=>l.length - k) 0 ?_ ⟨aA _,fun j _ hj=>absurd hj (Nat.not_lt_zero j)⟩ ?_
 ·refine ba [] rfl rfl ?_ ?_ ?_
  repeat' constructor
 rintro k ⟨hk,fk⟩;refine aEk [5,6] (cS (fun h=>?_) fun h=>?_)
 ·have aU:=cJ h;refine Ei k (Ei (l[k].enc) (Ai rfl (Ai (aK _ _ k aU) ?_)));refine cF (hq l[k]) ⟨fL l[k].enc,um caps⟩ ?_;refine cS (fun h=>?_) fun h=>?_
  ·refine aEk [] (Ei [] (Ai rfl (Ai ea ?_)));rw[kf _ _ k aU h fk];exact rfl
  ·refine aEk [] (Ei (k+1) (Ai ⟨by omega,fun j hj Am=>?_⟩ (Ai (show l.length - (k+1) < l.length - k by omega) ?_)))
   ·by_cases e:j=k
    ·subst e;exact h
    ·exact fk j hj (by omega)
   refine ba [] rfl rfl ?_ ?_ ?_
   ·repeat' constructor
    exact cZ k aU 128 (by decide) hl
   repeat' constructor
 ·have fp:=dM h hk;refine Ei [] (Ai rfl (Ai ea ?_));rw[jj _ _ (fun j hj=>fk j hj (by omega))];exact rfl
theorem sG (l:List az)(q:az->Bool)(f:Nat)(caps:List (List Tr × Nat))(hq:∀ o:az,Ct ae f ((.agg (o.enc.map .t)) :: caps.map fun c=>.dL c.1 c.2) (aEo (q o)) [] true)(hl:l.length*128<=aV):Ct ae 190 [.c (.t (.sl 19 (l.map az.enc))),.lL f caps] (aEo (decide (kQ q l>=0))) [] true:=by
 refine aEs (b:=false) ?_ rfl;refine cT Tryz.func190 rfl (by kernel_rfl) rfl fun w0 O _=>aEk [] ?_;refine cF (ML l q f caps hq hl) ⟨rfl,⟨rfl,rfl⟩,ea⟩ ?_;refine Ei [] ?_
 repeat' constructor
theorem MM (l:List Int)(q:Int->Bool)(f:Nat)(caps:List (List Tr × Nat))(hq:∀ o:Int,Ct ae f ((.c (.t (iv o))) :: caps.map fun c=>.dL c.1 c.2) (aEo (q o)) [] true)(hl:l.length*8<=aV):Ct ae 187 [.c (.t (.sl 1 (l.map eI))),.lL f caps] (aEn (kQ q l)) [] true:=by
 refine aEs (b:=false) ?_ rfl;refine cT Tryz.func187 rfl (by kernel_rfl) rfl fun w0 O _=>aEk [] ?_;refine aEm (fun k:Nat=>⟨[(0,.c (.t (.sl 1 (l.map eI)))),(1,.lL f caps),(7,aEn (l.map eI).length),(8,aEn k)],[],[],10000⟩) (fun k=>k<=l.length/\∀ j (h:j < l.length),j < k->q l[j]=false) (fun k=>l.length - k) 0 ?_ ⟨aA _,fun j _ hj=>by omega⟩ ?_
 ·refine ba [] rfl rfl ?_ ?_ ?_
  repeat' constructor
 rintro k ⟨hk,fk⟩;refine aEk [5,6] (cS (fun h=>?_) fun h=>?_)
 ·have aU:=cJ h;refine Ei k (Ei (eI l[k]) (Ai rfl (Ai (aK _ _ k aU) ?_)));refine cF (hq l[k]) ⟨rfl,um caps⟩ ?_;refine cS (fun h=>?_) fun h=>?_
  ·refine aEk [] (Ei [] (Ai rfl (Ai ea ?_)));rw[kf _ _ k aU h fk];exact rfl
  ·refine aEk [] (Ei (k+1) (Ai ⟨by omega,fun j hj Am=>?_⟩ (Ai (show l.length - (k+1) < l.length - k by omega) ?_)))
   ·by_cases e:j=k
    ·subst e;exact h
    ·exact fk j hj (by omega)
   refine ba [] rfl rfl ?_ ?_ ?_
   ·repeat' constructor
    exact cZ k aU 8 (by decide) hl
   repeat' constructor
 ·have fp:=dM h hk;refine Ei [] (Ai rfl (Ai ea ?_));rw[jj _ _ (fun j hj=>fk j hj (by omega))];exact rfl
structure Lj {α:Type}(q:α->Bool)(l:List α)(x:Nat × Nat × List α):Prop where
 ij:x.1 < x.2.1
 jl:x.2.1<=l.length
 len:x.2.2.length=l.length
 front:x.2.2.take x.1=(l.take x.2.1).filter fun y=>!q y
 back:x.2.2.drop x.2.1=l.drop x.2.1
theorem Lj.start {α:Type}{q:α->Bool}{l:List α}{i:Nat}(hi:i < l.length)(hq:q l[i]=true)(fk:∀ j (h:j < l.length),j < i->q l[j]=false):Lj q l (i,i+1,l):=by
 refine⟨Nat.lt_succ_self i,hi,rfl,?_,rfl⟩;show l.take i=(l.take (i+1)).filter fun y=>!q y;rw[<- List.take_append_getElem hi,List.filter_append]
 have e1:(l.take i).filter (fun y=>!q y)=l.take i:=List.filter_eq_self.2 fun y hy=>by
  obtain⟨j,hj,rfl⟩:=bD.1 hy;rw[au] at hj;rw[List.getElem_take,fk j (by omega) (by omega)];rfl
 have e2:[l[i]].filter (fun y=>!q y)=[]:=by simp[hq]
 rw[e1,e2,aW]
theorem Lj.get {α:Type}{q:α->Bool}{l:List α}{i j:Nat}{X:List α}(h:Lj q l (i,j,X))(hj:j < l.length):X[j]? = some l[j]:=by
 have:=h.back;simp only at this;have e:(X.drop j)[0]? = (l.drop j)[0]?:=by rw[this]
 rw[List.getElem?_drop,List.getElem?_drop,dm,ag hj] at e;exact e
theorem Lj.skip {α:Type}{q:α->Bool}{l:List α}{i j:Nat}{X:List α}(h:Lj q l (i,j,X))(hj:j < l.length)(hq:q l[j]=true):Lj q l (i,j+1,X):=by
 obtain⟨h1,h2,h3,h4,h5⟩:=h;simp only at h1 h2 h3 h4 h5;refine⟨by simp only;omega,by simp only;omega,h3,?_,?_⟩
 ·show X.take i=(l.take (j+1)).filter fun y=>!q y;rw[<- List.take_append_getElem hj,List.filter_append,<- h4];simp[hq]
 ·show X.drop (j+1)=l.drop (j+1);rw[<- List.drop_drop,<- List.drop_drop,h5]
theorem Lj.keep {α:Type}{q:α->Bool}{l:List α}{i j:Nat}{X:List α}(h:Lj q l (i,j,X))(hj:j < l.length)(hq:q l[j]=false):Lj q l (i+1,j+1,X.set i l[j]):=by
 obtain⟨h1,h2,h3,h4,h5⟩:=h;simp only at h1 h2 h3 h4 h5;have hi:i < X.length:=by omega
 refine⟨by simp only;omega,by simp only;omega,by simp only[bQ];exact h3,?_,?_⟩
 ·show(X.set i l[j]).take (i+1)=(l.take (j+1)).filter fun y=>!q y;rw[<- List.take_append_getElem hj,List.filter_append,<- h4];have qy:i < (X.set i l[j]).length:=by rw[bQ];exact hi
  rw[<- List.take_append_getElem qy,List.getElem_set_self,List.take_set_of_le (ak i)];simp[hq]
 ·show(X.set i l[j]).drop (j+1)=l.drop (j+1);rw[List.drop_set_of_lt (by omega),<- List.drop_drop,<- List.drop_drop,h5]
theorem Lj.fin {α:Type}{q:α->Bool}{l:List α}{i j:Nat}{X:List α}(h:Lj q l (i,j,X))(hj:j=l.length):X.take i=l.filter (fun y=>!q y)/\i<=X.length:=by
 obtain⟨h1,h2,h3,h4,_⟩:=h;simp only at h1 h2 h3 h4;rw[h4,hj,bj];exact⟨rfl,by omega⟩
theorem Yj {α:Type}{A B:List α}{i:Nat}(h:i<=A.length):(A.take i++B).take i=A.take i:=by
 rw[List.take_append_of_le_length (by rw[au];omega),List.take_take,Nat.min_self]
theorem FM (l:List Int)(q:Int->Bool)(f:Nat)(c:fZ)(w:aG)(hq:∀ o:Int,Ct ae f [.c (.t (iv o)),.dL c.enc 0,.dL w.enc 0] (aEo (q o)) [] true)(hl:l.length*8<=aV):Ja ae 130 [.c (.row 0 0),.fn f [(0,0),(1,0)]] [c.enc.map .t,w.enc.map .t] [⟨3,1,0,l.map eI,none⟩] (.c (.row 0 1)) [c.enc.map .t,w.enc.map .t] [⟨3,1,1,(l.filter fun x=>!q x).map eI,none⟩] []:=by
 have hix:=MM l q f [(c.enc,0),(w.enc,0)] (fun o=>hq o) hl;rcases jb q l with⟨e1,_,e2⟩|⟨i,hi,e1,e2,_⟩
 ·have e3:l.filter (fun x=>!q x)=l:=List.filter_eq_self.2 fun x hx=>by
   have:=List.find?_eq_none.1 e2 x hx;simpa using this
  rw[e3];rw[e1] at hix;refine kz 2 Tryz.func130 rfl (enters_of Tryz.func130 (by kernel_rfl) rfl) tabOk (by kernel_rfl) rfl rfl rfl rfl rfl fun w0 O _=>aEk [3,4] ?_;refine cF hix ⟨⟨rfl,rfl⟩,⟨rfl,⟨⟨rfl,rfl⟩,⟨rfl,rfl⟩,ea⟩⟩,ea⟩ ?_;refine aEk [] (Ei [(0,0)] (Ai (Ai rfl (Ai ?_ (Ai ?_ ?_))) ?_))
  repeat' constructor
 rw[e1] at hix;obtain⟨h3,h4,h5⟩:=List.findIdx?_eq_some_iff_getElem.1 e2;have fk:∀ j (h:j < l.length),j < i->q l[j]=false:=fun j h hj=>by simpa using h5 j hj
 have hw:IntKind.i64.wrap ((i:Int)+1)=((i+1:Nat):Int):=by
  have:=cZ i hi 8 (by decide) hl;injection this with this;injection this
 refine kz 2 Tryz.func130 rfl (enters_of Tryz.func130 (by kernel_rfl) rfl) tabOk (by kernel_rfl) rfl rfl rfl rfl rfl fun w0 O _=>aEk [3,4] ?_;refine cF hix ⟨⟨rfl,rfl⟩,⟨rfl,⟨⟨rfl,rfl⟩,⟨rfl,rfl⟩,ea⟩⟩,ea⟩ ?_;refine aEk [] (Tp.mT (fun x:Nat × Nat × List Int=>⟨[(0,.c (.row 0 0)),(1,.fn f [(0,0),(1,0)]),(5,aEn x.1),(6,aEn x.2.1)],[(0,c.enc.map .t),(1,w.enc.map .t)],[(0,⟨3,1,0,x.2.2.map eI,none⟩)],10000⟩) (Lj q l) (fun x=>l.length - x.2.1) (i,i+1,l) ?_ (Lj.start hi h4 fk) ?_)
 ·refine dN (n1:=2) rfl rfl ?_ ?_ ?_
  ·repeat' constructor
   all_goals exact congrArg (fun n=>aEn n) hw
  repeat' constructor
 rintro⟨i,j,X⟩ hx;have hlen:=hx.len;have nt:=hx.ij;have oY:=hx.jl;simp only at hlen nt oY;refine aEk [7,9,6] (cS (fun hc=>?_) fun hc=>?_)
 ·have hjX:j < X.length:=cJ hc;have hj:j < l.length:=by omega
  have hXj:X[j]=l[j]:=by
   have:=hx.get hj;rw[ag hjX] at this;exact aY this
  refine aEk [] (Ei j (Ai rfl (Ai (by rw[Lm];exact hjX) ?_)));refine Ei (eI X[j]) (Ei _ (Ai (aK _ _ j hjX) (Ai rfl ?_)));refine cF (hq X[j]) ⟨rfl,⟨⟨rfl,rfl⟩,ea⟩,⟨⟨rfl,rfl⟩,ea⟩,ea⟩ ?_;refine cj (cS (fun hqq=>?_) fun hqq=>?_)
  ·rw[hXj] at hqq;refine aEk [] (Ei (i,j+1,X) (Ai (hx.skip hj hqq) (Ai (show l.length - (j+1) < l.length - j by omega) ?_)));refine dN (n1:=2) rfl rfl ?_ ?_ ?_
   ·repeat' constructor
    all_goals exact congrArg (fun n=>AV.c (.t n)) (cZ j hj 8 (by decide) hl)
   repeat' constructor
  ·have hqq:q l[j]=false:=by rw[<- hXj];exact hqq
   have hi:i < X.length:=by omega
   have qy:i < l.length:=by omega
   refine aEk [] (Ei i (Ai rfl (Ai (by rw[Lm];exact hi) ?_)));refine Ei (eI X[i]) (Ai (aK _ _ i hi) (Ai (Nb rfl) ?_));refine aEk [] (Ei (i+1,j+1,X.set i l[j]) (Ai (hx.keep hj hqq) (Ai (show l.length - (j+1) < l.length - j by omega) ?_)));refine dN (n1:=2) rfl rfl ?_ ?_ ?_
   repeat' constructor
   ·exact congrArg (fun n=>AV.c (.t n)) (cZ i qy 8 (by decide) hl)
   ·exact congrArg (fun n=>AV.c (.t n)) (cZ j hj 8 (by decide) hl)
   exact congrArg (fun xs=>some (⟨3,1,0,xs,none⟩:Row)) (by rw[List.map_set,<- hXj];rfl)
 ·have XG:j=l.length:=(dM hc (show j<=X.length by omega)).trans hlen;obtain⟨g1,g2⟩:=hx.fin XG;refine Ei i (Ai rfl (Ai (by rw[Lm];exact g2) ?_));refine Ei [iv 0] (Ai (show zg [.t (.lit (.int .i64 0))] [iv 0] from⟨rfl,ea⟩) (Ai (by rw[Lm];exact g2) ?_));refine Ei i (Ai rfl (Ai (by simp;omega) ?_));refine Ei [(0,0)] (Ai (Ai rfl (Ai ?_ (Ai ?_ ?_))) ?_)
  ·repeat' constructor
   exact(Yj (by rw[Lm];exact g2)).trans (by rw[<- List.map_take];exact congrArg (List.map eI) g1)
  repeat' constructor
theorem xO (a:bJ)(h:a.ok):Ct ae 67 [.agg (a.enc.map .t)] (.agg (a.enc.map .t)) [] false:=by
 obtain⟨_,hm,hm2,_,_,hs,mX,he,qP,_⟩:=h;refine cT Tryz.func67 rfl (by kernel_rfl) rfl fun w0 O _=>aEk [9] ?_;refine cR (sF (u6 _ (cD _ _ _ hm))) ⟨rfl,ea⟩ ?_;refine cR (sF (CX _ (cD _ _ _ hs))) ⟨rfl,ea⟩ ?_;refine cR (xV _ (cD _ _ _ he)) ⟨rfl,ea⟩ ?_;refine aEm (fun k:Nat=>⟨[(1,.ptr 0 0),(2,.ptr 128 0),(18,aEn (a.dv.map cN.enc).length),(19,aEn k)],[(0,(a.enc.map .t).set 49 (.row 9000 0)),(128,List.replicate 72 .bot)],[(9000,⟨125,64,0,a.dv.map cN.enc,none⟩)],10000⟩) (fun k=>k<=a.dv.length) (fun k=>a.dv.length - k) 0 ?_ (aA _) ?_
 ·refine ba [(9000,1792)] rfl rfl ?_ ?_ ?_
  repeat' constructor
 rintro k hk;refine aEk [9] (cS (fun h=>?_) fun h=>?_)
 ·have aU:=cJ h;obtain⟨_,_,_,hem,ajN⟩:=qP a.dv[k] (aH aU);have S0:k < (a.dv.map cN.enc).length:=by rw[Lm];exact aU
  refine Ei k (Ai rfl (Ai S0 ?_));refine Ei (a.dv[k].enc) (Ei _ (Ai (aK _ _ k aU) (Ai rfl ?_)));refine cR (sF (u6 _ (cD _ _ _ hem))) ⟨rfl,ea⟩ ?_;refine Ei k (Ai rfl (Ai S0 ?_));refine Ei (a.dv[k].enc) (Ai (aK _ _ k aU) (Ai (Nb rfl) ?_));refine Ei (k+1) (Ai (show k+1<=_ by omega) (Ai (show a.dv.length - (k+1) < a.dv.length - k by omega) ?_));refine ba [(9000,9000)] rfl rfl ?_ ?_ ?_
  repeat' constructor
  exact cZ k aU 560 (by decide) he;exact OJ (aK _ _ k aU)
 ·have fp:=dM h hk;subst fp;refine aEk [] (Ei [] ?_)
  repeat' constructor
theorem Qz (c:fZ)(o:az):Ct ae 191 [.agg (o.enc.map .t),.dL c.enc 0] (aEo (o.id==c.e.aL&&o.cn==0)) [] true:=by
 refine aEs (b:=false) ?_ rfl;refine cT Tryz.func191 rfl (by kernel_rfl) rfl fun w0 O _=>aEk [] ?_;refine cS (fun h=>?_) fun h=>?_
 ·rw[show(o.id==c.e.aL)=true from h];refine Ei [] ?_
  repeat' constructor
 ·rw[show(o.id==c.e.aL)=false from h];refine Ei [] ?_
  repeat' constructor
theorem Qy (c:fZ)(o:az):Ct ae 192 [.agg (o.enc.map .t),.dL c.enc 0] (aEo (o.id==c.e.aL)) [] true:=by
 refine aEs (b:=false) ?_ rfl;refine cT Tryz.func192 rfl (by kernel_rfl) rfl fun w0 O _=>aEk [] ?_;refine Ei [] ?_
 repeat' constructor
theorem Kq (c:fZ)(h1:c.before.aa.length*128<=aV)(h2:c.after.aa.length*128<=aV):Ct ae 133 [.agg (c.enc.map .t)] (aEo (oh c)) [] true:=by
 refine aEs (b:=false) ?_ rfl;generalize hM:oh c=M;unfold oh at hM;refine cT Tryz.func133 rfl (by kernel_rfl) rfl fun w0 O _=>aEk [] ?_;refine cF (sG c.before.aa (fun o:az=>o.id==c.e.aL&&o.cn==0) 191 [(c.enc,0)] (fun o=>Qz c o) h1) ⟨rfl,⟨rfl,⟨⟨rfl,rfl⟩,ea⟩⟩,ea⟩ ?_;refine cF (sG c.after.aa (fun o:az=>o.id==c.e.aL) 192 [(c.enc,0)] (fun o=>Qy c o) h2) ⟨rfl,⟨rfl,⟨⟨rfl,rfl⟩,ea⟩⟩,ea⟩ ?_;revert hM;generalize decide (kQ (fun o:az=>o.id==c.e.aL&&o.cn==0) c.before.aa>=0)=x;generalize decide (kQ (fun o:az=>o.id==c.e.aL) c.after.aa>=0)=y;intro hM;refine cS (fun h=>?_) fun h=>?_
 ·rw[show(c.e.kind==2)=true from h] at hM;refine cS (fun h=>?_) fun h=>?_
  ·subst h;subst hM;refine Ei [] ?_
   repeat' constructor
  ·subst h;subst hM;refine Ei [] ?_
   repeat' constructor
 ·rw[show(c.e.kind==2)=false from h] at hM;subst hM;refine Ei [] ?_
  repeat' constructor
theorem uZ (s t:aq)(hs:s.aa.length<=1000000)(ht:t.aa.length<=1000000):Ct ae 131 [.agg (s.enc.map .t),.agg (t.enc.map .t)] (.c (.row 0 0)) [⟨3,1,0,(gQ (eN t.aa) (eN s.aa)).map eI,none⟩] true:=by
 refine pD (b:=false) ?_ (ld _);have h1:=wF s (by unfold aV;omega);have h2:=wF t (by unfold aV;omega);have h3:=Ms (eN t.aa) (eN s.aa) (aX (jz _) ht) (aX (jz _) hs);refine cT Tryz.func131 rfl (by kernel_rfl) rfl fun w0 O _=>aEk [] ?_;refine cR h2 ⟨fL t.enc,ea⟩ ?_;refine cR h1 ⟨fL s.enc,ea⟩ ?_;refine cR h3 ⟨rfl,rfl,ea⟩ ?_;refine Ei [(0,1280)] ?_
 repeat' constructor
theorem qo (k id:Int)(s:aq)(all:List aD)(c:fZ)(w:aG)(hs:s.aa.length*128<=aV)(iN:all.length*176<=aV)(tT:∀ y∈all,aD.ok y):Ct ae 129 [.c (.t (iv k)),.c (.t (iv id)),.agg (s.enc.map .t),.c (.t (.sl 17 (all.map aD.enc))),.dL c.enc 0,.dL w.enc 0] (.c (.t (.sl 1 ((qp c.e.kind k id s all w).map eI)))) [] true:=by
 refine sF (ty:=3) (pD (b:=false) ?_ (ld _));generalize hM:qp c.e.kind k id s all w=M;unfold qp at hM;refine cT Tryz.func129 rfl (by kernel_rfl) rfl fun w0 O _=>aEk [] ?_;refine cS (fun h=>?_) fun h=>?_
 ·rw[show(c.e.kind==k)=true from h,cq] at hM;refine cF (CF s all w id hs iN tT) ⟨fL s.enc,rfl,fL w.enc,rfl,ea⟩ ?_;refine cS (fun h=>?_) fun h=>?_
  ·rw[h] at hM;subst hM;refine Ei [(0,1920)] ?_
   repeat' constructor
  ·rw[h] at hM;subst hM;refine Ei [] ?_
   repeat' constructor
 ·rw[show(c.e.kind==k)=false from h,cm] at hM;subst hM;refine Ei [] ?_
  repeat' constructor
theorem Jk (c:fZ)(w:aG)(hs:c.after.aa.length*128<=aV)(iN:c.cg.length*176<=aV)(tT:∀ y∈c.cg,aD.ok y)(id:Int):Ct ae 132 [.c (.t (iv id)),.dL c.enc 0,.dL w.enc 0] (aEo (!iP c.after.aa c.cg id w.you w.id w.aj.aF.filter)) [] true:=by
 refine aEs (b:=false) ?_ rfl;refine cT Tryz.func132 rfl (by kernel_rfl) rfl fun w0 O _=>aEk [] ?_;refine cF (CF c.after c.cg w id hs iN tT) ⟨fL c.after.enc,rfl,fL w.enc,rfl,ea⟩ ?_;refine Ei [] ?_
 repeat' constructor
theorem NG (a:bJ)(h:a.ok):Ct ae 171 [.agg (a.enc.map .t)] (.agg (a.enc.map .t)) [] false:=by
 obtain⟨_,hm,hm2,_,_,hs,mX,he,qP,_⟩:=h;refine cT Tryz.func171 rfl (by kernel_rfl) rfl fun w0 O _=>aEk [10] ?_;refine Ai (.inl rfl) (Ai (fy _ 176 (cD _ _ _ hm)) (Ai (eY _ 176 (by decide) (cD _ _ _ hm)) ?_));refine Ai (.inl rfl) (Ai (fy _ 144 (cD _ _ _ hs)) (Ai (eY _ 144 (by decide) (cD _ _ _ hs)) ?_));refine aEm (fun k:Nat=>⟨[(1,.ptr 0 0),(2,.ptr 128 0),(3,.ptr 384 0),(4,aEn k)],[(0,a.enc.map .t),(128,List.replicate 72 .bot),(384,(a.enc.map .t).set 49 (.row 9000 0))],[(9000,⟨125,64,0,(a.dv.take k).map cN.enc,none⟩)],10000⟩) (fun k=>k<=a.dv.length) (fun k=>a.dv.length - k) 0 ?_ (aA _) ?_
 ·refine ba [] rfl rfl ?_ ?_ ?_
  repeat' constructor
 rintro k hk;refine aEk [10] (cS (fun h=>?_) fun h=>?_)
 ·have aU:=cJ h;obtain⟨_,_,_,hem,ajN⟩:=qP a.dv[k] (aH aU);refine Ei k (Ei (a.dv[k].enc) (Ai rfl (Ai (aK _ _ k aU) ?_)));refine Ai (.inl rfl) (Ai (fy _ 176 (cD _ _ _ hem)) (Ai (eY _ 176 (by decide) (cD _ _ _ hem)) ?_));refine aEq [9000] (aEk [] ?_);refine Ai (.inl rfl) (Ai (gA a.dv cN.enc k aU _ 560 (by decide) he) (Ai (fN a.dv cN.enc k aU _ 560 (by decide) he) ?_));refine Ei (k+1) (Ai (show k+1<=_ by omega) (Ai (show a.dv.length - (k+1) < a.dv.length - k by omega) ?_));refine ba [(9000,9000)] rfl rfl ?_ ?_ ?_
  repeat' constructor
  exact cZ k aU 560 (by decide) he;exact fq a.dv cN.enc k aU
 ·have fp:=dM h hk;subst fp;refine Ei [] ?_
  repeat' constructor
  exact iJ a.dv cN.enc 64
noncomputable def akX (c:er):Int:=Classical.choose (zR c)
theorem acJ (c:er):Ct ae 170 [.agg (c.enc.map .t)] (aEn (akX c)) [] true:=(Classical.choose_spec (zR c)).2
noncomputable def BS (c:bd):aD:=⟨c.name,c.cost,orI (akX c.cost) c.color,c.line,c.dg,c.df,c.keys,c.aI,0⟩
theorem YX {c:bd}(h:c.ok):(BS c).ok:=by
 exact h
noncomputable def ofM (aE:List bd)(o:az):aD:={ (match (if (if o.copy < 0 then o.ee else o.copy) < 0 then none else aE[(if o.copy < 0 then o.ee else o.copy).toNat]?) with
 | some c=>BS c
 | none=>td) with dB:=if o.cn=0\/o.cn=5 then o.dB else o.dq }
theorem Hp (c:bd)(h:c.ok):Ct ae 111 [.agg (c.enc.map .t)] (.agg ((BS c).enc.map .t)) [] false:=by
 obtain⟨_,hl,ha,uj⟩:=h;refine cT Tryz.func111 rfl (by kernel_rfl) rfl fun w0 O _=>aEk [] ?_;refine cF (acJ c.cost) ⟨fL c.cost.enc,ea⟩ ?_;refine Ai (.inl rfl) (Ai (fy _ 16 (cD _ _ _ hl)) (Ai (eY _ 16 (by decide) (cD _ _ _ hl)) ?_));refine aEm (fun k:Nat=>⟨[(1,.ptr 0 0),(2,.ptr 128 0),(3,.ptr 2688 0),(4,aEn k)],[(0,c.enc.map .t),(128,List.replicate 17 .bot),(2688,((BS c).enc.map .t).set 15 (.row 9000 0))],[(9000,⟨69,72,0,(c.aI.take k).map bJ.enc,none⟩)],10000⟩) (fun k=>k<=c.aI.length) (fun k=>c.aI.length - k) 0 ?_ (aA _) ?_
 ·refine ba [] rfl rfl ?_ ?_ ?_
  repeat' constructor
 rintro k hk;refine aEk [] (cS (fun h=>?_) fun h=>?_)
 ·have aU:=cJ h;refine Ei k (Ei (c.aI[k].enc) (Ai rfl (Ai (aK _ _ k aU) ?_)));refine cR (NG c.aI[k] (uj _ (aH aU))) ⟨fL c.aI[k].enc,ea⟩ ?_;refine Ai (.inl rfl) (Ai (gA c.aI bJ.enc k aU _ 640 (by decide) ha) (Ai (fN c.aI bJ.enc k aU _ 640 (by decide) ha) ?_));refine Ei (k+1) (Ai (show k+1<=_ by omega) (Ai (show c.aI.length - (k+1) < c.aI.length - k by omega) ?_));refine ba [(9000,9000)] rfl rfl ?_ ?_ ?_
  repeat' constructor
  exact cZ k aU 640 (by decide) ha;exact fq c.aI bJ.enc k aU
 ·have fp:=dM h hk;subst fp;refine Ei [] ?_
  repeat' constructor
  exact iJ c.aI bJ.enc 72
theorem Xf (aE:List bd)(o:az)(_hc:aE.length*176<=aV)(mc:∀ y∈aE,bd.ok y):Ct ae 54 [.c (.t (.sl 17 (aE.map bd.enc))),.agg (o.enc.map .t)] (.agg ((ofM aE o).enc.map .t)) [] false:=by
 unfold ofM;generalize hi:(if o.copy < 0 then o.ee else o.copy)=i
 generalize ht:(match (if i < 0 then none else aE[i.toNat]?) with
  | some c=>BS c
  | none=>td)=t
 refine cT Tryz.func54 rfl (by kernel_rfl) rfl fun w0 O _=>aEk [3,4,5,6,7,8,9] ?_;apply Cf (P:=ae) (T:=T) (N:=Tryz.f54.ntmps) (w0:=w0) (O:=O) ⟨[(0,.c (.t (.sl 17 (aE.map bd.enc)))),(3,.ptr 0 0),(4,.ptr 128 0),(5,aEn i)],[(0,o.enc.map .t),(128,List.replicate 17 .bot)],[],5000⟩
 case h=>
  intro K;refine cS (fun h=>?_) fun h=>?_
  ·rw[if_pos (of_decide_eq_true h)] at hi;refine aEk [] (aEp (ba [] rfl rfl ?_ ?_ ?_) K)
   ·subst hi
    repeat' constructor
   ·subst hi
    repeat' constructor
   ·subst hi
    repeat' constructor
  ·rw[if_neg (of_decide_eq_false h)] at hi;refine aEp (ba [] rfl rfl ?_ ?_ ?_) K
   ·subst hi
    repeat' constructor
   ·subst hi
    repeat' constructor
   ·subst hi
    repeat' constructor
 case key=>
  refine aEk [] (aEk [] ?_);apply Cf (P:=ae) (T:=T) (N:=Tryz.f54.ntmps) (w0:=w0) (O:=O) ⟨[(3,.ptr 0 0),(4,.ptr 128 0),(6,.ptr 5000 0)],[(0,o.enc.map .t),(128,List.replicate 17 .bot),(5000,t.enc.map .t)],[],15000⟩
  case h=>
   intro K
   have no:(i < 0\/(aE.length:Int)<=i)->td=t:=fun h=>by
    rw[<- ht];split
    ·rename_i c hc;split at hc
     ·cases hc
     ·rw[List.getElem?_eq_none (by omega)] at hc
      cases hc
    ·rfl
   refine cS (fun h=>?_) fun h=>?_
   ·have h0:0<=i:=of_decide_eq_true h;refine cS (fun h=>?_) fun h=>?_
    ·have aU:i.toNat < aE.length:=by
      have:=of_decide_eq_true h;rw[Lm] at this;omega
     have ht:BS aE[i.toNat]=t:=by
      rw[<- ht,if_neg (by omega),ag aU]
     refine aEk [] (Ei i.toNat (Ei (aE[i.toNat].enc) (Ai ?_ (Ai (aK _ _ i.toNat aU) ?_))))
     ·exact(Int.toNat_of_nonneg h0).symm
     refine cR (Hp aE[i.toNat] (mc _ (aH aU))) ⟨fL aE[i.toNat].enc,ea⟩ ?_;refine aEp (ba [] rfl rfl ?_ ?_ ?_) K
     ·subst ht
      repeat' constructor
     ·subst ht
      repeat' constructor
     ·subst ht
      repeat' constructor
    ·have ht:=no (.inr (by
      have:=of_decide_eq_false h;rw[Lm] at this;omega))
     refine aEp (ba [] rfl rfl ?_ ?_ ?_) K
     ·subst ht
      repeat' constructor
     ·subst ht
      repeat' constructor
     ·subst ht
      repeat' constructor
   ·have ht:=no (.inl (by
     have:=of_decide_eq_false h;omega))
    refine aEp (ba [] rfl rfl ?_ ?_ ?_) K
    ·subst ht
     repeat' constructor
    ·subst ht
     repeat' constructor
    ·subst ht
     repeat' constructor
  case key=>
   refine aEk [] (aEk [] (cS (fun h=>?_) fun h=>?_))
   ·have hz:o.cn=0:=by simpa using h
    rw[if_pos (.inl hz)];refine aEk [] (Ei [] ?_)
    repeat' constructor
   ·have hz:¬ o.cn=0:=by simpa using h
    refine cS (fun h=>?_) fun h=>?_
    ·have hz:o.cn=5:=by simpa using h
     rw[if_pos (.inr hz)];refine aEk [] (Ei [] ?_)
     repeat' constructor
    ·have hz5:¬ o.cn=5:=by simpa using h
     rw[if_neg (by rintro(h|h);exact hz h;exact hz5 h)];refine Ei [] ?_
     repeat' constructor
structure qJ (s:aq)(L:List bV)(w:Wd):Prop where
 so:s.aa.length<=4000
 sL:L.length<=1000000
 fo:∀ f∈L,bV.ok f
 all:w.all.length=s.aa.length
 bg:w.bg.length=L.length
 st:w.st.length=L.length
 bl:w.bl.length=s.aa.length
 ok:∀ y∈w.all,aD.ok y
 sl:∀ z∈w.st,z.length<=4000
theorem qJ.h8 {s:aq}{L:List bV}{w:Wd}(h:qJ s L w):s.aa.length*128<=aV:=by
 have:=h.so;unfold aV;omega
theorem qJ.ha {s:aq}{L:List bV}{w:Wd}(h:qJ s L w):w.all.length*176<=aV:=by
 have:=h.so;have:=h.all;unfold aV;omega
theorem PO (l:List az)(id:Int)(h:¬ nJ l id < 0):(nJ l id).toNat < l.length/\((nJ l id).toNat:Int)=nJ l id:=by
 unfold nJ at *;rcases jb (fun o:az=>o.id==id) l with⟨h1,_⟩|⟨i,hi,h1,_⟩
 ·rw[h1] at h;exact absurd (show(-1:Int) < 0 by decide) h
 ·rw[h1];exact⟨hi,rfl⟩
theorem JP (s:aq)(id:Int)(hs:s.aa.length*128<=aV):Ct ae 175 [.agg (s.enc.map .t),.c (.t (iv id))] (aEn (nJ s.aa id)) [] true:=by
 refine aEs (b:=false) ?_ rfl;unfold nJ;refine cT Tryz.func175 rfl (by kernel_rfl) rfl fun w0 O _=>aEk [] ?_;refine aEm (fun k:Nat=>⟨[(1,.c (.t (iv id))),(2,.ptr 0 0),(5,aEn k)],[(0,s.enc.map .t)],[],10000⟩) (fun k=>k<=s.aa.length/\∀ j (h:j < s.aa.length),j < k->(s.aa[j].id==id)=false) (fun k=>s.aa.length - k) 0 ?_ ⟨aA _,fun j _ hj=>absurd hj (Nat.not_lt_zero j)⟩ ?_
 ·refine ba [] rfl rfl ?_ ⟨aC _ rfl,ea⟩ ?_
  repeat' constructor
 rintro k ⟨hk,fk⟩;refine aEk [] (cS (fun h=>?_) fun h=>?_)
 ·have aU:=cJ h;refine Ei k (Ei (s.aa[k].enc) (Ai rfl (Ai (aK _ _ k aU) ?_)));refine cS (fun h=>?_) fun h=>?_
  ·refine Ei [] (Ai rfl (Ai ea ?_));rw[kf _ _ k aU h fk];exact rfl
  ·refine Ei (k+1) (Ai ⟨by omega,fun j hj Am=>?_⟩ (Ai (show s.aa.length - (k+1) < s.aa.length - k by omega) ?_))
   ·by_cases e:j=k
    ·subst e;exact h
    ·exact fk j hj (by omega)
   refine ba [] rfl rfl ?_ ⟨aC _ rfl,ea⟩ ?_
   repeat' constructor
   exact cZ k aU 128 (by decide) hs
 ·have fp:=dM h hk;refine Ei [] (Ai rfl (Ai ea ?_));rw[jj _ _ (fun j hj=>fk j hj (by omega))];exact rfl
theorem N4 (s:aq)(L:List bV)(w:Wd)(H:qJ s L w)(i:Nat)(hi:i < L.length):Ct ae 119 [.agg ((wE s L w).map .t),.c (.t (iv (i:Int)))] (aEn (pK s L[i] w)) [] true:=by
 refine aEs (b:=false) ?_ rfl;have hp:=JP s L[i].dC H.h8;generalize hM:pK s L[i] w=M;unfold pK at hM;refine cT Tryz.func119 rfl (by kernel_rfl) rfl fun w0 O _=>aEk [2] ?_;refine Ei i (Ei (L[i].enc) (Ai rfl (Ai (aK _ _ i hi) ?_)));refine cF hp ⟨fL s.enc,rfl,ea⟩ ?_;refine aEk [] (Ei i (Ei (L[i].enc) (Ai rfl (Ai (aK _ _ i hi) ?_))));refine cS (fun h=>?_) fun h=>?_
 ·rw[h,Bool.true_or,if_pos rfl] at hM;subst hM;refine Ei i (Ei (L[i].enc) (Ai rfl (Ai (aK _ _ i hi) ?_)));refine Ei [] ?_
  repeat' constructor
 ·rw[h,Bool.false_or] at hM;refine cS (fun h=>?_) fun h=>?_
  ·rw[h,if_pos rfl] at hM;subst hM;refine Ei i (Ei (L[i].enc) (Ai rfl (Ai (aK _ _ i hi) ?_)));refine Ei [] ?_
   repeat' constructor
  ·rw[h,if_neg (by decide)] at hM;obtain⟨hq,VR⟩:=PO s.aa L[i].dC (of_decide_eq_false h);have hq3:(nJ s.aa L[i].dC).toNat < w.all.length:=by rw[H.all];exact hq
   rw[tv hq3] at hM;subst hM;refine Ei (nJ s.aa L[i].dC).toNat (Ei ((w.all[(nJ s.aa L[i].dC).toNat]).enc) (Ai VR.symm (Ai (aK _ _ _ hq3) ?_)));refine Ei [] ?_
   repeat' constructor
theorem C4 {l:List Bool}{i:Nat}(h:i < l.length):WC l i=l[i]:=by
 unfold WC;rw[ag h];rfl
theorem sW (s:aq)(L:List bV)(w:Wd)(H:qJ s L w)(i:Nat)(hi:i < L.length):Ct ae 116 [.agg ((wE s L w).map .t),.c (.t (iv (i:Int)))] (aEo (uz s L[i] w i)) [] true:=by
 refine aEs (b:=false) ?_ rfl;have hp:=JP s L[i].dC H.h8;have hb:i < w.bg.length:=by rw[H.bg];exact hi
 generalize hM:uz s L[i] w i=M;unfold uz at hM;rw[C4 hb] at hM;refine cT Tryz.func116 rfl (by kernel_rfl) rfl fun w0 O _=>aEk [3,4] ?_
 have go:(L[i].fixed||w.bg[i])=false->M=(decide (nJ s.aa L[i].dC < 0)||!WC w.bl (nJ s.aa L[i].dC).toNat):=fun h=>by
  rw[<- hM,h,Bool.false_or]
 refine Ei i (Ei (L[i].enc) (Ai rfl (Ai (aK _ _ i hi) ?_)));have fin:M=true->True:=fun _=>trivial;refine cS (fun h=>?_) fun h=>?_
 ·rw[show L[i].fixed=true from h,Bool.true_or,Bool.true_or] at hM;subst hM;refine Ei [] ?_
  repeat' constructor
 ·refine Ei i (Ei (tB w.bg[i]) (Ai rfl (Ai (aK _ _ i hb) ?_)));refine cS (fun h1=>?_) fun h1=>?_
  ·rw[show w.bg[i]=true from h1,Bool.or_true,Bool.true_or] at hM;subst hM;refine Ei [] ?_
   repeat' constructor
  ·have go:=go (by rw[show L[i].fixed=false from h,show w.bg[i]=false from h1];rfl);clear hM fin;refine aEk [] (Ei i (Ei (L[i].enc) (Ai rfl (Ai (aK _ _ i hi) ?_))));refine cF hp ⟨fL s.enc,rfl,ea⟩ ?_;refine aEk [] (cS (fun h2=>?_) fun h2=>?_)
   ·rw[h2,Bool.true_or] at go;subst go;refine Ei [] ?_
    repeat' constructor
   ·rw[h2,Bool.false_or] at go;obtain⟨hq,VR⟩:=PO s.aa L[i].dC (of_decide_eq_false h2);have hq3:(nJ s.aa L[i].dC).toNat < w.bl.length:=by rw[H.bl];exact hq
    rw[C4 hq3] at go;subst go;refine Ei (nJ s.aa L[i].dC).toNat (Ei (tB (w.bl[(nJ s.aa L[i].dC).toNat])) (Ai VR.symm (Ai (aK _ _ _ hq3) ?_)));refine Ei [] ?_
    repeat' constructor
theorem akA (l:List Int)(n:Int)(hl:l.length*8<=aV):Ct ae 120 [.c (.t (.sl 1 (l.map eI))),.c (.t (iv n))] (aEo (sk l n)) [] true:=Cu l n hl
theorem qu (X:List az)(o:az):(X.map az.id).map eI++[eI o.id]=((X++[o]).map az.id).map eI:=by rw[aQ,aQ];rfl
theorem uy (s:aq)(L:List bV)(w:Wd)(H:qJ s L w)(i:Nat)(hi:i < L.length):Ct ae 117 [.agg ((wE s L w).map .t),.c (.t (iv (i:Int)))] (.c (.t (.sl 1 ((nc s L[i] w i).map eI)))) [] false:=by
 have ha:=sW s L w H i hi;have hy:=N4 s L w H i hi;have hf:=H.fo _ (aH hi);have hb:i < w.bg.length:=by rw[H.bg];exact hi
 have fu:i < w.st.length:=by rw[H.st];exact hi
 have h8:=H.h8;have hso:=H.so;generalize hM:nc s L[i] w i=M;unfold nc at hM;rw[C4 hb] at hM;refine cT Tryz.func117 rfl (by kernel_rfl) rfl fun w0 O _=>aEk [3,4,6,12,13] ?_;refine Ei i (Ei (tB w.bg[i]) (Ai rfl (Ai (aK _ _ i hb) ?_)));refine cS (fun h=>?_) fun h=>?_
 ·rw[if_pos (show w.bg[i]=true from h),ag fu] at hM;have hM:w.st[i]=M:=hM;subst hM;refine Ei i (Ei (tZ w.st[i]) (Ai rfl (Ai (aK _ _ i fu) ?_)));refine Ei [] ?_
  repeat' constructor
 ·rw[if_neg (by rw[show w.bg[i]=false from h];decide)] at hM;refine aEk [] (aEk [] (cF ha ⟨fL (wE s L w),rfl,ea⟩ ?_));refine cj (cS (fun h1=>?_) fun h1=>?_)
  ·rw[if_pos (show uz s L[i] w i=true from h1)] at hM;subst hM;refine aEk [] (Ei i (Ei (L[i].enc) (Ai rfl (Ai (aK _ _ i hi) ?_))));refine aEm (fun k:Nat=>⟨[(1,.c (.t (iv (i:Int)))),(2,.ptr 0 0),(5,.c (.row 9000 0)),(6,.ptr 2304 0),(7,aEn k)],[(0,(wE s L w).map .t),(2304,L[i].enc.map .t)],[(9000,⟨3,1,0,((qs (pd s L[i] w) 0 (s.aa.take k)).map az.id).map eI,none⟩)],10000⟩) (fun k=>k<=s.aa.length) (fun k=>s.aa.length - k) 0 ?_ (aA _) ?_
   ·refine ba [(9000,896)] rfl rfl ?_ ⟨aC _ rfl,aC _ rfl,ea⟩ ?_
    repeat' constructor
   rintro k hk;refine aEk [12,13] (cS (fun h=>?_) fun h=>?_)
   ·have aU:=cJ h;have vj:=wW (pd s L[i] w) s.aa k aU;have hyl:=wV (pd s L[i] w) s.aa k
    have hy1:pd s L[i] w k s.aa[k]=true->qs (pd s L[i] w) 0 (s.aa.take k)++[s.aa[k]]=qs (pd s L[i] w) 0 (s.aa.take (k+1)):=fun h=>by
     rw[vj,if_pos h]
    have vF:pd s L[i] w k s.aa[k]=false->qs (pd s L[i] w) 0 (s.aa.take k)=qs (pd s L[i] w) 0 (s.aa.take (k+1)):=fun h=>by
     rw[vj,if_neg (by rw[h];decide),aW]
    have gP:((((qs (pd s L[i] w) 0 (s.aa.take k)).map az.id).map eI).length+1)*8<=140737488355328/\(((qs (pd s L[i] w) 0 (s.aa.take k)).map az.id).map eI).length+1 < 140737488355328:=by
     rw[Lm,Lm];omega
    have Ix:k < w.all.length:=by rw[H.all];exact aU
    have htr:eP w.all k=w.all[k]:=tv Ix;refine Ei k (Ei (s.aa[k].enc) (Ai rfl (Ai (aK _ _ k aU) ?_)));refine cS (fun hz=>?_) fun hz=>?_
    ·have hz:(s.aa[k].cn==0)=false:=by simpa using hz
     refine Ei (k+1) (Ai (show k+1<=_ by omega) (Ai (show s.aa.length - (k+1) < s.aa.length - k by omega) ?_));refine ba [(9000,9000)] rfl rfl ?_ ⟨aC _ rfl,aC _ rfl,ea⟩ ?_
     repeat' constructor
     exact cZ k aU 128 (by decide) h8;exact congrArg (fun x=>(x.map az.id).map eI) (vF (by unfold pd;rw[hz];rfl))
    ·have hz:(s.aa[k].cn==0)=true:=by simpa using hz
     refine aEk [] (cS (fun hx=>?_) fun hx=>?_)
     ·have hx:L[i].fixed=true:=hx;refine cF (akA L[i].aa s.aa[k].id hf.1) ⟨rfl,rfl,ea⟩ ?_;refine cS (fun hh=>?_) fun hh=>?_
      ·have hh:sk L[i].aa s.aa[k].id=true:=hh;refine aEk [] (Ai (.inl rfl) (Ai gP.1 (Ai gP.2 ?_)));refine Ei (k+1) (Ai (show k+1<=_ by omega) (Ai (show s.aa.length - (k+1) < s.aa.length - k by omega) ?_));refine ba [(9000,9000)] rfl rfl ?_ ⟨aC _ rfl,aC _ rfl,ea⟩ ?_
       repeat' constructor
       exact cZ k aU 128 (by decide) h8;exact(qu _ _).trans (congrArg (fun x=>(x.map az.id).map eI) (hy1 (by unfold pd;rw[hz,hx,hh];rfl)))
      ·have hh:sk L[i].aa s.aa[k].id=false:=hh;refine cj (cS (fun hc=>?_) fun hc=>?_)
       ·refine Ei (k+1) (Ai (show k+1<=_ by omega) (Ai (show s.aa.length - (k+1) < s.aa.length - k by omega) ?_));refine ba [(9000,9000)] rfl rfl ?_ ⟨aC _ rfl,aC _ rfl,ea⟩ ?_
        repeat' constructor
        exact cZ k aU 128 (by decide) h8;exact congrArg (fun x=>(x.map az.id).map eI) (vF (by unfold pd;rw[hz,hx,hh];rfl))
       ·have hc:L[i].fixed=false:=hc;rw[hx] at hc
        cases hc
     ·have hx:L[i].fixed=false:=hx;refine cj (cS (fun hc=>?_) fun hc=>?_)
      ·have hc:L[i].fixed=true:=hc;rw[hx] at hc
       cases hc
      refine Ei k (Ei (w.all[k].enc) (Ai rfl (Ai (aK _ _ k Ix) ?_)));refine cF hy ⟨fL (wE s L w),rfl,ea⟩ ?_;refine cF (tG s.aa[k] w.all[k] (pK s L[i] w) L[i].dC L[i].filter (H.ok _ (aH Ix))) ⟨fL s.aa[k].enc,fL w.all[k].enc,rfl,rfl,fL L[i].filter.enc,ea⟩ ?_;refine cS (fun hh=>?_) fun hh=>?_
      ·have hh:fC s.aa[k] (eP w.all k) (pK s L[i] w) L[i].dC L[i].filter=true:=by rw[htr];exact hh
       refine aEk [] (Ai (.inl rfl) (Ai gP.1 (Ai gP.2 ?_)));refine Ei (k+1) (Ai (show k+1<=_ by omega) (Ai (show s.aa.length - (k+1) < s.aa.length - k by omega) ?_));refine ba [(9000,9000)] rfl rfl ?_ ⟨aC _ rfl,aC _ rfl,ea⟩ ?_
       repeat' constructor
       exact cZ k aU 128 (by decide) h8;exact(qu _ _).trans (congrArg (fun x=>(x.map az.id).map eI) (hy1 (by unfold pd;rw[hz,hx,hh];rfl)))
      ·have hh:fC s.aa[k] (eP w.all k) (pK s L[i] w) L[i].dC L[i].filter=false:=by rw[htr];exact hh
       refine Ei (k+1) (Ai (show k+1<=_ by omega) (Ai (show s.aa.length - (k+1) < s.aa.length - k by omega) ?_));refine ba [(9000,9000)] rfl rfl ?_ ⟨aC _ rfl,aC _ rfl,ea⟩ ?_
       repeat' constructor
       exact cZ k aU 128 (by decide) h8;exact congrArg (fun x=>(x.map az.id).map eI) (vF (by unfold pd;rw[hz,hx,hh];rfl))
   ·have fp:=dM h hk;subst fp;refine Ei [] ?_
    repeat' constructor
    rw[bj];exact rfl
  ·rw[if_neg (by rw[show uz s L[i] w i=false from h1];decide)] at hM;subst hM;refine Ei [] ?_
   repeat' constructor
theorem atC (all:List aD)(k:Nat)(_hall:all.length*176<=aV):Ct ae 223 [.c (.t (.sl 17 (all.map aD.enc))),.c (.t (iv (k:Int)))] (.agg ((eP all k).enc.map .t)) [] false:=by
 generalize hS:eP all k=S;refine cT Tryz.func223 rfl (by kernel_rfl) rfl fun w0 O _=>aEk [3] ?_;refine cS (fun h=>?_) fun h=>?_
 ·have ui:all.length<=k:=by
   have:=of_decide_eq_true h;rw[Lm] at this;omega
  rw[Bp ui] at hS;subst hS;refine Ei [] ?_
  repeat' constructor
 ·have aU:k < all.length:=by
   have:=of_decide_eq_false h;rw[Lm] at this;omega
  rw[tv aU] at hS;subst hS;refine aEk [] (Ei k (Ei (all[k].enc) (Ai rfl (Ai (aK _ _ k aU) ?_))));refine Ei [] ?_
  repeat' constructor
theorem Zw (s:aq)(all:List aD)(you src:Int)(q:ck)(hs:s.aa.length<=4000)(iN:all.length*176<=aV)(tT:∀ y∈all,aD.ok y):Ct ae 176 [.agg (s.enc.map .t),.c (.t (.sl 17 (all.map aD.enc))),.c (.t (iv you)),.c (.t (iv src)),.agg (q.enc.map .t)] (.c (.t (.sl 1 ((Vf s all you src q).map eI)))) [] false:=by
 have h8:s.aa.length*128<=aV:=by unfold aV;omega
 unfold Vf;refine cT Tryz.func176 rfl (by kernel_rfl) rfl fun w0 O _=>aEk [] ?_;refine aEm (fun k:Nat=>⟨[(1,.c (.t (.sl 17 (all.map aD.enc)))),(2,.c (.t (iv you))),(3,.c (.t (iv src))),(5,.ptr 0 0),(9,.ptr 128 0),(11,.c (.row 9000 0)),(12,aEn k)],[(0,s.enc.map .t),(128,q.enc.map .t)],[(9000,⟨3,1,0,((qs (fun k o=>fC o (eP all k) you src q) 0 (s.aa.take k)).map az.id).map eI,none⟩)],10000⟩) (fun k=>k<=s.aa.length) (fun k=>s.aa.length - k) 0 ?_ (aA _) ?_
 ·refine ba [] rfl rfl ?_ ⟨aC _ rfl,aC _ rfl,ea⟩ ?_
  repeat' constructor
 rintro k hk;refine aEk [6] (cS (fun h=>?_) fun h=>?_)
 ·have aU:=cJ h;have vj:=wW (fun k o=>fC o (eP all k) you src q) s.aa k aU;have hyl:=wV (fun k o=>fC o (eP all k) you src q) s.aa k
  have gP:((((qs (fun k o=>fC o (eP all k) you src q) 0 (s.aa.take k)).map az.id).map eI).length+1)*8<=140737488355328/\(((qs (fun k o=>fC o (eP all k) you src q) 0 (s.aa.take k)).map az.id).map eI).length+1 < 140737488355328:=by
   rw[Lm,Lm];omega
  refine Ei k (Ei (s.aa[k].enc) (Ai rfl (Ai (aK _ _ k aU) ?_)));refine cR (atC all k iN) ⟨rfl,rfl,ea⟩ ?_;refine cF (tG s.aa[k] (eP all k) you src q (tu tT k)) ⟨fL s.aa[k].enc,fL (eP all k).enc,rfl,rfl,fL q.enc,ea⟩ ?_;refine cS (fun hh=>?_) fun hh=>?_
  ·rw[if_pos (show fC s.aa[k] (eP all k) you src q=true from hh)] at vj;refine aEk [] (Ei k (Ei (s.aa[k].enc) (Ai rfl (Ai (aK _ _ k aU) ?_))));refine Ai (.inl rfl) (Ai gP.1 (Ai gP.2 ?_));refine Ei (k+1) (Ai (show k+1<=_ by omega) (Ai (show s.aa.length - (k+1) < s.aa.length - k by omega) ?_));refine ba [(9000,9000)] rfl rfl ?_ ⟨aC _ rfl,aC _ rfl,ea⟩ ?_
   repeat' constructor
   exact cZ k aU 128 (by decide) h8;exact(qu _ _).trans (congrArg (fun x=>(x.map az.id).map eI) vj.symm)
  ·rw[if_neg (by rw[show fC s.aa[k] (eP all k) you src q=false from hh];decide),aW] at vj;refine Ei (k+1) (Ai (show k+1<=_ by omega) (Ai (show s.aa.length - (k+1) < s.aa.length - k by omega) ?_));refine ba [(9000,9000)] rfl rfl ?_ ⟨aC _ rfl,aC _ rfl,ea⟩ ?_
   repeat' constructor
   exact cZ k aU 128 (by decide) h8;exact congrArg (fun x=>(x.map az.id).map eI) vj.symm
 ·have fp:=dM h hk;subst fp;refine Ei [] ?_
  repeat' constructor
  rw[bj];exact rfl
theorem mS {f:bV}(h:f.ok):f.cH.length*176<=aV:=h.2.2.1
theorem Mq (aR:Int)(l:List dR)(k:Nat)(hk:k < l.length):oz aR (l.take (k+1))=oz aR (l.take k)++(if (km l[k].kind==aR)=true then [l[k]] else []):=by
 unfold oz;rw[aS hk,List.filter_append];congr 1
 by_cases h:(km l[k].kind==aR)=true
 ·rw[if_pos h];simp[h]
 ·rw[if_neg h];simp[h]
theorem xf (aR:Int)(l:List dR)(k:Nat):(oz aR (l.take k)).length<=l.length:=by
 unfold oz;exact aX (cE _ _) (by rw[au];omega)
theorem Mu (c:dR->Int)(X:List dR)(m:dR):(X.map c).map eI++[eI (c m)]=((X++[m]).map c).map eI:=by rw[aQ,aQ];rfl
theorem tN (s:aq)(L:List bV)(w:Wd)(H:qJ s L w)(i:Nat)(hi:i < L.length)(aR:Int):Ct ae 118 [.agg ((wE s L w).map .t),.c (.t (iv (i:Int))),.c (.t (iv aR))] (.c (.t (.sl 1 ((mR s L[i] w aR).map eI)))) [] false:=by
 have hy:=N4 s L w H i hi;have hf:=H.fo _ (aH hi);have uS:=mS hf;have qO:=fun q=>Zw s w.all (pK s L[i] w) L[i].dC q H.so H.ha H.ok;unfold mR;refine cT Tryz.func118 rfl (by kernel_rfl) rfl fun w0 O _=>aEk [] ?_;refine Ei i (Ei (L[i].enc) (Ai rfl (Ai (aK _ _ i hi) ?_)));refine aEm (fun k:Nat=>⟨[(1,.c (.t (iv (i:Int)))),(2,.c (.t (iv aR))),(3,.ptr 0 0),(7,.c (.row 9000 0)),(8,.ptr 1152 0),(9,aEn k)],[(0,(wE s L w).map .t),(1152,L[i].enc.map .t)],[(9000,⟨3,1,0,((oz aR (L[i].cH.take k)).map (xT s L[i] w)).map eI,none⟩)],10000⟩) (fun k=>k<=L[i].cH.length) (fun k=>L[i].cH.length - k) 0 ?_ (aA _) ?_
 ·refine ba [(9000,256)] rfl rfl ?_ ⟨aC _ rfl,aC _ rfl,ea⟩ ?_
  repeat' constructor
 rintro k hk;refine aEk [8,9,10] (cS (fun h=>?_) fun h=>?_)
 ·have aU:=cJ h;have vj:=Mq aR L[i].cH k aU;have hyl:=xf aR L[i].cH k
  have gP:((((oz aR (L[i].cH.take k)).map (xT s L[i] w)).map eI).length+1)*8<=140737488355328/\(((oz aR (L[i].cH.take k)).map (xT s L[i] w)).map eI).length+1 < 140737488355328:=by
   rw[Lm,Lm];unfold aV at uS;omega
  refine Ei k (Ei (L[i].cH[k].enc) (Ai rfl (Ai (aK _ _ k aU) ?_)));refine cF (rC L[i].cH[k].kind) ⟨rfl,ea⟩ ?_;refine cS (fun hn=>?_) fun hn=>?_
  ·have hn:(km L[i].cH[k].kind==aR)=false:=by simpa using hn
   rw[if_neg (by rw[hn];decide),aW] at vj;refine Ei (k+1) (Ai (show k+1<=_ by omega) (Ai (show L[i].cH.length - (k+1) < L[i].cH.length - k by omega) ?_));refine ba [(9000,9000)] rfl rfl ?_ ⟨aC _ rfl,aC _ rfl,ea⟩ ?_
   repeat' constructor
   exact cZ k aU 176 (by decide) uS;exact congrArg (fun x=>(x.map (xT s L[i] w)).map eI) vj.symm
  ·have hn:(km L[i].cH[k].kind==aR)=true:=by simpa using hn
   rw[if_pos hn] at vj;have NU:=(Mu (xT s L[i] w) (oz aR (L[i].cH.take k)) L[i].cH[k]).trans (congrArg (fun x=>(x.map (xT s L[i] w)).map eI) vj.symm);refine aEk [] (Ei k (Ei (L[i].cH[k].enc) (Ai rfl (Ai (aK _ _ k aU) ?_))));refine cS (fun hc=>?_) fun hc=>?_
   ·have hc:L[i].cH[k].kind=11:=by simpa using hc
    have MW:xT s L[i] w L[i].cH[k]=(((Vf s w.all (pK s L[i] w) L[i].dC L[i].cH[k].filter).map eI).length:Nat):=by
     unfold xT;rw[if_pos hc,Lm]
    rw[MW] at NU;refine aEk [] (cF hy ⟨fL (wE s L w),rfl,ea⟩ ?_);refine Ei k (Ei (L[i].cH[k].enc) (Ai rfl (Ai (aK _ _ k aU) ?_)));refine cR (qO L[i].cH[k].filter) ⟨fL s.enc,rfl,rfl,rfl,fL L[i].cH[k].filter.enc,ea⟩ ?_;refine aEk [] (Ai (.inl rfl) (Ai gP.1 (Ai gP.2 ?_)));refine Ei (k+1) (Ai (show k+1<=_ by omega) (Ai (show L[i].cH.length - (k+1) < L[i].cH.length - k by omega) ?_));refine ba [(9000,9000)] rfl rfl ?_ ⟨aC _ rfl,aC _ rfl,ea⟩ ?_
    repeat' constructor
    exact cZ k aU 176 (by decide) uS;exact NU
   ·have hc:¬ L[i].cH[k].kind=11:=by simpa using hc
    have MW:xT s L[i] w L[i].cH[k]=0:=by
     unfold xT;rw[if_neg hc]
    rw[MW] at NU;refine aEk [] (Ai (.inl rfl) (Ai gP.1 (Ai gP.2 ?_)));refine Ei (k+1) (Ai (show k+1<=_ by omega) (Ai (show L[i].cH.length - (k+1) < L[i].cH.length - k by omega) ?_));refine ba [(9000,9000)] rfl rfl ?_ ⟨aC _ rfl,aC _ rfl,ea⟩ ?_
    repeat' constructor
    exact cZ k aU 176 (by decide) uS;exact NU
 ·have fp:=dM h hk;subst fp;refine Ei [] ?_
  repeat' constructor
  rw[bj];exact rfl
theorem NA (f:bV)(aR:Int)(hf:f.ok):Ct ae 56 [.agg (f.enc.map .t),.c (.t (iv aR))] (aEo (Gc f aR)) [] true:=by
 refine aEs (b:=false) ?_ rfl;have uS:=mS hf;generalize hM:Gc f aR=M;unfold Gc at hM;refine cT Tryz.func56 rfl (by kernel_rfl) rfl fun w0 O _=>aEk [] ?_;refine aEm (fun k:Nat=>⟨[(1,.c (.t (iv aR))),(2,.ptr 0 0),(5,aEn k)],[(0,f.enc.map .t)],[],10000⟩) (fun k=>k<=f.cH.length/\∀ j (h:j < f.cH.length),j < k->(km f.cH[j].kind==aR)=false) (fun k=>f.cH.length - k) 0 ?_ ⟨aA _,fun j _ hj=>absurd hj (Nat.not_lt_zero j)⟩ ?_
 ·refine ba [] rfl rfl ?_ ⟨aC _ rfl,ea⟩ ?_
  repeat' constructor
 rintro k ⟨hk,fk⟩;refine aEk [] (cS (fun h=>?_) fun h=>?_)
 ·have aU:=cJ h;refine Ei k (Ei (f.cH[k].enc) (Ai rfl (Ai (aK _ _ k aU) ?_)));refine cF (rC f.cH[k].kind) ⟨rfl,ea⟩ ?_;refine cS (fun h2=>?_) fun h2=>?_
  ·have hp:(km f.cH[k].kind==aR)=true:=h2
   have sq:M=true:=by
    rw[<- hM];exact List.any_eq_true.2 ⟨_,aH aU,hp⟩
   subst sq;refine Ei [] ?_
   repeat' constructor
  ·have hp:(km f.cH[k].kind==aR)=false:=h2;refine Ei (k+1) (Ai ⟨by omega,fun j hj Am=>?_⟩ (Ai (show f.cH.length - (k+1) < f.cH.length - k by omega) ?_))
   ·by_cases e:j=k
    ·subst e;exact hp
    ·exact fk j hj (by omega)
   refine ba [] rfl rfl ?_ ⟨aC _ rfl,ea⟩ ?_
   repeat' constructor
   exact cZ k aU 176 (by decide) uS
 ·have fp:=dM h hk
  have sq:M=false:=by
   rw[<- hM];refine List.any_eq_false.2 fun x hx=>?_;obtain⟨j,hj,rfl⟩:=bD.1 hx;rw[fk j hj (by omega)];decide
  subst sq;refine Ei [] ?_
  repeat' constructor
theorem Wp (f:bV)(aR:Int)(hf:f.ok):Ct ae 122 [.agg (f.enc.map .t),.c (.t (iv aR))] (aEo (Ni f aR)) [] true:=by
 refine aEs (b:=false) ?_ rfl;have uS:=mS hf;generalize hM:Ni f aR=M;unfold Ni at hM;refine cT Tryz.func122 rfl (by kernel_rfl) rfl fun w0 O _=>aEk [] ?_;refine aEm (fun k:Nat=>⟨[(1,.c (.t (iv aR))),(2,.ptr 0 0),(5,aEn k)],[(0,f.enc.map .t)],[],10000⟩) (fun k=>k<=f.cH.length/\∀ j (h:j < f.cH.length),j < k->(f.cH[j].kind==10&&km f.cH[j].kind==aR)=false) (fun k=>f.cH.length - k) 0 ?_ ⟨aA _,fun j _ hj=>absurd hj (Nat.not_lt_zero j)⟩ ?_
 ·refine ba [] rfl rfl ?_ ⟨aC _ rfl,ea⟩ ?_
  repeat' constructor
 rintro k ⟨hk,fk⟩;refine aEk [] (cS (fun h=>?_) fun h=>?_)
 ·have aU:=cJ h;refine Ei k (Ei (f.cH[k].enc) (Ai rfl (Ai (aK _ _ k aU) ?_)));refine cS (fun h1=>?_) fun h1=>?_
  ·have h1:(f.cH[k].kind==10)=true:=h1;refine Ei k (Ei (f.cH[k].enc) (Ai rfl (Ai (aK _ _ k aU) ?_)));refine cF (rC f.cH[k].kind) ⟨rfl,ea⟩ ?_;refine cS (fun h2=>?_) fun h2=>?_
   ·have h2:(km f.cH[k].kind==aR)=true:=h2;have hp:(f.cH[k].kind==10&&km f.cH[k].kind==aR)=true:=by rw[h1,h2];rfl
    have sq:M=true:=by
     rw[<- hM];exact List.any_eq_true.2 ⟨_,aH aU,hp⟩
    subst sq;refine Ei [] ?_
    repeat' constructor
   ·have h2:(km f.cH[k].kind==aR)=false:=h2;have hp:(f.cH[k].kind==10&&km f.cH[k].kind==aR)=false:=by rw[h1,h2];rfl
    refine Ei (k+1) (Ai ⟨by omega,fun j hj Am=>?_⟩ (Ai (show f.cH.length - (k+1) < f.cH.length - k by omega) ?_))
    ·by_cases e:j=k
     ·subst e;exact hp
     ·exact fk j hj (by omega)
    refine ba [] rfl rfl ?_ ⟨aC _ rfl,ea⟩ ?_
    repeat' constructor
    exact cZ k aU 176 (by decide) uS
  ·have h1:(f.cH[k].kind==10)=false:=h1;have hp:(f.cH[k].kind==10&&km f.cH[k].kind==aR)=false:=by rw[h1];rfl
   refine Ei (k+1) (Ai ⟨by omega,fun j hj Am=>?_⟩ (Ai (show f.cH.length - (k+1) < f.cH.length - k by omega) ?_))
   ·by_cases e:j=k
    ·subst e;exact hp
    ·exact fk j hj (by omega)
   refine ba [] rfl rfl ?_ ⟨aC _ rfl,ea⟩ ?_
   repeat' constructor
   exact cZ k aU 176 (by decide) uS
 ·have fp:=dM h hk
  have sq:M=false:=by
   rw[<- hM];refine List.any_eq_false.2 fun x hx=>?_;obtain⟨j,hj,rfl⟩:=bD.1 hx;rw[fk j hj (by omega)];decide
  subst sq;refine Ei [] ?_
  repeat' constructor
def Sv (l:List ByteArray)(sub:ByteArray):Nat:=(l.takeWhile fun x=>Op.bytesLess x.toList sub.toList).length
def NF (l:gw)(sub:ByteArray):gw:=if (!iF sub||(pT l.eu sub||decide ((4:Int)<=(l.eu.length:Nat))))=true then l else⟨l.zw,l.types,(l.eu.take (Sv l.eu sub)++[sub])++l.eu.drop (Sv l.eu sub)⟩
theorem Ot {α:Type}(p:α->Bool):∀ (l:List α) (k:Nat),k<=l.length->(∀ j (h:j < l.length),j < k->p l[j]=true)->(∀ h:k < l.length,p l[k]=false)->(l.takeWhile p).length=k
 | [],k,hk,_,_=>by
  rw[List.takeWhile_nil,bM];simp at hk;exact hk.symm
 | x :: r,0,_,_,h=>by
  have:=h (Nat.zero_lt_succ _);rw[List.takeWhile_cons,show p x=false from this];rfl
 | x :: r,k+1,hk,h1,h2=>by
  have h0:=h1 0 (Nat.zero_lt_succ _) (Nat.zero_lt_succ _);rw[List.takeWhile_cons,show p x=true from h0];show(r.takeWhile p).length+1=k+1;rw[Ot p r k (Nat.le_of_succ_le_succ hk) (fun j hj Am=>h1 (j+1) (Nat.succ_lt_succ hj) (Nat.succ_lt_succ Am)) fun hk=>h2 (Nat.succ_lt_succ hk)]
theorem Sx (l:gw)(sub:ByteArray)(h:l.ok):Ct ae 224 [.agg (l.enc.map .t),.c (.t (sv sub))] (.agg ((NF l sub).enc.map .t)) [] false:=by
 have hl:l.eu.length*16<=aV:=h;generalize hM:NF l sub=M;unfold NF at hM;refine cT Tryz.func224 rfl (by kernel_rfl) rfl fun w0 O _=>aEk [2,3,4,7,8,9] ?_;refine Ai (.inl rfl) (Ai (fy _ 16 (cD _ _ _ hl)) (Ai (eY _ 16 (by decide) (cD _ _ _ hl)) ?_));refine aEp (dc:=⟨[(1,.c (.t (sv sub))),(2,.ptr 0 0),(4,.ptr 128 0),(5,.c (.t (.sl 1 (l.eu.map eS))))],[(0,l.enc.map .t),(128,List.replicate 3 .bot)],[],896⟩) ?_ ?_
 ·refine ba [] rfl rfl ?_ ?_ ?_
  repeat' constructor
 (try refine aEk [] ?_)
 refine cF (zQ sub) ⟨rfl,ea⟩ ?_;refine cj (cS (fun h1=>?_) fun h1=>?_)
 ·have h1:iF sub=true:=h1;refine cF (Mb l sub h) ⟨fL l.enc,rfl,ea⟩ ?_;refine cS (fun h2=>?_) fun h2=>?_
  ·rw[h1,show pT l.eu sub=true from h2,if_pos (by simp)] at hM;subst hM
   (try refine aEk [] ?_)
   refine Ei [] ?_
   repeat' constructor
  ·refine cS (fun h3=>?_) fun h3=>?_
   ·have h3:decide ((4:Int)<=(l.eu.length:Nat))=true:=by
     have:=of_decide_eq_true h3;rw[Lm] at this;exact decide_eq_true this
    rw[h1,show pT l.eu sub=false from h2,h3,if_pos (by simp)] at hM;subst hM
    (try refine aEk [] ?_)
    refine Ei [] ?_
    repeat' constructor
   ·have h3:decide ((4:Int)<=(l.eu.length:Nat))=false:=by
     have:=of_decide_eq_false h3;rw[Lm] at this;exact decide_eq_false this
    rw[h1,show pT l.eu sub=false from h2,h3,if_neg (by simp)] at hM
    have h4l:l.eu.length < 4:=by
     have:=of_decide_eq_false h3;omega
    (try refine aEk [] ?_)
    have ex:∀ k:Nat,k<=l.eu.length->Sv l.eu sub=k->M.enc=[iv l.zw,iv l.types,.sl 1 ((((l.eu.map eS).take k).drop 0++[eS sub])++((l.eu.map eS).take (l.eu.map eS).length).drop k)]:=fun k hk e=>by
     rw[<- hM,e,bj,List.drop_zero,<- List.map_take,<- List.map_drop];show [iv l.zw,iv l.types,Tr.sl 1 (((l.eu.take k++[sub])++l.eu.drop k).map eS)]=_;rw[aQ,aQ];rfl
    refine aEm (fun k:Nat=>⟨[(1,.c (.t (sv sub))),(2,.ptr 0 0),(4,.ptr 128 0),(5,.c (.t (.sl 1 (l.eu.map eS)))),(6,aEn k)],[(0,l.enc.map .t),(128,List.replicate 3 .bot)],[],10000⟩) (fun k=>k<=l.eu.length/\∀ j (h:j < l.eu.length),j < k->Op.bytesLess l.eu[j].toList sub.toList=true) (fun k=>l.eu.length - k) 0 ?_ ⟨aA _,fun j _ hj=>absurd hj (Nat.not_lt_zero j)⟩ ?_
    ·refine ba [] rfl rfl ?_ ?_ ?_
     repeat' constructor
    rintro k ⟨hk,fk⟩
    (try refine aEk [] ?_)
    refine cS (fun h4=>?_) fun h4=>?_
    ·have aU:=cJ h4;refine Ei k (Ei (eS l.eu[k]) (Ai rfl (Ai (aK _ _ k aU) ?_)));refine cS (fun h5=>?_) fun h5=>?_
     ·refine Ei (k+1) (Ai ⟨by omega,fun j hj Am=>?_⟩ (Ai (show l.eu.length - (k+1) < l.eu.length - k by omega) ?_))
      ·by_cases e:j=k
       ·subst e;exact h5
       ·exact fk j hj (by omega)
      refine ba [] rfl rfl ?_ ?_ ?_
      ·repeat' constructor
       exact cZ k aU 16 (by decide) hl
      repeat' constructor
     ·have ex:=ex k hk (Ot _ _ _ hk fk fun _=>h5)
      (try refine aEk [] ?_)
      refine Ei 0 (Ei k (Ai rfl (Ai rfl (Ai (aA _) (Ai (by rw[Lm];exact hk) ?_)))))
      have b1:(([]:List (List Tr)).length+(((l.eu.map eS).take k).drop 0).length)*16<=140737488355328/\([]:List (List Tr)).length+(((l.eu.map eS).take k).drop 0).length < 140737488355328:=by
       rw[aO,au,Lm,bM];omega
      refine Ai (.inl rfl) (Ai b1.1 (Ai b1.2 ?_))
      (try refine aEk [] ?_)
      have b2:((([]:List (List Tr))++((l.eu.map eS).take k).drop 0).length+1)*16<=140737488355328/\(([]:List (List Tr))++((l.eu.map eS).take k).drop 0).length+1 < 140737488355328:=by
       rw[bE,aO,au,Lm];omega
      refine Ai (.inl rfl) (Ai b2.1 (Ai b2.2 ?_))
      (try refine aEk [] ?_)
      refine Ei k (Ei (l.eu.map eS).length (Ai rfl (Ai rfl (Ai (by rw[Lm];exact hk) (Ai (ak _) ?_)))))
      have b3:(((([]:List (List Tr))++((l.eu.map eS).take k).drop 0)++[eS sub]).length+(((l.eu.map eS).take (l.eu.map eS).length).drop k).length)*16<=140737488355328/\((([]:List (List Tr))++((l.eu.map eS).take k).drop 0)++[eS sub]).length+(((l.eu.map eS).take (l.eu.map eS).length).drop k).length < 140737488355328:=by
       rw[bE,al,aO,au,Lm,aO,au,Lm];simp only[List.length_singleton];omega
      refine Ai (.inl rfl) (Ai b3.1 (Ai b3.2 ?_));rw[ex];refine Ei [] ?_
      repeat' constructor
    ·have fp:=dM h4 hk;have ex:=ex k hk (Ot _ _ _ hk fk fun h=>absurd h (by omega))
     (try refine aEk [] ?_)
     refine Ei 0 (Ei k (Ai rfl (Ai rfl (Ai (aA _) (Ai (by rw[Lm];exact hk) ?_)))))
     have b1:(([]:List (List Tr)).length+(((l.eu.map eS).take k).drop 0).length)*16<=140737488355328/\([]:List (List Tr)).length+(((l.eu.map eS).take k).drop 0).length < 140737488355328:=by
      rw[aO,au,Lm,bM];omega
     refine Ai (.inl rfl) (Ai b1.1 (Ai b1.2 ?_))
     (try refine aEk [] ?_)
     have b2:((([]:List (List Tr))++((l.eu.map eS).take k).drop 0).length+1)*16<=140737488355328/\(([]:List (List Tr))++((l.eu.map eS).take k).drop 0).length+1 < 140737488355328:=by
      rw[bE,aO,au,Lm];omega
     refine Ai (.inl rfl) (Ai b2.1 (Ai b2.2 ?_))
     (try refine aEk [] ?_)
     refine Ei k (Ei (l.eu.map eS).length (Ai rfl (Ai rfl (Ai (by rw[Lm];exact hk) (Ai (ak _) ?_)))))
     have b3:(((([]:List (List Tr))++((l.eu.map eS).take k).drop 0)++[eS sub]).length+(((l.eu.map eS).take (l.eu.map eS).length).drop k).length)*16<=140737488355328/\((([]:List (List Tr))++((l.eu.map eS).take k).drop 0)++[eS sub]).length+(((l.eu.map eS).take (l.eu.map eS).length).drop k).length < 140737488355328:=by
      rw[bE,al,aO,au,Lm,aO,au,Lm];simp only[List.length_singleton];omega
     refine Ai (.inl rfl) (Ai b3.1 (Ai b3.2 ?_));rw[ex];refine Ei [] ?_
     repeat' constructor
 ·rw[show iF sub=false from h1,if_pos (by simp)] at hM;subst hM
  (try refine aEk [] ?_)
  refine Ei [] ?_
  repeat' constructor
def anI (a b:Int):Int:=IntKind.i64.wrap (((BitVec.ofInt IntKind.i64.bits a &&& ~~~ BitVec.ofInt IntKind.i64.bits b).toNat:Nat):Int)
noncomputable def Va (m:dR):Bool:=Classical.choose (JE m)
theorem U9 (m:dR):Ct ae 160 [.agg (m.enc.map .t)] (aEo (Va m)) [] true:=(Classical.choose_spec (JE m)).2
noncomputable def C7 (t:aD)(m:dR)(you n:Int):aD:=
 if Va m=false then t
 else if m.kind=1 then { t with dB:=you }
 else if m.kind=2 then { t with line:={ t.line with types:=m.n } }
 else if m.kind=3 then { t with line:={ t.line with types:=orI t.line.types m.n } }
 else if m.kind=4 then { t with line:={ t.line with eu:=[m.sub] } }
 else if m.kind=5 then { t with line:=NF t.line m.sub }
 else if m.kind=6 then { t with ek:=m.n }
 else if m.kind=7 then { t with ek:=orI t.ek m.n }
 else if m.kind=8 then { t with keys:=orI t.keys m.n }
 else if m.kind=9 then { t with keys:=anI t.keys m.n }
 else if m.kind=10 then { t with keys:=0,aI:=[] }
 else if m.kind=11 then { t with dg:=dx n,df:=dx n }
 else if m.kind=12 then { t with dg:=m.n,df:=m.m }
 else if m.kind=13 then { t with dg:=fK t.dg m.n,df:=fK t.df m.m }
 else if m.kind=14 then { t with dg:=t.df,df:=t.dg }
 else t
theorem WH (t:aD)(m:dR)(you n:Int)(h:t.ok):Ct ae 178 [.agg (t.enc.map .t),.agg (m.enc.map .t),.c (.t (iv you)),.c (.t (iv n))] (.agg ((C7 t m you n).enc.map .t)) [] false:=by
 generalize hM:C7 t m you n=M;unfold C7 at hM;refine cT Tryz.func178 rfl (by kernel_rfl) rfl fun w0 O _=>aEk [38] ?_;refine cF (U9 m) ⟨fL m.enc,ea⟩ ?_;refine cj (cS (fun h0=>?_) fun h0=>?_)
 ·rw[if_neg (by rw[show Va m=true from h0];decide)] at hM;refine cS (fun h1=>?_) fun h1=>?_
  ·have h1:m.kind=1:=by simpa using h1
   rw[if_pos h1] at hM;subst hM
   (try refine aEk [] ?_)
   refine Ei [] ?_
   repeat' constructor
  ·have h1:¬ m.kind=1:=by simpa using h1
   rw[if_neg h1] at hM;refine cS (fun h1=>?_) fun h1=>?_
   ·have h1:m.kind=2:=by simpa using h1
    rw[if_pos h1] at hM;subst hM
    (try refine aEk [] ?_)
    refine Ei [] ?_
    repeat' constructor
   ·have h1:¬ m.kind=2:=by simpa using h1
    rw[if_neg h1] at hM;refine cS (fun h1=>?_) fun h1=>?_
    ·have h1:m.kind=3:=by simpa using h1
     rw[if_pos h1] at hM;subst hM
     (try refine aEk [] ?_)
     refine Ei [] ?_
     repeat' constructor
    ·have h1:¬ m.kind=3:=by simpa using h1
     rw[if_neg h1] at hM;refine cS (fun h1=>?_) fun h1=>?_
     ·have h1:m.kind=4:=by simpa using h1
      rw[if_pos h1] at hM;subst hM
      (try refine aEk [] ?_)
      refine Ei [] ?_
      repeat' constructor
     ·have h1:¬ m.kind=4:=by simpa using h1
      rw[if_neg h1] at hM;refine cS (fun h1=>?_) fun h1=>?_
      ·have h1:m.kind=5:=by simpa using h1
       rw[if_pos h1] at hM;subst hM;refine cR (Sx t.line m.sub h.2.1) ⟨fL t.line.enc,rfl,ea⟩ ?_
       (try refine aEk [] ?_)
       refine Ei [] ?_
       repeat' constructor
      ·have h1:¬ m.kind=5:=by simpa using h1
       rw[if_neg h1] at hM;refine cS (fun h1=>?_) fun h1=>?_
       ·have h1:m.kind=6:=by simpa using h1
        rw[if_pos h1] at hM;subst hM
        (try refine aEk [] ?_)
        refine Ei [] ?_
        repeat' constructor
       ·have h1:¬ m.kind=6:=by simpa using h1
        rw[if_neg h1] at hM;refine cS (fun h1=>?_) fun h1=>?_
        ·have h1:m.kind=7:=by simpa using h1
         rw[if_pos h1] at hM;subst hM
         (try refine aEk [] ?_)
         refine Ei [] ?_
         repeat' constructor
        ·have h1:¬ m.kind=7:=by simpa using h1
         rw[if_neg h1] at hM;refine cS (fun h1=>?_) fun h1=>?_
         ·have h1:m.kind=8:=by simpa using h1
          rw[if_pos h1] at hM;subst hM
          (try refine aEk [] ?_)
          refine Ei [] ?_
          repeat' constructor
         ·have h1:¬ m.kind=8:=by simpa using h1
          rw[if_neg h1] at hM;refine cS (fun h1=>?_) fun h1=>?_
          ·have h1:m.kind=9:=by simpa using h1
           rw[if_pos h1] at hM;subst hM
           (try refine aEk [] ?_)
           refine Ei [] ?_
           repeat' constructor
          ·have h1:¬ m.kind=9:=by simpa using h1
           rw[if_neg h1] at hM;refine cS (fun h1=>?_) fun h1=>?_
           ·have h1:m.kind=10:=by simpa using h1
            rw[if_pos h1] at hM;subst hM
            (try refine aEk [] ?_)
            refine Ei [] ?_
            repeat' constructor
           ·have h1:¬ m.kind=10:=by simpa using h1
            rw[if_neg h1] at hM;refine cS (fun h1=>?_) fun h1=>?_
            ·have h1:m.kind=11:=by simpa using h1
             rw[if_pos h1] at hM;subst hM;refine cF (oN n) ⟨rfl,ea⟩ ?_;refine cF (oN n) ⟨rfl,ea⟩ ?_
             (try refine aEk [] ?_)
             refine Ei [] ?_
             repeat' constructor
            ·have h1:¬ m.kind=11:=by simpa using h1
             rw[if_neg h1] at hM;refine cS (fun h1=>?_) fun h1=>?_
             ·have h1:m.kind=12:=by simpa using h1
              rw[if_pos h1] at hM;subst hM
              (try refine aEk [] ?_)
              refine Ei [] ?_
              repeat' constructor
             ·have h1:¬ m.kind=12:=by simpa using h1
              rw[if_neg h1] at hM;refine cS (fun h1=>?_) fun h1=>?_
              ·have h1:m.kind=13:=by simpa using h1
               rw[if_pos h1] at hM;subst hM;refine cF (lz t.dg m.n) ⟨rfl,rfl,ea⟩ ?_;refine cF (lz t.df m.m) ⟨rfl,rfl,ea⟩ ?_
               (try refine aEk [] ?_)
               refine Ei [] ?_
               repeat' constructor
              ·have h1:¬ m.kind=13:=by simpa using h1
               rw[if_neg h1] at hM;refine cS (fun h1=>?_) fun h1=>?_
               ·have h1:m.kind=14:=by simpa using h1
                rw[if_pos h1] at hM;subst hM
                (try refine aEk [] ?_)
                refine Ei [] ?_
                repeat' constructor
               ·have h1:¬ m.kind=14:=by simpa using h1
                rw[if_neg h1] at hM;subst hM
                (try refine aEk [] ?_)
                refine Ei [] ?_
                repeat' constructor
 ·rw[if_pos (show Va m=false from h0)] at hM;subst hM
  (try refine aEk [] ?_)
  refine Ei [] ?_
  repeat' constructor
theorem acU {l:gw}{sub:ByteArray}(h:l.ok):(NF l sub).ok:=by
 have h:l.eu.length*16<=aV:=h;unfold NF;split
 ·exact h
 ·rename_i hc;show((l.eu.take (Sv l.eu sub)++[sub])++l.eu.drop (Sv l.eu sub)).length*16<=aV;simp at hc;simp only[al,au,aO,List.length_singleton];unfold aV;omega
theorem iW {c:Prop}[Decidable c]{x y:aD}(h1:x.ok)(h2:y.ok):(if c then x else y).ok:=by
 split
 ·exact h1
 ·exact h2
theorem Ld {t:aD}{m:dR}{you n:Int}(h:t.ok):(C7 t m you n).ok:=by
 have h':=h;obtain⟨h1,h2,h3,h4⟩:=h;unfold C7;have hs:([m.sub]:List ByteArray).length*16<=aV:=by unfold aV;exact Nb rfl
 exact(iW h' (iW ⟨h1,h2,h3,h4⟩ (iW ⟨h1,h2,h3,h4⟩ (iW ⟨h1,h2,h3,h4⟩ (iW ⟨h1,hs,h3,h4⟩ (iW ⟨h1,acU h2,h3,h4⟩ (iW ⟨h1,h2,h3,h4⟩ (iW ⟨h1,h2,h3,h4⟩ (iW ⟨h1,h2,h3,h4⟩ (iW ⟨h1,h2,h3,h4⟩ (iW ⟨h1,h2,aA _,fun _ h=>absurd h List.not_mem_nil⟩ (iW ⟨h1,h2,h3,h4⟩ (iW ⟨h1,h2,h3,h4⟩ (iW ⟨h1,h2,h3,h4⟩ (iW ⟨h1,h2,h3,h4⟩ h')))))))))))))))
noncomputable def tS (aR you:Int)(kO:List Int):aD->List dR->Nat->aD
 | t,[],_=>t
 | t,m :: r,n=>if (km m.kind==aR)=true then tS aR you kO (C7 t m you ((kO[n]?).getD 0)) r (n+1) else tS aR you kO t r n
theorem B7 {aR you:Int}{kO:List Int}:∀ {l:List dR} {t:aD} {n:Nat},t.ok->(tS aR you kO t l n).ok
 | [],_,_,h=>h
 | m :: r,t,n,h=>by
  unfold tS;split
  ·exact B7 (Ld h)
  ·exact B7 h
theorem HW (t:aD)(f:bV)(aR you:Int)(kO:List Int)(ht:t.ok)(hf:f.ok)(hn:(oz aR f.cH).length<=kO.length)(hn8:kO.length*8<=aV):Ct ae 121 [.agg (t.enc.map .t),.agg (f.enc.map .t),.c (.t (iv aR)),.c (.t (iv you)),.c (.t (.sl 1 (kO.map eI)))] (.agg ((tS aR you kO t f.cH 0).enc.map .t)) [] false:=by
 have uS:=mS hf;generalize hG:tS aR you kO t f.cH 0=G;refine cT Tryz.func121 rfl (by kernel_rfl) rfl fun w0 O _=>aEk [] ?_;refine aEm (α:=Nat × aD × Nat) (fun x=>⟨[(2,.c (.t (iv aR))),(3,.c (.t (iv you))),(4,.c (.t (.sl 1 (kO.map eI)))),(5,.ptr 0 0),(6,.ptr 128 0),(10,.ptr 256 0),(11,aEn x.2.2),(12,aEn x.1)],[(0,x.2.1.enc.map .t),(128,f.enc.map .t),(256,List.replicate 17 .bot)],[],10000⟩) (fun x=>x.1<=f.cH.length/\x.2.1.ok/\x.2.2+(oz aR (f.cH.drop x.1)).length<=kO.length/\tS aR you kO x.2.1 (f.cH.drop x.1) x.2.2=G) (fun x=>f.cH.length - x.1) (0,t,0) ?_ ⟨aA _,ht,by show 0+(oz aR (f.cH.drop 0)).length<=kO.length;rw[List.drop_zero];omega,hG⟩ ?_
 ·refine ba [] rfl rfl ?_ ?_ ?_
  ·repeat' constructor
  ·refine⟨aC _ rfl,aC _ rfl,?_,ea⟩
   repeat' constructor
  ·repeat' constructor
 rintro⟨k,t',n⟩ ⟨hk,mI,MW,he⟩;have mI:t'.ok:=mI;have hk:k<=f.cH.length:=hk;refine aEk [] (cS (fun h=>?_) fun h=>?_)
 ·have aU:k < f.cH.length:=cJ h;rw[cd aU] at he MW;unfold tS at he;unfold oz at MW;refine Ei k (Ei (f.cH[k].enc) (Ai rfl (Ai (aK _ _ k aU) ?_)));refine cF (rC f.cH[k].kind) ⟨rfl,ea⟩ ?_;refine cS (fun h2=>?_) fun h2=>?_
  ·have h2:(km f.cH[k].kind==aR)=true:=h2;rw[if_pos h2] at he;rw[List.filter_cons_of_pos (p:=fun m:dR=>km m.kind==aR) h2,aZ] at MW
   have Cp:n < kO.length:=by
    have MW:n+((oz aR (f.cH.drop (k+1))).length+1)<=kO.length:=MW;omega
   rw[ag Cp] at he;refine Ei k (Ei (f.cH[k].enc) (Ai rfl (Ai (aK _ _ k aU) ?_)));refine Ei n (Ei (eI kO[n]) (Ai rfl (Ai (aK _ _ n Cp) ?_)));refine cR (WH t' f.cH[k] you kO[n] mI) ⟨fL t'.enc,fL f.cH[k].enc,rfl,rfl,ea⟩ ?_
   refine Ei (k+1,C7 t' f.cH[k] you kO[n],n+1) (Ai ⟨aU,Ld mI,(by
    have MW:n+((oz aR (f.cH.drop (k+1))).length+1)<=kO.length:=MW;show n+1+(oz aR (f.cH.drop (k+1))).length<=kO.length;omega),he⟩ (Ai (show f.cH.length - (k+1) < f.cH.length - k by omega) ?_))
   refine ba [] rfl rfl ?_ ?_ ?_
   ·repeat' constructor
    ·exact cZ n Cp 8 (by decide) hn8
    ·exact cZ k aU 176 (by decide) uS
   ·refine⟨aC _ rfl,aC _ rfl,?_,ea⟩
    repeat' constructor
   ·repeat' constructor
  ·have h2:(km f.cH[k].kind==aR)=false:=h2;rw[if_neg (by rw[h2];decide)] at he;rw[List.filter_cons_of_neg (p:=fun m:dR=>km m.kind==aR) (by rw[h2];decide)] at MW;refine Ei (k+1,t',n) (Ai ⟨aU,mI,MW,he⟩ (Ai (show f.cH.length - (k+1) < f.cH.length - k by omega) ?_));refine ba [] rfl rfl ?_ ?_ ?_
   ·repeat' constructor
    exact cZ k aU 176 (by decide) uS
   ·refine⟨aC _ rfl,aC _ rfl,?_,ea⟩
    repeat' constructor
   ·repeat' constructor
 ·have fp:k=f.cH.length:=dM h hk;rw[fp,List.drop_eq_nil_of_le (ak _)] at he;have he:t'=G:=he;rw[<- he];refine Ei [] ?_
  repeat' constructor
def idK (s:aq)(k:Nat):Int:=((s.aa[k]?).map az.id).getD 0
theorem Z4 {s:aq}{k:Nat}(h:k < s.aa.length):idK s k=s.aa[k].id:=by
 unfold idK;rw[ag h];rfl
noncomputable def Dj (s:aq)(f:bV)(w:Wd)(i:Nat)(aR:Int)(k:Nat)(t:aD):aD:=if sk (nc s f w i) (idK s k)=true then tS aR (pK s f w) (mR s f w aR) t f.cH 0 else t
def vn (s:aq)(f:bV)(w:Wd)(i:Nat)(aR:Int)(k:Nat)(b:Bool):Bool:=if sk (nc s f w i) (idK s k)=true/\Ni f aR=true then true else b
noncomputable def alF (s:aq)(f:bV)(w:Wd)(i:Nat)(aR:Int)(n:Nat):Wd:=⟨mu (Dj s f w i aR) n w.all,w.bg.set i true,w.st.set i (nc s f w i),mu (vn s f w i aR) n w.bl⟩
noncomputable def sQ (s:aq)(f:bV)(w:Wd)(i:Nat)(aR:Int):Wd:=if uz s f w i=true then alF s f w i aR s.aa.length else w
theorem sD {s:aq}{L:List bV}{w:Wd}(H:qJ s L w)(f:bV)(i:Nat):(nc s f w i).length<=4000:=by
 unfold nc;have hso:=H.so;split
 ·cases hq:w.st[i]? with
  | none=>exact aA _
  | some z=>exact H.sl z (bc hq)
 ·split
  ·rw[Lm];exact aX (vA _ _ _) hso
  ·exact aA _
theorem AI (s:aq)(L:List bV)(w:Wd)(H:qJ s L w)(i:Nat)(hi:i < L.length)(aR:Int):Ct ae 58 [.agg ((wE s L w).map .t),.c (.t (iv (i:Int))),.c (.t (iv aR))] (.agg ((wE s L (sQ s L[i] w i aR)).map .t)) [] false:=by
 have hac:=sW s L w H i hi;have hef:=uy s L w H i hi;have hnu:=tN s L w H i hi aR;have hyo:=N4 s L w H i hi;have hf:=H.fo _ (aH hi);have Z8:=sD H L[i] i;have uS:=mS hf;have hdr:=Wp L[i] aR hf;have h8:=H.h8;have hso:=H.so;have hsL:=H.sL;have ga:=H.all;have gb:=H.bg;have gs:=H.st;have gl:=H.bl;have MS:(oz aR L[i].cH).length<=(mR s L[i] w aR).length:=by unfold mR;rw[Lm];exact ak _
 have aqY:(mR s L[i] w aR).length*8<=aV:=by
  unfold mR;rw[Lm];have:=xf aR L[i].cH L[i].cH.length;rw[bj] at this;unfold aV at *;omega
 generalize hM:sQ s L[i] w i aR=M;unfold sQ at hM;refine cT Tryz.func58 rfl (by kernel_rfl) rfl fun w0 O _=>aEk [3,7,11,12,16,17,18,20] ?_;refine cF hac ⟨fL (wE s L w),rfl,ea⟩ ?_;refine cj (cS (fun h=>?_) fun h=>?_)
 ·rw[if_pos (show uz s L[i] w i=true from h)] at hM;refine aEk [] (cR hef ⟨fL (wE s L w),rfl,ea⟩ ?_);refine cR hnu ⟨fL (wE s L w),rfl,rfl,ea⟩ ?_;refine cF hyo ⟨fL (wE s L w),rfl,ea⟩ ?_;refine aEk [] ?_;have c1:(w.all.map aD.enc).length*176<=140737488355328/\(w.all.map aD.enc).length < 140737488355328:=by rw[Lm];omega
  have c2:(w.bg.map tB).length*1<=140737488355328/\(w.bg.map tB).length < 140737488355328:=by rw[Lm];omega
  have c3:(w.st.map tZ).length*24<=140737488355328/\(w.st.map tZ).length < 140737488355328:=by rw[Lm];omega
  have c4:(w.bl.map tB).length*1<=140737488355328/\(w.bl.map tB).length < 140737488355328:=by rw[Lm];omega
  refine Ai (.inl rfl) (Ai c1.1 (Ai c1.2 ?_));refine Ai (.inl rfl) (Ai c2.1 (Ai c2.2 ?_));refine Ai (.inl rfl) (Ai c3.1 (Ai c3.2 ?_));refine Ai (.inl rfl) (Ai c4.1 (Ai c4.2 ?_));refine aEp (dc:=⟨[(1,.c (.t (iv (i:Int)))),(2,.c (.t (iv aR))),(3,.ptr 0 0),(6,.ptr 128 0),(7,.c (.t (.sl 1 ((nc s L[i] w i).map eI)))),(8,.c (.t (.sl 1 ((mR s L[i] w aR).map eI)))),(9,aEn (pK s L[i] w)),(10,.ptr 3072 0)],[(0,(wE s L w).map .t),(128,List.replicate 24 .bot),(3072,s.enc.map .t++[.row 9000 0,.t (.sl 23 (L.map bV.enc)),.row 9001 0,.row 9002 0,.row 9003 0])],[(9000,⟨138,17,0,w.all.map aD.enc,none⟩),(9001,⟨4,1,0,w.bg.map tB,none⟩),(9002,⟨25,1,0,w.st.map tZ,none⟩),(9003,⟨4,1,0,w.bl.map tB,none⟩)],10000⟩) ?_ ?_
  ·refine ba [(9000,3840),(9001,4736),(9002,5632),(9003,6528)] rfl rfl ?_ ?_ ?_
   ·repeat' constructor
   ·refine⟨aC _ rfl,?_,?_,ea⟩
    repeat' constructor
   ·repeat' constructor
  have pS:i < w.bg.length:=by rw[gb];exact hi
  have qL:i < w.st.length:=by rw[gs];exact hi
  have hib:i < (w.bg.map tB).length:=by rw[Lm];exact pS
  have his:i < (w.st.map tZ).length:=by rw[Lm];exact qL
  refine aEk [] (Ei i (Ai rfl (Ai hib ?_)));refine Ei (tB w.bg[i]) (Ai (aK _ _ i pS) (Ai (Nb rfl) ?_));refine aEk [] (Ei i (Ai rfl (Ai his ?_)));refine Ei (tZ w.st[i]) (Ai (aK _ _ i qL) (Ai (Nb rfl) ?_));refine aEm (fun k:Nat=>⟨[(1,.c (.t (iv (i:Int)))),(2,.c (.t (iv aR))),(3,.ptr 0 0),(6,.ptr 128 0),(7,.c (.t (.sl 1 ((nc s L[i] w i).map eI)))),(8,.c (.t (.sl 1 ((mR s L[i] w aR).map eI)))),(9,aEn (pK s L[i] w)),(10,.ptr 3072 0),(11,aEn k)],[(0,(wE s L w).map .t),(128,List.replicate 24 .bot),(3072,s.enc.map .t++[.row 9000 0,.t (.sl 23 (L.map bV.enc)),.row 9001 0,.row 9002 0,.row 9003 0])],[(9000,⟨138,17,0,(mu (Dj s L[i] w i aR) k w.all).map aD.enc,none⟩),(9001,⟨4,1,0,(w.bg.set i true).map tB,none⟩),(9002,⟨25,1,0,(w.st.set i (nc s L[i] w i)).map tZ,none⟩),(9003,⟨4,1,0,(mu (vn s L[i] w i aR) k w.bl).map tB,none⟩)],20000⟩) (fun k=>k<=s.aa.length) (fun k=>s.aa.length - k) 0 ?_ (aA _) ?_
  ·refine ba [(9000,9000),(9001,9001),(9002,9002),(9003,9003)] rfl rfl ?_ ?_ ?_
   ·repeat' constructor
   ·refine⟨aC _ rfl,?_,?_,ea⟩
    repeat' constructor
   ·repeat' first|refine Ai ?_ ?_|exact rfl|exact⟨⟩|exact Ei _ rfl|refine cL ?_|refine bS ?_
    ·rw[Oh]
    ·rw[List.map_set];rfl
    ·rw[List.map_set];rfl
    ·rw[Oh]
  rintro k hk;refine aEk [16,17,18] (cS (fun h=>?_) fun h=>?_)
  ·have aU:=cJ h;have Ix:k < w.all.length:=by rw[ga];exact aU
   have S0:k < w.bl.length:=by rw[gl];exact aU
   have Di:=Bj (Dj s L[i] w i aR) k w.all k Ix;have Iv:=Bj (vn s L[i] w i aR) k w.bl k S0;rw[if_neg (Nat.lt_irrefl _)] at Di Iv;have fu:=DD (Dj s L[i] w i aR) k w.all Ix;have pQ:=DD (vn s L[i] w i aR) k w.bl S0;have hsk:=zl (Dj s L[i] w i aR) k w.all Ix;have MQ:=zl (vn s L[i] w i aR) k w.bl S0;have hid:=Z4 aU;refine aEk [] (Ei k (Ei (s.aa[k].enc) (Ai rfl (Ai (aK _ _ k aU) ?_))));refine cF (Cu (nc s L[i] w i) s.aa[k].id (by unfold aV;omega)) ⟨rfl,rfl,ea⟩ ?_;refine cj (cS (fun hh=>?_) fun hh=>?_)
   ·have hh:sk (nc s L[i] w i) (idK s k)=true:=by rw[hid];exact hh
    have hga:Dj s L[i] w i aR k w.all[k]=tS aR (pK s L[i] w) (mR s L[i] w aR) w.all[k] L[i].cH 0:=by
     unfold Dj;rw[if_pos hh]
    rw[hga] at fu
    have NU:((mu (Dj s L[i] w i aR) k w.all).map aD.enc).set k (tS aR (pK s L[i] w) (mR s L[i] w aR) w.all[k] L[i].cH 0).enc=(mu (Dj s L[i] w i aR) (k+1) w.all).map aD.enc:=by
     rw[<- fu,List.map_set]
    (try refine aEk [] ?_)
    refine Ei k (Ei (w.all[k].enc) (Ai rfl (Ai (aK _ _ k Ix) ?_)));refine Ei i (Ei (L[i].enc) (Ai rfl (Ai (aK _ _ i hi) ?_)));refine cR (HW w.all[k] L[i] aR (pK s L[i] w) (mR s L[i] w aR) (H.ok _ (aH Ix)) hf MS aqY) ⟨fL w.all[k].enc,fL L[i].enc,rfl,rfl,rfl,ea⟩ ?_;refine Ei k (Ai rfl (Ai (by rw[Lm,mK];exact Ix) ?_));refine Ei (w.all[k].enc) (Ai (by rw[bI,Di];rfl) (Ai (Nb rfl) ?_))
    (try refine aEk [] ?_)
    refine Ei i (Ei (L[i].enc) (Ai rfl (Ai (aK _ _ i hi) ?_)));refine cF hdr ⟨fL L[i].enc,rfl,ea⟩ ?_;refine cS (fun hd=>?_) fun hd=>?_
    ·have hd:Ni L[i] aR=true:=hd
     have mY:vn s L[i] w i aR k w.bl[k]=true:=by
      unfold vn;rw[if_pos ⟨hh,hd⟩]
     rw[mY] at pQ
     have arQ:((mu (vn s L[i] w i aR) k w.bl).map tB).set k [bv true]=(mu (vn s L[i] w i aR) (k+1) w.bl).map tB:=by
      rw[<- pQ,List.map_set];rfl
     (try refine aEk [] ?_)
     refine Ei k (Ai rfl (Ai (by rw[Lm,mK];exact S0) ?_));refine Ei (tB w.bl[k]) (Ai (by rw[bI,Iv];rfl) (Ai (Nb rfl) ?_));refine Ei (k+1) (Ai (show k+1<=_ by omega) (Ai (show s.aa.length - (k+1) < s.aa.length - k by omega) ?_));refine ba [(9000,9000),(9001,9001),(9002,9002),(9003,9003)] rfl rfl ?_ ?_ ?_
     ·repeat' constructor
      exact cZ k aU 128 (by decide) h8
     ·refine⟨aC _ rfl,?_,?_,ea⟩
      repeat' constructor
     ·repeat' constructor
      ·exact NU
      ·exact arQ
    ·have hd:Ni L[i] aR=false:=hd
     have mY:vn s L[i] w i aR k w.bl[k]=w.bl[k]:=by
      unfold vn;rw[if_neg (by rintro⟨_,h⟩;rw[hd] at h;cases h)]
     have MQ:=MQ mY
     (try refine aEk [] ?_)
     refine Ei (k+1) (Ai (show k+1<=_ by omega) (Ai (show s.aa.length - (k+1) < s.aa.length - k by omega) ?_));refine ba [(9000,9000),(9001,9001),(9002,9002),(9003,9003)] rfl rfl ?_ ?_ ?_
     ·repeat' constructor
      exact cZ k aU 128 (by decide) h8
     ·refine⟨aC _ rfl,?_,?_,ea⟩
      repeat' constructor
     ·repeat' first|refine Ai ?_ ?_|exact rfl|exact⟨⟩|exact Ei _ rfl|refine cL ?_|refine bS ?_
      ·exact NU
      ·rw[MQ]
   ·have hh:sk (nc s L[i] w i) (idK s k)=false:=by rw[hid];exact hh
    have hsk:=hsk (by unfold Dj;rw[if_neg (by rw[hh];decide)]);have MQ:=MQ (by unfold vn;rw[if_neg (by rintro⟨h,_⟩;rw[hh] at h;cases h)])
    (try refine aEk [] ?_)
    refine Ei (k+1) (Ai (show k+1<=_ by omega) (Ai (show s.aa.length - (k+1) < s.aa.length - k by omega) ?_));refine ba [(9000,9000),(9001,9001),(9002,9002),(9003,9003)] rfl rfl ?_ ?_ ?_
    ·repeat' constructor
     exact cZ k aU 128 (by decide) h8
    ·refine⟨aC _ rfl,?_,?_,ea⟩
     repeat' constructor
    ·repeat' first|refine Ai ?_ ?_|exact rfl|exact⟨⟩|exact Ei _ rfl|refine cL ?_|refine bS ?_
     ·rw[hsk]
     ·rw[MQ]
  ·have fp:=dM h hk;subst fp;subst hM
   (try refine aEk [] ?_)
   refine Ei [] ?_
   repeat' constructor
 ·rw[if_neg (by rw[show uz s L[i] w i=false from h];decide)] at hM;subst hM
  (try refine aEk [] ?_)
  refine Ei [] ?_
  repeat' constructor
theorem OQ (a b:List Int)(ha:a.length*8<=aV)(_hb:b.length*8<=aV):Ct ae 172 [.c (.t (.sl 1 (a.map eI))),.c (.t (.sl 1 (b.map eI)))] (aEo (decide (a=b))) [] true:=by
 refine aEs (b:=false) ?_ rfl;generalize hM:decide (a=b)=M;refine cT Tryz.func172 rfl (by kernel_rfl) rfl fun w0 O _=>aEk [3] ?_;refine cS (fun h=>?_) fun h=>?_
 ·have h:a.length≠b.length:=fun e=>by simp[e] at h
  have sq:M=false:=by rw[<- hM];exact decide_eq_false fun e=>h (by rw[e])
  subst sq;refine Ei [] ?_
  repeat' constructor
 ·have hl:a.length=b.length:=by
   have:(a.length:Int)=(b.length:Int):=by simpa using h
   omega
  refine aEk [] (aEm (fun k:Nat=>⟨[(0,.c (.t (.sl 1 (a.map eI)))),(1,.c (.t (.sl 1 (b.map eI)))),(5,aEn k)],[],[],10000⟩) (fun k=>k<=a.length/\∀ j (h1:j < a.length) (h2:j < b.length),j < k->a[j]=b[j]) (fun k=>a.length - k) 0 ?_ ⟨aA _,fun j _ _ hj=>absurd hj (Nat.not_lt_zero j)⟩ ?_)
  ·refine ba [] rfl rfl ?_ ?_ ?_
   repeat' constructor
  rintro k ⟨hk,fk⟩;refine aEk [] (cS (fun h=>?_) fun h=>?_)
  ·have aU:k < a.length:=cJ h;have XD:k < b.length:=by omega
   refine Ei k (Ei (eI a[k]) (Ai rfl (Ai (aK _ _ k aU) ?_)));refine Ei k (Ei (eI b[k]) (Ai rfl (Ai (aK _ _ k XD) ?_)));refine cS (fun h=>?_) fun h=>?_
   ·have h:a[k]≠b[k]:=by simpa using h
    have sq:M=false:=by rw[<- hM];exact decide_eq_false fun e=>h (by simp[e])
    subst sq;refine Ei [] ?_
    repeat' constructor
   ·have h:a[k]=b[k]:=by simpa using h
    refine Ei (k+1) (Ai ⟨by omega,fun j h1 h2 Am=>?_⟩ (Ai (show a.length - (k+1) < a.length - k by omega) ?_))
    ·by_cases e:j=k
     ·subst e;exact h
     ·exact fk j h1 h2 (by omega)
    refine ba [] rfl rfl ?_ ?_ ?_
    ·repeat' constructor
     exact cZ k aU 8 (by decide) ha
    repeat' constructor
  ·have fp:=dM h hk
   have sq:M=true:=by
    rw[<- hM];exact decide_eq_true (List.ext_getElem hl fun j h1 h2=>fk j h1 h2 (by omega))
   subst sq;refine Ei [] ?_
   repeat' constructor
theorem C6 {s:aq}{L:List bV}{w:Wd}(H:qJ s L w)(f:bV)(i:Nat)(aR:Int):qJ s L (sQ s f w i aR):=by
 have hl:=sD H f i;unfold sQ;split
 ·refine⟨H.so,H.sL,H.fo,?_,?_,?_,?_,fun y hy=>?_,fun z hz=>?_⟩
  ·exact(mK _ _ _).trans H.all
  ·exact(bQ ..).trans H.bg
  ·exact(bQ ..).trans H.st
  ·exact(mK _ _ _).trans H.bl
  ·obtain⟨k,hk,rfl⟩:=bD.1 hy
   have fp:k < w.all.length:=by
    have:=mK (Dj s f w i aR) s.aa.length w.all;have hk:k < (mu (Dj s f w i aR) s.aa.length w.all).length:=hk;omega
   have h1:=Bj (Dj s f w i aR) s.aa.length w.all k fp;have h2:(mu (Dj s f w i aR) s.aa.length w.all)[k]? = some ((alF s f w i aR s.aa.length).all[k]):=ag hk;rw[h1] at h2;rw[<- aY h2];have hy2:=H.ok _ (aH fp);split
   ·unfold Dj;split
    ·exact B7 hy2
    ·exact hy2
   ·exact hy2
  ·rcases List.mem_or_eq_of_mem_set hz with h|h
   ·exact H.sl z h
   ·rw[h];exact hl
 ·exact H
noncomputable def Qc (s:aq)(fi fj:bV)(w:Wd)(i j:Nat)(aR:Int):Bool:=
 if i=j then false else(uz s fi w i != uz s fi (sQ s fj w j aR) i)||(!decide (nc s fi w i=nc s fi (sQ s fj w j aR) i)||!decide (mR s fi w aR=mR s fi (sQ s fj w j aR) aR))
theorem Ey {L:List bV}{s:aq}{w w':Wd}(H:qJ s L w){f:bV}(hf:f∈L)(aR:Int):(mR s f w' aR).length*8<=aV:=by
 have uS:=mS (H.fo f hf);unfold mR;rw[Lm];have:=xf aR f.cH f.cH.length;rw[bj] at this;unfold aV at *;omega
theorem U4 (s:aq)(L:List bV)(w:Wd)(H:qJ s L w)(i j:Nat)(hi:i < L.length)(hj:j < L.length)(aR:Int):Ct ae 114 [.agg ((wE s L w).map .t),.c (.t (iv (i:Int))),.c (.t (iv (j:Int))),.c (.t (iv aR))] (aEo (Qc s L[i] L[j] w i j aR)) [] true:=by
 refine aEs (b:=false) ?_ rfl;have H2:=C6 H L[j] j aR;have VX:=AI s L w H j hj aR;generalize hV:sQ s L[j] w j aR=v at *;have S5:=sW s L w H i hi;have uj:=sW s L v H2 i hi;have Iz:=uy s L w H i hi;have qP:=uy s L v H2 i hi;have vF:=tN s L w H i hi aR;have Cp:=tN s L v H2 i hi aR;have qL:=OQ (nc s L[i] w i) (nc s L[i] v i) (by have:=sD H L[i] i;unfold aV;omega) (by have:=sD H2 L[i] i;unfold aV;omega);have mX:=OQ (mR s L[i] w aR) (mR s L[i] v aR) (Ey H (aH hi) aR) (Ey H2 (aH hi) aR);generalize hM:Qc s L[i] L[j] w i j aR=M;unfold Qc at hM;rw[hV] at hM;generalize uz s L[i] w i=x1 at *;generalize uz s L[i] v i=x2 at *;generalize nc s L[i] w i=y1 at *;generalize nc s L[i] v i=y2 at *;generalize mR s L[i] w aR=z1 at *;generalize mR s L[i] v aR=z2 at *;generalize decide (y1=y2)=d1 at *;generalize decide (z1=z2)=d2 at *;refine cT Tryz.func114 rfl (by kernel_rfl) rfl fun w0 O _=>aEk [3,4] ?_;refine cS (fun h=>?_) fun h=>?_
 ·have h:i=j:=by
   have:((i:Int)==(j:Int))=true:=h;have:(i:Int)=(j:Int):=by simpa using this
   omega
  rw[if_pos h] at hM;subst hM;refine Ei [] ?_
  repeat' constructor
 ·have h:¬ i=j:=by
   have:((i:Int)==(j:Int))=false:=h;have:¬ (i:Int)=(j:Int):=by simpa using this
   omega
  rw[if_neg h] at hM;refine aEk [] (cR VX ⟨fL (wE s L w),rfl,rfl,ea⟩ ?_);refine aEk [] (cF S5 ⟨fL (wE s L w),rfl,ea⟩ ?_);refine cF uj ⟨fL (wE s L v),rfl,ea⟩ ?_;refine cS (fun h1=>?_) fun h1=>?_
  ·rw[show(x1 != x2)=true from h1,Bool.true_or] at hM;subst hM;refine Ei [] ?_
   repeat' constructor
  ·rw[show(x1 != x2)=false from h1,Bool.false_or] at hM;refine cR Iz ⟨fL (wE s L w),rfl,ea⟩ ?_;refine cR qP ⟨fL (wE s L v),rfl,ea⟩ ?_;refine cF qL ⟨rfl,rfl,ea⟩ ?_;refine cj (cS (fun h2=>?_) fun h2=>?_)
   ·rw[show d1=true from h2,Bool.not_true,Bool.false_or] at hM;refine cR vF ⟨fL (wE s L w),rfl,rfl,ea⟩ ?_;refine cR Cp ⟨fL (wE s L v),rfl,rfl,ea⟩ ?_;refine cF mX ⟨rfl,rfl,ea⟩ ?_;subst hM;refine Ei [] ?_
    repeat' constructor
   ·rw[show d1=false from h2,Bool.not_false,Bool.true_or] at hM;subst hM;refine Ei [] ?_
    repeat' constructor
theorem uJ (s:aq)(h:s.aa.length*128<=aV):Ct ae 73 [.agg (s.enc.map .t)] (.c (.row 0 0)) [⟨3,1,0,(eN s.aa).map eI,none⟩] true:=by
 refine pD (b:=false) ?_ (ld _);refine cT Tryz.func73 rfl (by kernel_rfl) rfl fun w0 O _=>aEk [] ?_;refine aEm (fun k:Nat=>⟨[(1,.ptr 0 0),(3,.c (.row 9000 0)),(4,aEn k)],[(0,s.enc.map .t)],[(9000,⟨3,1,0,(eN (s.aa.take k)).map eI,none⟩)],10000⟩) (fun k=>k<=s.aa.length) (fun k=>s.aa.length - k) 0 ?_ (aA _) ?_
 ·refine ba [] rfl rfl ?_ ⟨aC _ rfl,ea⟩ ?_
  repeat' constructor
 rintro k hk;refine aEk [6] (cS (fun hc=>?_) fun hc=>?_)
 ·have aU:=cJ hc;have fu:=zT s.aa k aU;refine Ei k (Ei _ (Ai rfl (Ai (aK _ _ k aU) ?_)));refine cS (fun hz=>?_) fun hz=>?_
  ·have hz:(s.aa[k].cn==0)=true:=hz;rw[if_pos hz] at fu;have om:=jz (s.aa.take k);rw[au] at om;have hb:(eN (s.aa.take k)).length<=2000000000000:=by unfold aV at h;omega
   refine aEk [] (Ei k (Ei _ (Ai rfl (Ai (aK _ _ k aU) ?_))));refine Ai (.inl rfl) (Ai ?_ (Ai ?_ ?_))
   ·rw[Lm];show((eN (s.aa.take k)).length+1)*8<=_;unfold aV at h;omega
   ·rw[Lm];show(eN (s.aa.take k)).length+1 < _;unfold aV at h;omega
   refine Ei (k+1) (Ai (show k+1<=_ by omega) (Ai (show s.aa.length - (k+1) < s.aa.length - k by omega) ?_));refine ba [(9000,9000)] rfl rfl ?_ ⟨aC _ rfl,ea⟩ ?_
   repeat' constructor
   exact cZ k aU 128 (by decide) h;rw[fu,aQ];rfl
  ·have hz:(s.aa[k].cn==0)=false:=hz;rw[if_neg (by rw[hz];decide),aW] at fu;refine Ei (k+1) (Ai (show k+1<=_ by omega) (Ai (show s.aa.length - (k+1) < s.aa.length - k by omega) ?_));refine ba [(9000,9000)] rfl rfl ?_ ⟨aC _ rfl,ea⟩ ?_
   repeat' first|refine Ai ?_ ?_|exact rfl|exact⟨⟩|exact Ei _ rfl|refine cL ?_|refine bS ?_
   exact cZ k aU 128 (by decide) h;rw[fu]
 ·have fp:=dM hc hk;subst fp;rw[show s.aa.take s.aa.length=s.aa from bj];refine Ei [(0,9000)] ?_
  repeat' constructor
theorem KH (l:List Int)(n:Int):sk l n=decide (n∈l):=by
 unfold sk ixI;rw[Bool.eq_iff_iff,decide_eq_true_eq,decide_eq_true_eq];constructor
 ·intro h
  by_cases hm:n∈l
  ·exact hm
  ·rw[jj _ _ (fun j hj=>by
    have:l[j]≠n:=fun e=>hm (e▸aH hj);simpa using this)] at h
   exact absurd h (by decide)
 ·intro h
  obtain⟨j,hj,hh,fk⟩:∃ j,∃ hj:j < l.length,(l[j]==n)=true/\∀ i (hi:i < l.length),i < j->(l[i]==n)=false:=by
   cases hq:l.findIdx? fun m=>m==n with
   | none=>
    have:=List.findIdx?_eq_none_iff.1 hq n h;simp at this
   | some j=>
    obtain⟨hj,h1,h2⟩:=List.findIdx?_eq_some_iff_getElem.1 hq;exact⟨j,hj,h1,fun i hi nt=>by simpa using h2 i nt⟩
  rw[kf _ _ j hj hh fk];omega
theorem qC {α:Type}(p:α->Bool)(l:List α)(k:Nat):((l.take k).filter p).length<=l.length:=aX (cE _ _) (by rw[au];omega)
theorem Mr (l m:List Int)(hl:l.length<=500000)(hm:m.length<=500000):Ct ae 72 [.c (.t (.sl 1 (l.map eI))),.c (.t (.sl 1 (m.map eI)))] (.c (.row 0 0)) [⟨3,1,0,(gQ l m).map eI,none⟩] true:=by
 refine pD (b:=false) ?_ (ld _);have qx:l.length*8<=aV:=uQ (by omega);unfold gQ;refine cT Tryz.func72 rfl (by kernel_rfl) rfl fun w0 O _=>aEk [6] ?_;refine aEm (fun k:Nat=>⟨[(0,.c (.t (.sl 1 (l.map eI)))),(1,.c (.t (.sl 1 (m.map eI)))),(5,.c (.row 9000 0)),(6,aEn k)],[],[(9000,⟨3,1,0,(jY z8 [] ((l.take k).filter fun x=>decide (¬ x∈m))).map eI,none⟩)],10000⟩) (fun k=>k<=l.length) (fun k=>l.length - k) 0 ?_ (aA _) ?_
 ·refine ba [] rfl rfl ?_ ?_ ?_
  repeat' constructor
 rintro k hk;refine aEk [6] (cS (fun h=>?_) fun h=>?_)
 ·have aU:=cJ h
  have hb:(jY z8 [] ((l.take k).filter fun x=>decide (¬ x∈m))).length<=500000:=by
   have:=xt z8 ((l.take k).filter fun x=>decide (¬ x∈m)) [];have h2:=qC (fun x=>decide (¬ x∈m)) l k;simp only[bM] at this;omega
  refine Ei k (Ei (eI l[k]) (Ai rfl (Ai (aK _ _ k aU) ?_)));refine cF (abH m l[k] (by omega)) ⟨rfl,rfl,ea⟩ ?_;refine cj (cS (fun hh=>?_) fun hh=>?_)
  ·have hh:l[k]∈m:=by
    have hh:sk m l[k]=true:=hh;rw[KH] at hh;simpa using hh
   refine Ei (k+1) (Ai (show k+1<=_ by omega) (Ai (show l.length - (k+1) < l.length - k by omega) ?_));refine ba [(9000,9000)] rfl rfl ?_ ?_ ?_
   repeat' first|refine Ai ?_ ?_|exact rfl|exact⟨⟩|exact Ei _ rfl|refine cL ?_|refine bS ?_
   exact cZ k aU 8 (by decide) qx;rw[aS aU,List.filter_append];simp[hh]
  ·have hh:¬ l[k]∈m:=by
    have hh:sk m l[k]=false:=hh;rw[KH] at hh;simpa using hh
   refine aEk [] (Ei k (Ei (eI l[k]) (Ai rfl (Ai (aK _ _ k aU) ?_))));refine cF (MI _ l[k] hb) ⟨?_,rfl,ea⟩ ?_
   ·repeat' constructor
   refine Ei (k+1) (Ai (show k+1<=_ by omega) (Ai (show l.length - (k+1) < l.length - k by omega) ?_));refine ba [(9000,12048)] rfl rfl ?_ ?_ ?_
   repeat' first|refine Ai ?_ ?_|exact rfl|exact⟨⟩|exact Ei _ rfl|refine cL ?_|refine bS ?_
   exact cZ k aU 8 (by decide) qx;rw[aS aU,List.filter_append,show([l[k]].filter fun x=>decide (¬ x∈m))=[l[k]] by simp[hh],E9]
 ·have Iy:=dM h hk;subst Iy;rw[show l.take l.length=l from bj];refine Ei [(0,9000)] ?_
  repeat' constructor
theorem Wm (s t:aq)(hs:s.aa.length<=500000)(ht:t.aa.length<=500000):Ct ae 31 [.agg (s.enc.map .t),.agg (t.enc.map .t)] (.c (.row 0 0)) [⟨3,1,0,(gQ (eN t.aa) (eN s.aa)).map eI,none⟩] true:=by
 refine pD (b:=false) ?_ (ld _);have h1:=uJ s (by unfold aV;omega);have h2:=uJ t (by unfold aV;omega);have h3:=Mr (eN t.aa) (eN s.aa) (aX (jz _) ht) (aX (jz _) hs);refine cT Tryz.func31 rfl (by kernel_rfl) rfl fun w0 O _=>aEk [] ?_;refine cF h2 ⟨fL t.enc,ea⟩ ?_;refine cF h1 ⟨fL s.enc,ea⟩ ?_;refine cF h3 ⟨?_,?_,ea⟩ ?_
 ·repeat' constructor
 ·repeat' constructor
 refine Ei [(0,896)] ?_
 repeat' constructor
theorem UB (a b c:Int):Ct ae 112 [.agg [.t (iv a),.t (iv b),.t (iv c)]] (aEn (rj a b)) [] true:=by
 refine aEs (b:=false) ?_ rfl;refine cT Tryz.func112 rfl (by kernel_rfl) rfl fun w0 O _=>aEk [] ?_;refine Ei 0 (Ai rfl (Ai (by decide) ?_));refine Ei 1 (Ai rfl (Ai (by decide) ?_));refine cF (PE a b) ⟨rfl,rfl,ea⟩ ?_;refine Ei [] ?_
 repeat' constructor
theorem nA (X:List Int)(n:Int):X.map eI++[eI n]=(X++[n]).map eI:=by rw[aQ];rfl
theorem Lo (l:List Int)(n:Int)(hl:l.length<=1000000):Ct ae 59 [.c (.t (.sl 1 (l.map eI))),.c (.t (iv n))] (.c (.t (.sl 1 ((l.filter fun x=>x != n).map eI)))) [] false:=by
 have qx:l.length*8<=aV:=uQ (by omega);refine cT Tryz.func59 rfl (by kernel_rfl) rfl fun w0 O _=>aEk [] ?_;refine aEm (fun k:Nat=>⟨[(0,.c (.t (.sl 1 (l.map eI)))),(1,.c (.t (iv n))),(5,.c (.row 9000 0)),(6,aEn k)],[],[(9000,⟨3,1,0,((l.take k).filter fun x=>x != n).map eI,none⟩)],10000⟩) (fun k=>k<=l.length) (fun k=>l.length - k) 0 ?_ (aA _) ?_
 ·refine ba [] rfl rfl ?_ ?_ ?_
  repeat' constructor
 rintro k hk;refine aEk [] (cS (fun h=>?_) fun h=>?_)
 ·have aU:=cJ h;have si:=qC (fun x=>x != n) l k;have gP:(((l.take k).filter fun x=>x != n).map eI).length+1<=2000000:=by rw[Lm];omega
  refine Ei k (Ei (eI l[k]) (Ai rfl (Ai (aK _ _ k aU) ?_)));refine cS (fun hn=>?_) fun hn=>?_
  ·have hn:(l[k] != n)=true:=hn
   have fu:((l.take k).filter fun x=>x != n)++[l[k]]=(l.take (k+1)).filter fun x=>x != n:=by
    rw[aS aU,List.filter_append,show([l[k]].filter fun x=>x != n)=[l[k]] by simp[hn]]
   (try refine aEk [] ?_)
   refine Ei k (Ei (eI l[k]) (Ai rfl (Ai (aK _ _ k aU) ?_)));refine Ai (.inl rfl) (Ai (show((((l.take k).filter fun x=>x != n).map eI).length+1)*8<=140737488355328 by omega) (Ai (show(((l.take k).filter fun x=>x != n).map eI).length+1 < 140737488355328 by omega) ?_));refine Ei (k+1) (Ai (show k+1<=_ by omega) (Ai (show l.length - (k+1) < l.length - k by omega) ?_));refine ba [(9000,9000)] rfl rfl ?_ ?_ ?_
   repeat' constructor
   exact cZ k aU 8 (by decide) qx;exact(nA _ _).trans (congrArg (List.map eI) fu)
  ·have hn:(l[k] != n)=false:=hn
   have fu:((l.take k).filter fun x=>x != n)=(l.take (k+1)).filter fun x=>x != n:=by
    rw[aS aU,List.filter_append,show([l[k]].filter fun x=>x != n)=[] by simp[hn],aW]
   (try refine aEk [] ?_)
   refine Ei (k+1) (Ai (show k+1<=_ by omega) (Ai (show l.length - (k+1) < l.length - k by omega) ?_));refine ba [(9000,9000)] rfl rfl ?_ ?_ ?_
   repeat' constructor
   exact cZ k aU 8 (by decide) qx;exact congrArg (List.map eI) fu
 ·have fp:=dM h hk;subst fp;refine Ei [] ?_
  repeat' constructor
  rw[bj];exact rfl
def acH (n:Int):Bool:=(IntKind.i64.wrap (n.tdiv 1)).tmod 2==1
def kR (o:az)(t:aD):aD:=if (o.cn==0&&acH t.line.types)=true then { t with dg:=fK t.dg (rj o.de o.dd),df:=fK t.df (rj o.de o.dd) } else t
def Sa (s:aq)(w:Wd):Wd:={ w with all:=(s.aa.zip w.all).map fun p=>kR p.1 p.2 }
theorem Ns (s:aq)(L:List bV)(w:Wd)(H:qJ s L w):Ct ae 55 [.agg ((wE s L w).map .t)] (.agg ((wE s L (Sa s w)).map .t)) [] false:=by
 have ga:=H.all;have hso:=H.so;have hz:(s.aa.zip w.all).length=w.all.length:=by rw[List.length_zip,ga,Nat.min_self]
 refine cT Tryz.func55 rfl (by kernel_rfl) rfl fun w0 O _=>aEk [] ?_;refine aEm (fun k:Nat=>⟨[(1,.ptr 0 0),(2,.ptr 128 0),(3,.ptr 384 0),(4,aEn k)],[(0,(wE s L w).map .t),(128,List.replicate 24 .bot),(384,((wE s L w).map .t).set 19 (.row 9000 0))],[(9000,⟨138,17,0,(((s.aa.zip w.all).take k).map fun p=>kR p.1 p.2).map aD.enc,none⟩)],10000⟩) (fun k=>k<=w.all.length) (fun k=>w.all.length - k) 0 ?_ (aA _) ?_
 ·refine ba [] rfl rfl ?_ ?_ ?_
  ·repeat' constructor
  ·refine⟨aC _ rfl,?_,?_,ea⟩
   repeat' constructor
  ·repeat' constructor
 rintro k hk;refine aEk [9,12] (cS (fun h=>?_) fun h=>?_)
 ·have aU:=cJ h;have hko:k < s.aa.length:=by omega
  have fu:∀ t,t=kR s.aa[k] w.all[k]->(((s.aa.zip w.all).take k).map fun p=>kR p.1 p.2).map aD.enc++[t.enc]=(((s.aa.zip w.all).take (k+1)).map fun p=>kR p.1 p.2).map aD.enc:=fun t ht=>by
   rw[ht,aS (by rw[hz];exact aU),aQ,aQ,List.getElem_zip];rfl
  have gP:((((s.aa.zip w.all).take k).map fun p=>kR p.1 p.2).map aD.enc).length+1<=5000:=by
   rw[Lm,Lm,au];omega
  refine Ei k (Ei (w.all[k].enc) (Ai rfl (Ai (aK _ _ k aU) ?_)));refine Ei k (Ei (s.aa[k].enc) (Ai rfl (Ai (aK _ _ k hko) ?_)));have dK:(((((s.aa.zip w.all).take k).map fun p=>kR p.1 p.2).map aD.enc).length+1)*176<=140737488355328/\((((s.aa.zip w.all).take k).map fun p=>kR p.1 p.2).map aD.enc).length+1 < 140737488355328:=by omega
  refine cS (fun h1=>?_) fun h1=>?_
  ·have h1:(s.aa[k].cn==0)=true:=h1;refine Ai rfl (Ai (by decide) ?_);refine Ai rfl (Ai (by decide) ?_);refine cS (fun h2=>?_) fun h2=>?_
   ·have h2:acH w.all[k].line.types=true:=h2
    (try refine aEk [] ?_)
    refine cF (UB s.aa[k].de s.aa[k].dd s.aa[k].dA) ⟨fL [iv s.aa[k].de,iv s.aa[k].dd,iv s.aa[k].dA],ea⟩ ?_;refine cF (lz w.all[k].dg (rj s.aa[k].de s.aa[k].dd)) ⟨rfl,rfl,ea⟩ ?_;refine cF (lz w.all[k].df (rj s.aa[k].de s.aa[k].dd)) ⟨rfl,rfl,ea⟩ ?_
    (try refine aEk [] ?_)
    refine Ai (.inl rfl) (Ai dK.1 (Ai dK.2 ?_));refine Ei (k+1) (Ai (show k+1<=_ by omega) (Ai (show w.all.length - (k+1) < w.all.length - k by omega) ?_));refine ba [(9000,9000)] rfl rfl ?_ ?_ ?_
    ·repeat' constructor
     exact cZ k aU 176 (by decide) H.ha
    ·refine⟨aC _ rfl,?_,?_,ea⟩
     repeat' constructor
    ·repeat' constructor
     exact fu { w.all[k] with dg:=fK w.all[k].dg (rj s.aa[k].de s.aa[k].dd),df:=fK w.all[k].df (rj s.aa[k].de s.aa[k].dd) } (by unfold kR;rw[h1,h2];rfl)
   ·have h2:acH w.all[k].line.types=false:=h2
    (try refine aEk [] ?_)
    (try refine aEk [] ?_)
    refine Ai (.inl rfl) (Ai dK.1 (Ai dK.2 ?_));refine Ei (k+1) (Ai (show k+1<=_ by omega) (Ai (show w.all.length - (k+1) < w.all.length - k by omega) ?_));refine ba [(9000,9000)] rfl rfl ?_ ?_ ?_
    ·repeat' constructor
     exact cZ k aU 176 (by decide) H.ha
    ·refine⟨aC _ rfl,?_,?_,ea⟩
     repeat' constructor
    ·repeat' constructor
     exact fu w.all[k] (by unfold kR;rw[h1,h2];rfl)
  ·have h1:(s.aa[k].cn==0)=false:=h1
   (try refine aEk [] ?_)
   (try refine aEk [] ?_)
   refine Ai (.inl rfl) (Ai dK.1 (Ai dK.2 ?_));refine Ei (k+1) (Ai (show k+1<=_ by omega) (Ai (show w.all.length - (k+1) < w.all.length - k by omega) ?_));refine ba [(9000,9000)] rfl rfl ?_ ?_ ?_
   ·repeat' constructor
    exact cZ k aU 176 (by decide) H.ha
   ·refine⟨aC _ rfl,?_,?_,ea⟩
    repeat' constructor
   ·repeat' constructor
    exact fu w.all[k] (by unfold kR;rw[h1];rfl)
 ·have fp:=dM h hk;subst fp;refine Ei [] ?_
  repeat' constructor
  rw[<- hz,bj];exact rfl
def tR (r:List Bool):List Tr:=[.sl 1 (r.map tB)]
def afX (R:List (List Bool))(i:Int):List Bool:=(R[i.toNat]?).getD []
def iz (R:List (List Bool))(i j:Int):Bool:=WC (afX R i) j.toNat
def GP (l:List Int)(i:Int):Int:=(l[i.toNat]?).getD 0
theorem Rh (l:List Int)(n:Int)(hl:l.length*8<=aV):Ct ae 221 [.c (.t (.sl 1 (l.map eI))),.c (.t (iv n))] (aEo (decide (n∈l))) [] true:=by
 refine aEs (b:=false) ?_ rfl;generalize hM:decide (n∈l)=M;refine cT Tryz.func221 rfl (by kernel_rfl) rfl fun w0 O _=>aEk [] ?_;refine aEm (fun k:Nat=>⟨[(0,.c (.t (.sl 1 (l.map eI)))),(1,.c (.t (iv n))),(5,aEn k)],[],[],10000⟩) (fun k=>k<=l.length/\∀ j (h:j < l.length),j < k->(l[j]==n)=false) (fun k=>l.length - k) 0 ?_ ⟨aA _,fun j _ hj=>absurd hj (Nat.not_lt_zero j)⟩ ?_
 ·refine ba [] rfl rfl ?_ ?_ ?_
  repeat' constructor
 rintro k ⟨hk,fk⟩;refine aEk [] (cS (fun h=>?_) fun h=>?_)
 ·have aU:=cJ h;refine Ei k (Ei (eI l[k]) (Ai rfl (Ai (aK _ _ k aU) ?_)));refine cS (fun h=>?_) fun h=>?_
  ·have sq:M=true:=by
    rw[<- hM];have h:(l[k]==n)=true:=h;have h:l[k]=n:=by simpa using h
    exact decide_eq_true (h▸aH aU)
   subst sq;refine Ei [] ?_
   repeat' constructor
  ·refine Ei (k+1) (Ai ⟨by omega,fun j hj Am=>?_⟩ (Ai (show l.length - (k+1) < l.length - k by omega) ?_))
   ·by_cases e:j=k
    ·subst e;exact h
    ·exact fk j hj (by omega)
   refine ba [] rfl rfl ?_ ?_ ?_
   ·repeat' constructor
    exact cZ k aU 8 (by decide) hl
   repeat' constructor
 ·have fp:=dM h hk
  have sq:M=false:=by
   rw[<- hM];refine decide_eq_false fun hm=>?_;obtain⟨j,hj,e⟩:=bD.1 hm;have:=fk j hj (by omega);rw[e] at this;simp at this
  subst sq;refine Ei [] ?_
  repeat' constructor
theorem toNat_lt {i:Int}{α:Type}{β:Type}{f:α->β}{l:List α}(h0:0<=i)(h:decide (i < (((l.map f).length:Nat):Int))=true):i.toNat < l.length:=by
 have:=of_decide_eq_true h;rw[Lm] at this;omega
theorem toNat_ge {i:Int}{α:Type}{β:Type}{f:α->β}{l:List α}(h:decide (i < (((l.map f).length:Nat):Int))=false):l.length<=i.toNat:=by
 have:=of_decide_eq_false h;rw[Lm] at this;omega
theorem Bx (l:List Int)(i:Int)(h0:0<=i):Ct ae 174 [.c (.t (.sl 1 (l.map eI))),.c (.t (iv i))] (aEn (GP l i)) [] true:=by
 refine aEs (b:=false) ?_ rfl;generalize hM:GP l i=M;unfold GP at hM;refine cT Tryz.func174 rfl (by kernel_rfl) rfl fun w0 O _=>aEk [] ?_;refine cS (fun h=>?_) fun h=>?_
 ·have aU:=toNat_lt h0 h;rw[ag aU] at hM;have hM:l[i.toNat]=M:=hM;subst hM;refine Ei i.toNat (Ei (eI l[i.toNat]) (Ai (Int.toNat_of_nonneg h0).symm (Ai (aK _ _ _ aU) ?_)));refine Ei [] ?_
  repeat' constructor
 ·have ui:=toNat_ge h;rw[List.getElem?_eq_none ui] at hM;have hM:0=M:=hM;subst hM;refine Ei [] ?_
  repeat' constructor
theorem HT (R:List (List Bool))(i j:Int)(h0:0<=i)(h1:0<=j):Ct ae 220 [.c (.t (.sl 1 (R.map tR))),.c (.t (iv i)),.c (.t (iv j))] (aEo (iz R i j)) [] true:=by
 refine aEs (b:=false) ?_ rfl;generalize hM:iz R i j=M;unfold iz afX at hM;refine cT Tryz.func220 rfl (by kernel_rfl) rfl fun w0 O _=>aEk [] ?_;refine cS (fun h=>?_) fun h=>?_
 ·have aU:=toNat_lt h0 h;rw[ag aU] at hM;have hM:WC R[i.toNat] j.toNat=M:=hM;refine Ei i.toNat (Ei (tR R[i.toNat]) (Ai (Int.toNat_of_nonneg h0).symm (Ai (aK _ _ _ aU) ?_)));refine cS (fun h=>?_) fun h=>?_
  ·have y6:=toNat_lt h1 h;rw[C4 y6] at hM;subst hM;refine Ei i.toNat (Ei (tR R[i.toNat]) (Ai (Int.toNat_of_nonneg h0).symm (Ai (aK _ _ _ aU) ?_)));refine Ei j.toNat (Ei (tB (R[i.toNat])[j.toNat]) (Ai (Int.toNat_of_nonneg h1).symm (Ai (aK _ _ _ y6) ?_)));refine Ei [] ?_
   repeat' constructor
  ·have ui:=toNat_ge h;unfold WC at hM;rw[List.getElem?_eq_none ui] at hM;have hM:false=M:=hM;subst hM;refine Ei [] ?_
   repeat' constructor
 ·have ui:=toNat_ge h;rw[List.getElem?_eq_none ui] at hM;have hM:false=M:=hM;subst hM;refine Ei [] ?_
  repeat' constructor
def jc (l:List Int):List Int:=l.foldl (fun o x=>if 0<=x/\x∉o then o++[x] else o) []
theorem Aw (l:List Int)(k:Nat)(hk:k < l.length):jc (l.take (k+1))=if 0<=l[k]/\l[k]∉jc (l.take k) then jc (l.take k)++[l[k]] else jc (l.take k):=by
 unfold jc;rw[aS hk,List.foldl_append];rfl
theorem KX:∀ (l o:List Int),(l.foldl (fun o x=>if 0<=x/\x∉o then o++[x] else o) o).length<=o.length+l.length
 | [],o=>ak _
 | x :: r,o=>by
  rw[List.foldl_cons];refine aX (KX r _) ?_;split <;> simp <;> omega
theorem xN (l:List Int):(jc l).length<=l.length:=by
 have:=KX l [];simp only[bM,bw] at this;exact this
theorem IQ (l:List Int)(hl:l.length<=1000000):Ct ae 219 [.c (.t (.sl 1 (l.map eI)))] (.c (.t (.sl 1 ((jc l).map eI)))) [] false:=by
 have qx:l.length*8<=aV:=uQ (by omega);refine cT Tryz.func219 rfl (by kernel_rfl) rfl fun w0 O _=>aEk [] ?_;refine aEm (fun k:Nat=>⟨[(0,.c (.t (.sl 1 (l.map eI)))),(3,.c (.row 9000 0)),(4,aEn k)],[],[(9000,⟨3,1,0,(jc (l.take k)).map eI,none⟩)],10000⟩) (fun k=>k<=l.length) (fun k=>l.length - k) 0 ?_ (aA _) ?_
 ·refine ba [] rfl rfl ?_ ?_ ?_
  repeat' constructor
 rintro k hk;refine aEk [] (cS (fun h=>?_) fun h=>?_)
 ·have aU:=cJ h;have si:=xN (l.take k);rw[au] at si;have fu:=Aw l k aU;have gP:((jc (l.take k)).map eI).length+1<=2000000:=by rw[Lm];omega
  have NO:¬ (0<=l[k]/\l[k]∉jc (l.take k))->(jc (l.take k)).map eI=(jc (l.take (k+1))).map eI:=fun h=>by rw[fu,if_neg h]
  refine Ei k (Ei (eI l[k]) (Ai rfl (Ai (aK _ _ k aU) ?_)));refine cS (fun h1=>?_) fun h1=>?_
  ·have h1:0<=l[k]:=of_decide_eq_true h1;refine Ei k (Ei (eI l[k]) (Ai rfl (Ai (aK _ _ k aU) ?_)));refine cF (Rh (jc (l.take k)) l[k] (by unfold aV;omega)) ⟨?_,rfl,ea⟩ ?_
   ·repeat' constructor
   refine cj (cS (fun h2=>?_) fun h2=>?_)
   ·have h2:l[k]∈jc (l.take k):=of_decide_eq_true h2
    (try refine aEk [] ?_)
    refine Ei (k+1) (Ai (show k+1<=_ by omega) (Ai (show l.length - (k+1) < l.length - k by omega) ?_));refine ba [(9000,9000)] rfl rfl ?_ ?_ ?_
    repeat' constructor
    exact cZ k aU 8 (by decide) qx;exact NO fun h=>h.2 h2
   ·have h2:l[k]∉jc (l.take k):=of_decide_eq_false h2;rw[if_pos ⟨h1,h2⟩] at fu
    (try refine aEk [] ?_)
    refine Ei k (Ei (eI l[k]) (Ai rfl (Ai (aK _ _ k aU) ?_)));refine Ai (.inl rfl) (Ai (show(((jc (l.take k)).map eI).length+1)*8<=140737488355328 by omega) (Ai (show((jc (l.take k)).map eI).length+1 < 140737488355328 by omega) ?_));refine Ei (k+1) (Ai (show k+1<=_ by omega) (Ai (show l.length - (k+1) < l.length - k by omega) ?_));refine ba [(9000,9000)] rfl rfl ?_ ?_ ?_
    repeat' constructor
    exact cZ k aU 8 (by decide) qx;exact(nA _ _).trans (congrArg (List.map eI) fu.symm)
  ·have h1:¬ 0<=l[k]:=of_decide_eq_false h1
   (try refine aEk [] ?_)
   refine Ei (k+1) (Ai (show k+1<=_ by omega) (Ai (show l.length - (k+1) < l.length - k by omega) ?_));refine ba [(9000,9000)] rfl rfl ?_ ?_ ?_
   repeat' constructor
   exact cZ k aU 8 (by decide) qx;exact NO fun h=>h1 h.1
 ·have fp:=dM h hk;subst fp;refine Ei [] ?_
  repeat' constructor
  rw[bj];exact rfl
theorem tO:∀ {o l:List Int},o.Nodup->(∀ x∈o,x∈l)->o.length<=l.length
 | [],_,_,_=>aA _
 | x :: o,l,h,hs=>by
  obtain⟨h1,h2⟩:=List.nodup_cons.1 h;have hx:=hs x aB;have h3:∀ y∈o,y∈l.erase x:=fun y hy=>(List.mem_erase_of_ne fun e=>h1 (by rw[<- e];exact hy)).2 (hs y (aM _ hy));have:=tO h2 h3;rw[List.length_erase_of_mem hx] at this;have:0 < l.length:=List.length_pos_of_mem hx;rw[aZ];omega
def yo (R:List (List Bool))(x:Int)(o:List Int)(y:Int):List Int:=if iz R x y=true/\y∉o then o++[y] else o
def adL (R:List (List Bool))(x:Int)(l o:List Int):List Int:=l.foldl (yo R x) o
def nI (R:List (List Bool))(l:List Int):Nat->Nat->List Int->List Int
 | 0,_,o=>o
 | f+1,n,o=>match o[n]? with
  | some x=>nI R l f (n+1) (adL R x l o)
  | none=>o
def my (R:List (List Bool))(l:List Int)(i:Int):List Int:=nI R l l.length 0 (l.filter fun y=>iz R i y)
theorem O0 {R:List (List Bool)}{l:List Int}{n:Nat}{o:List Int}(h:o[n]? = none):∀ f,nI R l f n o=o
 | 0=>rfl
 | f+1=>by
  rw[nI,h]
structure GA (l o:List Int):Prop where
 nd:o.Nodup
 sb:∀ x∈o,x∈l
theorem GA.len {l o:List Int}(h:GA l o):o.length<=l.length:=tO h.nd h.sb
theorem GA.add {l o:List Int}{R:List (List Bool)}{x y:Int}(h:GA l o)(hy:y∈l):GA l (yo R x o y):=by
 unfold yo;split
 ·rename_i hc;refine⟨List.nodup_append.2 ⟨h.nd,List.nodup_cons.2 ⟨List.not_mem_nil,List.nodup_nil⟩,fun a ha b hb=>?_⟩,fun a ha=>?_⟩
  ·rw[aJ.1 hb];exact fun e=>hc.2 (e▸ha)
  ·rcases bh.1 ha with ha|ha
   ·exact h.sb a ha
   ·rw[aJ.1 ha];exact hy
 ·exact h
theorem Lg {R:List (List Bool)}{x y:Int}{o:List Int}{n:Nat}{z:Int}(h:o[n]? = some z):(yo R x o y)[n]? = some z:=by
 unfold yo;split
 ·rw[bz (an.1 h).1,h]
 ·exact h
theorem Db {R:List (List Bool)}{x:Int}{l:List Int}:∀ {m o:List Int},(∀ y∈m,y∈l)->GA l o->GA l (m.foldl (yo R x) o)
 | [],_,_,h=>h
 | y :: m,o,hm,h=>by
  rw[List.foldl_cons];exact Db (fun z hz=>hm z (aM _ hz)) (h.add (hm y aB))
theorem CL {R:List (List Bool)}{i:Int}{l:List Int}(h:l.Nodup):GA l (l.filter fun y=>iz R i y):=⟨h.filter _,fun _x hx=>(List.mem_filter.1 hx).1⟩
theorem wa (n:Nat)(h:n<=1000000):Tr.lit (Value.int IntKind.i64 (IntKind.i64.wrap ((n:Int)+1)))=Tr.lit (Value.int IntKind.i64 ((n+1:Nat):Int)):=by
 rw[show IntKind.i64.wrap ((n:Int)+1)=((n+1:Nat):Int) by simp only[bp];omega]
theorem LG (l:List Int)(R:List (List Bool))(i:Int)(hl:l.length<=1000000)(pA:l.Nodup)(oV:∀ x∈l,0<=x)(hi:0<=i):Ct ae 222 [.c (.t (.sl 1 (l.map eI))),.c (.t (.sl 1 (R.map tR))),.c (.t (iv i))] (.c (.t (.sl 1 ((my R l i).map eI)))) [] false:=by
 have qx:l.length*8<=aV:=uQ (by omega);generalize hM:my R l i=M;unfold my at hM;refine cT Tryz.func222 rfl (by kernel_rfl) rfl fun w0 O _=>aEk [] ?_;refine aEm (fun k:Nat=>⟨[(0,.c (.t (.sl 1 (l.map eI)))),(1,.c (.t (.sl 1 (R.map tR)))),(2,.c (.t (iv i))),(7,.c (.row 9000 0)),(8,aEn k)],[],[(9000,⟨3,1,0,((l.take k).filter fun y=>iz R i y).map eI,none⟩)],10000⟩) (fun k=>k<=l.length) (fun k=>l.length - k) 0 ?_ (aA _) ?_
 ·refine ba [] rfl rfl ?_ ?_ ?_
  repeat' constructor
 rintro k hk;refine aEk [7] (cS (fun h=>?_) fun h=>?_)
 ·have aU:=cJ h;have si:=qC (fun y=>iz R i y) l k;have gP:(((l.take k).filter fun y=>iz R i y).map eI).length+1<=2000000:=by rw[Lm];omega
  have fu:(l.take (k+1)).filter (fun y=>iz R i y)=((l.take k).filter fun y=>iz R i y)++(if iz R i l[k]=true then [l[k]] else []):=by
   rw[aS aU,List.filter_append];congr 1
   by_cases hh:iz R i l[k]=true
   ·rw[if_pos hh];simp[hh]
   ·rw[if_neg hh];simp[hh]
  refine Ei k (Ei (eI l[k]) (Ai rfl (Ai (aK _ _ k aU) ?_)));refine cF (HT R i l[k] hi (oV _ (aH aU))) ⟨rfl,rfl,rfl,ea⟩ ?_;refine cS (fun h1=>?_) fun h1=>?_
  ·rw[if_pos (show iz R i l[k]=true from h1)] at fu
   (try refine aEk [] ?_)
   refine Ei k (Ei (eI l[k]) (Ai rfl (Ai (aK _ _ k aU) ?_)));refine Ai (.inl rfl) (Ai (show((((l.take k).filter fun y=>iz R i y).map eI).length+1)*8<=140737488355328 by omega) (Ai (show(((l.take k).filter fun y=>iz R i y).map eI).length+1 < 140737488355328 by omega) ?_));refine Ei (k+1) (Ai (show k+1<=_ by omega) (Ai (show l.length - (k+1) < l.length - k by omega) ?_));refine ba [(9000,9000)] rfl rfl ?_ ?_ ?_
   repeat' constructor
   exact cZ k aU 8 (by decide) qx;exact(nA _ _).trans (congrArg (List.map eI) fu.symm)
  ·rw[if_neg (by rw[show iz R i l[k]=false from h1];decide),aW] at fu
   (try refine aEk [] ?_)
   refine Ei (k+1) (Ai (show k+1<=_ by omega) (Ai (show l.length - (k+1) < l.length - k by omega) ?_));refine ba [(9000,9000)] rfl rfl ?_ ?_ ?_
   repeat' constructor
   exact cZ k aU 8 (by decide) qx;exact congrArg (List.map eI) fu.symm
 have fp:=dM h hk;subst fp;clear h hk
 (try refine aEk [] ?_)
 refine aEm (α:=Nat × List Int) (fun x=>⟨[(0,.c (.t (.sl 1 (l.map eI)))),(1,.c (.t (.sl 1 (R.map tR)))),(7,.c (.row 9000 0)),(9,aEn x.1)],[],[(9000,⟨3,1,0,x.2.map eI,none⟩)],20000⟩) (fun x=>x.1<=x.2.length/\GA l x.2/\nI R l (l.length - x.1) x.1 x.2=M) (fun x=>l.length - x.1) (0,l.filter fun y=>iz R i y) ?_ ⟨aA _,CL pA,hM⟩ ?_
 ·refine ba [(9000,9000)] rfl rfl ?_ ?_ ?_
  repeat' first|refine Ai ?_ ?_|exact rfl|exact⟨⟩|exact Ei _ rfl|refine cL ?_|refine bS ?_
  rw[bj]
 rintro⟨n,o⟩ ⟨hn,ho,he⟩;have hn:n<=o.length:=hn;have ho:GA l o:=ho;have XC:=ho.len
 (try refine aEk [] ?_)
 refine cS (fun h=>?_) fun h=>?_
 ·have aU:n < o.length:=cJ h;have hx:o[n]? = some o[n]:=ag aU;obtain⟨f,hf⟩:∃ f,l.length - n=f+1:=⟨l.length - n - 1,by omega⟩
  have he:nI R l (l.length - n) n o=M:=he;rw[hf,nI,hx] at he;have he:nI R l f (n+1) (adL R o[n] l o)=M:=he;generalize o[n]=x at *
  (try refine aEk [] ?_)
  refine aEm (α:=Nat × List Int) (fun y=>⟨[(0,.c (.t (.sl 1 (l.map eI)))),(1,.c (.t (.sl 1 (R.map tR)))),(7,.c (.row 9000 0)),(9,aEn n),(10,aEn y.1)],[],[(9000,⟨3,1,0,y.2.map eI,none⟩)],30000⟩) (fun y=>y.1<=l.length/\GA l y.2/\y.2[n]? = some x/\(l.drop y.1).foldl (yo R x) y.2=adL R x l o) (fun y=>l.length - y.1) (0,o) ?_ ⟨aA _,ho,hx,rfl⟩ ?_
  ·refine ba [(9000,9000)] rfl rfl ?_ ?_ ?_
   repeat' constructor
  rintro⟨k,q⟩ ⟨hk,hq,Xz,heq⟩;have hk:k<=l.length:=hk;have hq:GA l q:=hq;have Xz:q[n]? = some x:=Xz;have hql:=hq.len;have hnq:n < q.length:=(an.1 Xz).1;have hx0:0<=x:=oV x (hq.sb x (bc Xz));have heq:(l.drop k).foldl (yo R x) q=adL R x l o:=heq
  (try refine aEk [] ?_)
  refine cS (fun h=>?_) fun h=>?_
  ·have uh:k < l.length:=cJ h;have hlm:l[k]∈l:=aH uh;rw[cd uh,List.foldl_cons] at heq;have hqb:(q.map eI).length<=1000000:=by rw[Lm];omega
   have hsn:¬ (iz R x l[k]=true/\l[k]∉q)->yo R x q l[k]=q:=fun h=>by unfold yo;rw[if_neg h]
   have hsy:(iz R x l[k]=true/\l[k]∉q)->yo R x q l[k]=q++[l[k]]:=fun h=>by unfold yo;rw[if_pos h]
   refine Ei n (Ai rfl (Ai (by rw[Lm];exact hnq) ?_));refine Ei (eI x) (Ei _ (Ai (by rw[bI,Xz];rfl) (Ai rfl ?_)));refine Ei k (Ei (eI l[k]) (Ai rfl (Ai (aK _ _ k uh) ?_)));refine cF (HT R x l[k] hx0 (oV _ hlm)) ⟨rfl,rfl,rfl,ea⟩ ?_;refine cS (fun h1=>?_) fun h1=>?_
   ·have h1:iz R x l[k]=true:=h1;refine Ei k (Ei (eI l[k]) (Ai rfl (Ai (aK _ _ k uh) ?_)));refine cF (Rh q l[k] (by unfold aV;omega)) ⟨?_,rfl,ea⟩ ?_
    ·repeat' constructor
    refine cj (cS (fun h2=>?_) fun h2=>?_)
    ·have h2:l[k]∈q:=of_decide_eq_true h2
     (try refine aEk [] ?_)
     refine Ei (k+1,q) (Ai ⟨show k+1<=_ by omega,hq,Xz,(by rw[hsn (fun h=>h.2 h2)] at heq;exact heq)⟩ (Ai (show l.length - (k+1) < l.length - k by omega) ?_));refine ba [(9000,9000)] rfl rfl ?_ ?_ ?_
     ·repeat' constructor
      exact cZ k uh 8 (by decide) qx
     repeat' constructor
    ·have h2:l[k]∉q:=of_decide_eq_false h2
     (try refine aEk [] ?_)
     refine Ei k (Ei (eI l[k]) (Ai rfl (Ai (aK _ _ k uh) ?_)));refine Ai (.inl rfl) (Ai (show((q.map eI).length+1)*8<=140737488355328 by omega) (Ai (show(q.map eI).length+1 < 140737488355328 by omega) ?_));refine Ei (k+1,q++[l[k]]) (Ai ⟨show k+1<=_ by omega,(by have:=hq.add (R:=R) (x:=x) hlm;rw[hsy ⟨h1,h2⟩] at this;exact this),(by have:=Lg (R:=R) (x:=x) (y:=l[k]) Xz;rw[hsy ⟨h1,h2⟩] at this;exact this),(by rw[hsy ⟨h1,h2⟩] at heq;exact heq)⟩ (Ai (show l.length - (k+1) < l.length - k by omega) ?_));refine ba [(9000,9000)] rfl rfl ?_ ?_ ?_
     repeat' constructor
     exact cZ k uh 8 (by decide) qx;exact nA _ _
   ·have h1:iz R x l[k]=false:=h1
    (try refine aEk [] ?_)
    refine Ei (k+1,q) (Ai ⟨show k+1<=_ by omega,hq,Xz,(by rw[hsn (fun h=>by rw[h1] at h;cases h.1)] at heq;exact heq)⟩ (Ai (show l.length - (k+1) < l.length - k by omega) ?_));refine ba [(9000,9000)] rfl rfl ?_ ?_ ?_
    ·repeat' constructor
     exact cZ k uh 8 (by decide) qx
    repeat' constructor
  ·have fp:k=l.length:=dM h hk;rw[fp,List.drop_eq_nil_of_le (ak _)] at heq;have heq:q=adL R x l o:=heq;subst heq
   (try refine aEk [] ?_)
   refine Ei (n+1,adL R x l o) (Ai ⟨hnq,hq,(by
    show nI R l (l.length - (n+1)) (n+1) (adL R x l o)=M;rw[show l.length - (n+1)=f by omega];exact he)⟩ (Ai (show l.length - (n+1) < l.length - n by omega) ?_))
   refine ba [(9000,9000)] rfl rfl ?_ ?_ ?_
   ·repeat' constructor
    exact wa n (by omega)
   repeat' constructor
 ·have ui:n=o.length:=dM h hn;have he:nI R l (l.length - n) n o=M:=he;rw[O0 (List.getElem?_eq_none (by omega))] at he;subst he
  (try refine aEk [] ?_)
  refine Ei [] ?_
  repeat' constructor
def lN (l:List Int)(k:Nat):Int:=(l[k]?).getD 0
theorem Kt {l:List Int}{k:Nat}(h:k < l.length):lN l k=l[k]:=by
 unfold lN;rw[ag h];rfl
def gdB (R:List (List Bool))(l:List Int)(k n:Nat):Bool:=!(((n:Int) != (k:Int))&&(iz R (lN l k) (lN l n)&&!decide (lN l k∈my R l (lN l n))))
def SS (R:List (List Bool))(l:List Int)(k:Nat):Bool:=(List.range l.length).all (gdB R l k)
def BL (R:List (List Bool))(l:List Int):List Int:=qs (fun k _=>SS R l k) 0 l
theorem DZ {R:List (List Bool)}{l:List Int}:∀ (f n:Nat) (o:List Int),GA l o->GA l (nI R l f n o)
 | 0,_,_,h=>h
 | f+1,n,o,h=>by
  unfold nI;split
  ·exact DZ f _ _ (Db (fun _ h=>h) h)
  ·exact h
theorem DY {R:List (List Bool)}{l:List Int}(i:Int)(h:l.Nodup):GA l (my R l i):=DZ _ _ _ (CL h)
theorem LH (p:Nat->Bool)(n:Nat):(List.range (n+1)).all p=((List.range n).all p&&p n):=by
 rw[List.range_succ,List.all_append];simp
theorem vL:∀ (m o:List Int),o.Nodup->(∀ x∈o,0<=x)->(m.foldl (fun o x=>if 0<=x/\x∉o then o++[x] else o) o).Nodup/\∀ x∈(m.foldl (fun o x=>if 0<=x/\x∉o then o++[x] else o) o),0<=x/\(x∈o\/x∈m)
 | [],o,h,hp=>⟨h,fun x hx=>⟨hp x hx,.inl hx⟩⟩
 | y :: m,o,h,hp=>by
  rw[List.foldl_cons]
  by_cases hc:0<=y/\y∉o
  ·rw[if_pos hc]
   obtain⟨h1,h2⟩:=vL m (o++[y]) (List.nodup_append.2 ⟨h,List.nodup_cons.2 ⟨List.not_mem_nil,List.nodup_nil⟩,fun a ha b hb=>by
    rw[aJ.1 hb];exact fun e=>hc.2 (by rw[<- e];exact ha)⟩) (fun x hx=>by
    rcases bh.1 hx with hx|hx
    ·exact hp x hx
    ·rw[aJ.1 hx];exact hc.1)
   refine⟨h1,fun x hx=>⟨(h2 x hx).1,?_⟩⟩;rcases(h2 x hx).2 with h|h
   ·rcases bh.1 h with h|h
    ·exact .inl h
    ·rw[aJ.1 h];exact .inr aB
   ·exact .inr (aM _ h)
  ·rw[if_neg hc];obtain⟨h1,h2⟩:=vL m o h hp;exact⟨h1,fun x hx=>⟨(h2 x hx).1,(h2 x hx).2.imp_right (aM _)⟩⟩
theorem RN (m:List Int):(jc m).Nodup:=(vL m [] List.nodup_nil fun _ h=>by cases h).1
theorem CN (m:List Int):∀ x∈jc m,0<=x/\x∈m:=fun x hx=>by
 obtain⟨h1,h2⟩:=(vL m [] List.nodup_nil fun _ h=>by cases h).2 x hx;exact⟨h1,h2.resolve_left List.not_mem_nil⟩
theorem TN (m:List Int)(R:List (List Bool))(hm:m.length<=1000000):Ct ae 173 [.c (.t (.sl 1 (m.map eI))),.c (.t (.sl 1 (R.map tR)))] (.c (.t (.sl 1 ((BL R (jc m)).map eI)))) [] false:=by
 have Ra:=IQ m hm;have vG:=xN m;have pA:=RN m;have oV:∀ x∈jc m,0<=x:=fun x hx=>(CN m x hx).1;generalize jc m=l at *;have hl:l.length<=1000000:=by omega
 have qx:l.length*8<=aV:=uQ (by omega);unfold BL;refine cT Tryz.func173 rfl (by kernel_rfl) rfl fun w0 O _=>aEk [] ?_;refine cR Ra ⟨rfl,ea⟩ ?_;refine aEm (fun k:Nat=>⟨[(1,.c (.t (.sl 1 (R.map tR)))),(5,.c (.t (.sl 1 (l.map eI)))),(6,.c (.row 9000 0)),(7,aEn k)],[],[(9000,⟨3,1,0,(qs (fun k _=>SS R l k) 0 (l.take k)).map eI,none⟩)],10000⟩) (fun k=>k<=l.length) (fun k=>l.length - k) 0 ?_ (aA _) ?_
 ·refine ba [] rfl rfl ?_ ?_ ?_
  repeat' constructor
 rintro k hk;refine aEk [12] (cS (fun h=>?_) fun h=>?_)
 ·have aU:k < l.length:=cJ h;have fu:=wW (fun k _=>SS R l k) l k aU;have si:=wV (fun k _=>SS R l k) l k;have gP:((qs (fun k _=>SS R l k) 0 (l.take k)).map eI).length<=1000000:=by rw[Lm];omega
  generalize qs (fun k _=>SS R l k) 0 (l.take k)=X at *
  (try refine aEk [] ?_)
  refine aEm (α:=Nat × Bool) (fun x=>⟨[(1,.c (.t (.sl 1 (R.map tR)))),(5,.c (.t (.sl 1 (l.map eI)))),(6,.c (.row 9000 0)),(7,aEn k),(8,aEo x.2),(9,aEn x.1)],[],[(9000,⟨3,1,0,X.map eI,none⟩)],20000⟩) (fun x=>x.1<=l.length/\x.2=(List.range x.1).all (gdB R l k)) (fun x=>l.length - x.1) (0,true) ?_ ⟨aA _,rfl⟩ ?_
  ·refine ba [(9000,9000)] rfl rfl ?_ ?_ ?_
   repeat' constructor
  rintro⟨n,b⟩ ⟨hn,hb⟩;have hn:n<=l.length:=hn;have hb:b=(List.range n).all (gdB R l k):=hb
  (try refine aEk [] ?_)
  refine cS (fun h=>?_) fun h=>?_
  ·have qN:n < l.length:=cJ h;have SY:=LH (gdB R l k) n;rw[<- hb] at SY
   have hg:gdB R l k n=!(((n:Int) != (k:Int))&&(iz R l[k] l[n]&&!decide (l[k]∈my R l l[n]))):=by
    unfold gdB;rw[Kt aU,Kt qN]
   rw[hg] at SY;refine cS (fun h1=>?_) fun h1=>?_
   ·have h1:((n:Int) != (k:Int))=true:=h1;refine Ei k (Ei (eI l[k]) (Ai rfl (Ai (aK _ _ k aU) ?_)));refine Ei n (Ei (eI l[n]) (Ai rfl (Ai (aK _ _ n qN) ?_)));refine cF (HT R l[k] l[n] (oV _ (aH aU)) (oV _ (aH qN))) ⟨rfl,rfl,rfl,ea⟩ ?_;refine cS (fun h2=>?_) fun h2=>?_
    ·have h2:iz R l[k] l[n]=true:=h2;refine Ei n (Ei (eI l[n]) (Ai rfl (Ai (aK _ _ n qN) ?_)));refine cR (LG l R l[n] hl pA oV (oV _ (aH qN))) ⟨rfl,rfl,rfl,ea⟩ ?_;refine Ei k (Ei (eI l[k]) (Ai rfl (Ai (aK _ _ k aU) ?_)));refine cF (Rh (my R l l[n]) l[k] (by have:=(DY (R:=R) l[n] pA).len;unfold aV;omega)) ⟨rfl,rfl,ea⟩ ?_;refine cj (cS (fun h3=>?_) fun h3=>?_)
     ·rw[h1,h2,show decide (l[k]∈my R l l[n])=true from h3,Bool.not_true,Bool.and_false,Bool.and_false,Bool.not_false,Bool.and_true] at SY
      (try refine aEk [] ?_)
      refine Ei (n+1,b) (Ai ⟨show n+1<=_ by omega,SY.symm⟩ (Ai (show l.length - (n+1) < l.length - n by omega) ?_));refine ba [(9000,9000)] rfl rfl ?_ ?_ ?_
      ·repeat' constructor
       exact cZ n qN 8 (by decide) qx
      repeat' constructor
     ·rw[h1,h2,show decide (l[k]∈my R l l[n])=false from h3,Bool.not_false,Bool.and_true,Bool.and_true,Bool.not_true,Bool.and_false] at SY
      (try refine aEk [] ?_)
      refine Ei (n+1,false) (Ai ⟨show n+1<=_ by omega,SY.symm⟩ (Ai (show l.length - (n+1) < l.length - n by omega) ?_));refine ba [(9000,9000)] rfl rfl ?_ ?_ ?_
      ·repeat' constructor
       exact cZ n qN 8 (by decide) qx
      repeat' constructor
    ·rw[h1,show iz R l[k] l[n]=false from h2,cm,Bool.and_false,Bool.not_false,Bool.and_true] at SY
     (try refine aEk [] ?_)
     refine Ei (n+1,b) (Ai ⟨show n+1<=_ by omega,SY.symm⟩ (Ai (show l.length - (n+1) < l.length - n by omega) ?_));refine ba [(9000,9000)] rfl rfl ?_ ?_ ?_
     ·repeat' constructor
      exact cZ n qN 8 (by decide) qx
     repeat' constructor
   ·rw[show((n:Int) != (k:Int))=false from h1,cm,Bool.not_false,Bool.and_true] at SY
    (try refine aEk [] ?_)
    refine Ei (n+1,b) (Ai ⟨show n+1<=_ by omega,SY.symm⟩ (Ai (show l.length - (n+1) < l.length - n by omega) ?_));refine ba [(9000,9000)] rfl rfl ?_ ?_ ?_
    ·repeat' constructor
     exact cZ n qN 8 (by decide) qx
    repeat' constructor
  ·have Cp:n=l.length:=dM h hn;rw[Cp] at hb;have hb:b=SS R l k:=hb;rw[<- hb] at fu
   (try refine aEk [] ?_)
   refine cS (fun h1=>?_) fun h1=>?_
   ·rw[if_pos (show b=true from h1)] at fu
    (try refine aEk [] ?_)
    refine Ei k (Ei (eI l[k]) (Ai rfl (Ai (aK _ _ k aU) ?_)));refine Ai (.inl rfl) (Ai (show((X.map eI).length+1)*8<=140737488355328 by omega) (Ai (show(X.map eI).length+1 < 140737488355328 by omega) ?_))
    (try refine aEk [] ?_)
    refine Ei (k+1) (Ai (show k+1<=_ by omega) (Ai (show l.length - (k+1) < l.length - k by omega) ?_));refine ba [(9000,9000)] rfl rfl ?_ ?_ ?_
    repeat' constructor
    exact cZ k aU 8 (by decide) qx;exact(nA _ _).trans (congrArg (List.map eI) fu.symm)
   ·rw[if_neg (by rw[show b=false from h1];decide),aW] at fu
    (try refine aEk [] ?_)
    refine Ei (k+1) (Ai (show k+1<=_ by omega) (Ai (show l.length - (k+1) < l.length - k by omega) ?_));refine ba [(9000,9000)] rfl rfl ?_ ?_ ?_
    repeat' constructor
    exact cZ k aU 8 (by decide) qx;exact congrArg (List.map eI) fu.symm
 ·have fp:=dM h hk;subst fp;refine Ei [] ?_
  repeat' constructor
  rw[bj];exact rfl
def ajT (S:List Int)(Sm x:Int):Int:=if (decide (Sm < 0)||(decide (GP S x < GP S Sm)||(GP S x==GP S Sm&&decide (x < Sm))))=true then x else Sm
def HH (S:List Int)(l:List Int):Int:=l.foldl (ajT S) (-1)
theorem BZ {α:Type}(p:Nat->α->Bool):∀ (l:List α) (k:Nat),∀ x∈qs p k l,x∈l
 | [],_,_,h=>h
 | y :: r,k,x,h=>by
  rcases bh.1 h with h|h
  ·split at h
   ·rw[aJ.1 h];exact aB
   ·cases h
  ·exact aM _ (BZ p r (k+1) x h)
theorem Zn (m S:List Int)(R:List (List Bool))(hm:m.length<=1000000):Ct ae 115 [.c (.t (.sl 1 (m.map eI))),.c (.t (.sl 1 (S.map eI))),.c (.t (.sl 1 (R.map tR)))] (aEn (HH S (BL R (jc m)))) [] true:=by
 refine aEs (b:=false) ?_ rfl;have hrd:=TN m R hm;have oV:∀ x∈BL R (jc m),0<=x:=fun x hx=>(CN m x (BZ _ _ _ x hx)).1;have vG:(BL R (jc m)).length<=1000000:=aX (vA _ _ _) (aX (xN m) hm);generalize BL R (jc m)=l at *;have qx:l.length*8<=aV:=uQ (by omega);generalize hM:HH S l=M;unfold HH at hM;refine cT Tryz.func115 rfl (by kernel_rfl) rfl fun w0 O _=>aEk [] ?_;refine cR hrd ⟨rfl,rfl,ea⟩ ?_;refine aEm (α:=Nat × Int) (fun x=>⟨[(1,.c (.t (.sl 1 (S.map eI)))),(7,.c (.t (.sl 1 (l.map eI)))),(8,aEn x.2),(9,aEn x.1)],[],[],10000⟩) (fun x=>x.1<=l.length/\(l.drop x.1).foldl (ajT S) x.2=M) (fun x=>l.length - x.1) (0,-1) ?_ ⟨aA _,hM⟩ ?_
 ·refine ba [] rfl rfl ?_ ?_ ?_
  repeat' constructor
 rintro⟨k,b⟩ ⟨hk,hb⟩;have hk:k<=l.length:=hk;have hb:(l.drop k).foldl (ajT S) b=M:=hb;refine aEk [] (cS (fun h=>?_) fun h=>?_)
 ·have aU:k < l.length:=cJ h;rw[cd aU,List.foldl_cons] at hb;have h0:=oV _ (aH aU);unfold ajT at hb;refine Ei k (Ei (eI l[k]) (Ai rfl (Ai (aK _ _ k aU) ?_)));refine cF (Bx S l[k] h0) ⟨rfl,rfl,ea⟩ ?_;refine cS (fun h1=>?_) fun h1=>?_
  ·rw[h1,Bool.true_or,if_pos rfl] at hb
   (try refine aEk [] ?_)
   refine Ei k (Ei (eI l[k]) (Ai rfl (Ai (aK _ _ k aU) ?_)))
   (try refine aEk [] ?_)
   refine Ei (k+1,l[k]) (Ai ⟨show k+1<=_ by omega,hb⟩ (Ai (show l.length - (k+1) < l.length - k by omega) ?_));refine ba [] rfl rfl ?_ ?_ ?_
   ·repeat' constructor
    exact cZ k aU 8 (by decide) qx
   repeat' constructor
  ·have hbp:0<=b:=by
    have:=of_decide_eq_false h1;omega
   rw[h1,Bool.false_or] at hb;refine cF (Bx S b hbp) ⟨rfl,rfl,ea⟩ ?_;refine cS (fun h2=>?_) fun h2=>?_
   ·rw[h2,Bool.true_or,if_pos rfl] at hb
    (try refine aEk [] ?_)
    refine Ei k (Ei (eI l[k]) (Ai rfl (Ai (aK _ _ k aU) ?_)))
    (try refine aEk [] ?_)
    refine Ei (k+1,l[k]) (Ai ⟨show k+1<=_ by omega,hb⟩ (Ai (show l.length - (k+1) < l.length - k by omega) ?_));refine ba [] rfl rfl ?_ ?_ ?_
    ·repeat' constructor
     exact cZ k aU 8 (by decide) qx
    repeat' constructor
   ·rw[h2,Bool.false_or] at hb;refine cF (Bx S b hbp) ⟨rfl,rfl,ea⟩ ?_;refine cS (fun h3=>?_) fun h3=>?_
    ·rw[h3,cq] at hb;refine Ei k (Ei (eI l[k]) (Ai rfl (Ai (aK _ _ k aU) ?_)));refine cS (fun h4=>?_) fun h4=>?_
     ·rw[h4,if_pos rfl] at hb
      (try refine aEk [] ?_)
      refine Ei k (Ei (eI l[k]) (Ai rfl (Ai (aK _ _ k aU) ?_)))
      (try refine aEk [] ?_)
      refine Ei (k+1,l[k]) (Ai ⟨show k+1<=_ by omega,hb⟩ (Ai (show l.length - (k+1) < l.length - k by omega) ?_));refine ba [] rfl rfl ?_ ?_ ?_
      ·repeat' constructor
       exact cZ k aU 8 (by decide) qx
      repeat' constructor
     ·rw[h4,if_neg (by decide)] at hb
      (try refine aEk [] ?_)
      refine Ei (k+1,b) (Ai ⟨show k+1<=_ by omega,hb⟩ (Ai (show l.length - (k+1) < l.length - k by omega) ?_));refine ba [] rfl rfl ?_ ?_ ?_
      ·repeat' constructor
       exact cZ k aU 8 (by decide) qx
      repeat' constructor
    ·rw[h3,cm,if_neg (by decide)] at hb
     (try refine aEk [] ?_)
     refine Ei (k+1,b) (Ai ⟨show k+1<=_ by omega,hb⟩ (Ai (show l.length - (k+1) < l.length - k by omega) ?_));refine ba [] rfl rfl ?_ ?_ ?_
     ·repeat' constructor
      exact cZ k aU 8 (by decide) qx
     repeat' constructor
 ·have fp:k=l.length:=dM h hk;rw[fp,List.drop_eq_nil_of_le (ak _)] at hb;have hb:b=M:=hb;subst hb;refine Ei [] ?_
  repeat' constructor
end
section
open Go Cg
section
variable {R:List (List Bool)}{l:List Int}
theorem WR {x y z:Int}{o:List Int}(h:z∈o):z∈yo R x o y:=by
 unfold yo;split
 ·exact bR _ h
 ·exact h
theorem vN {x z:Int}:∀ (m:List Int) {o:List Int},z∈o->z∈m.foldl (yo R x) o
 | [],_,h=>h
 | y :: m,o,h=>by
  rw[List.foldl_cons];exact vN m (WR h)
theorem Lh {x y:Int}(h:iz R x y=true):∀ (m:List Int) {o:List Int},y∈m->y∈m.foldl (yo R x) o
 | [],_,hm=>by cases hm
 | z :: m,o,hm=>by
  rw[List.foldl_cons];rcases List.mem_cons.1 hm with rfl|hm
  ·refine vN m ?_;unfold yo
   by_cases hy:y∈o
   ·rw[if_neg (fun h=>h.2 hy)];exact hy
   ·rw[if_pos ⟨h,hy⟩];exact bT _ (aJ.2 rfl)
  ·exact Lh h m hm
theorem Dc {x:Int}{n:Nat}{z:Int}:∀ (m:List Int) {o:List Int},o[n]? = some z->(m.foldl (yo R x) o)[n]? = some z
 | [],_,h=>h
 | y :: m,o,h=>by
  rw[List.foldl_cons];exact Dc m (Lg h)
theorem Sy {x:Int}{C:Int->Prop}(hC:∀ y∈l,iz R x y=true->C y):∀ (m:List Int) {o:List Int},(∀ y∈m,y∈l)->(∀ z∈o,C z)->∀ z∈m.foldl (yo R x) o,C z
 | [],_,_,h=>h
 | y :: m,o,hm,h=>by
  rw[List.foldl_cons];refine Sy hC m (fun z hz=>hm z (aM _ hz)) fun z hz=>?_;unfold yo at hz;split at hz
  ·rename_i hc;rcases bh.1 hz with hz|hz
   ·exact h z hz
   ·rw[aJ.1 hz];exact hC y (hm y aB) hc.1
  ·exact h z hz
theorem D0 {z:Int}:∀ (f n:Nat) {o:List Int},z∈o->z∈nI R l f n o
 | 0,_,_,h=>h
 | f+1,n,o,h=>by
  unfold nI;split
  ·exact D0 f _ (vN l h)
  ·exact h
theorem Jx {C:Int->Prop}(hC:∀ x,C x->∀ y∈l,iz R x y=true->C y):∀ (f n:Nat) {o:List Int},(∀ z∈o,C z)->∀ z∈nI R l f n o,C z
 | 0,_,_,h=>h
 | f+1,n,o,h=>by
  unfold nI;split
  ·rename_i x hx;exact Jx hC f _ (Sy (hC x (h x (bc hx))) l (fun _ h=>h) h)
  ·exact h
theorem Jy:∀ (f n:Nat) {o:List Int},GA l o->l.length<=f+n->(∀ j x,j < n->o[j]? = some x->∀ y∈l,iz R x y=true->y∈o)->∀ x∈nI R l f n o,∀ y∈l,iz R x y=true->y∈nI R l f n o
 | 0,n,o,ho,hf,hp=>fun x hx y hy h=>by
  obtain⟨j,hj,rfl⟩:=bD.1 hx;have:=ho.len;exact hp j _ (by have hj:j < o.length:=hj;omega) (ag hj) y hy h
 | f+1,n,o,ho,hf,hp=>by
  unfold nI;split
  ·rename_i x hx;refine Jy f (n+1) (Db (fun _ h=>h) ho) (by omega) fun j z hj hz y hy h=>?_
   by_cases e:j=n
   ·subst e;have h1:=Dc (R:=R) (x:=x) l hx;have hz:(l.foldl (yo R x) o)[j]? = some z:=hz;rw[h1] at hz
    cases hz
    exact Lh h l hy
   ·have hjo:j < o.length:=by
     have:=(an.1 hx).1;omega
    have h1:=Dc (R:=R) (x:=x) l (ag hjo);have hz:(l.foldl (yo R x) o)[j]? = some z:=hz;rw[h1] at hz
    cases hz
    exact vN l (hp j _ (by omega) (ag hjo) y hy h)
  ·rename_i hx;intro x NR y hy h;obtain⟨j,hj,rfl⟩:=bD.1 NR;have:=List.getElem?_eq_none_iff.1 hx;exact hp j _ (by omega) (ag hj) y hy h
theorem TP {i y:Int}(hy:y∈l)(h:iz R i y=true):y∈my R l i:=D0 _ _ (List.mem_filter.2 ⟨hy,h⟩)
theorem OZ (hl:l.Nodup){i x y:Int}(hx:x∈my R l i)(hy:y∈l)(h:iz R x y=true):y∈my R l i:=Jy _ _ (CL hl) (by omega) (fun j _ hj=>absurd hj (Nat.not_lt_zero j)) x hx y hy h
theorem TO (hl:l.Nodup){k n:Int}(hn:n∈my R l k):∀ z∈my R l n,z∈my R l k:=
 Jx (C:=fun z=>z∈my R l k) (fun x hx y hy h=>OZ hl hx hy h) _ _ fun z hz=>by
  obtain⟨h1,h2⟩:=List.mem_filter.1 hz;exact OZ hl hn h1 h2
open Classical in
noncomputable def NN (R:List (List Bool))(l:List Int)(k:Int):List Int:=if k∈my R l k then my R l k else k :: my R l k
theorem ahM (hl:l.Nodup)(k:Int):(NN R l k).Nodup:=by
 unfold NN;have:=(DY (R:=R) k hl).nd;split
 ·exact this
 ·exact List.nodup_cons.2 ⟨by assumption,this⟩
theorem tP {k z:Int}:z∈NN R l k↔z=k\/z∈my R l k:=by
 unfold NN;split
 ·constructor
  ·exact .inr
  ·rintro(rfl|h)
   ·assumption
   ·exact h
 ·exact List.mem_cons
theorem ahN (hl:l.Nodup){k n:Int}(hn:n∈l)(h:iz R k n=true)(hk:k∉my R l n)(iR:k≠n):(NN R l n).length < (NN R l k).length:=by
 have h1:=TP hn h
 have Z6:∀ z∈NN R l n,z∈(NN R l k).erase k:=fun z hz=>by
  have hzk:z∈NN R l k:=by
   rcases tP.1 hz with rfl|hz
   ·exact tP.2 (.inr h1)
   ·exact tP.2 (.inr (TO hl h1 z hz))
  refine(List.mem_erase_of_ne fun e=>?_).2 hzk;subst e;rcases tP.1 hz with e|hz
  ·exact iR e
  ·exact hk hz
 have hkm:k∈NN R l k:=tP.2 (.inl rfl);have:=tO (ahM hl n) Z6;rw[List.length_erase_of_mem hkm] at this;have:=List.length_pos_of_mem hkm;omega
theorem wg (hl:l.Nodup):∀ (N:Nat) (k:Nat) (hk:k < l.length),(NN R l l[k]).length<=N->∃ j,j < l.length/\SS R l j=true
 | 0,k,hk,h=>by
  have:=List.length_pos_of_mem (tP.2 (.inl rfl):l[k]∈NN R l l[k]);omega
 | N+1,k,hk,h=>by
  cases hr:SS R l k with
  | true=>exact⟨k,hk,hr⟩
  | false=>
   unfold SS at hr;obtain⟨n,hn,hg⟩:=List.all_eq_false.1 hr;have hn:=List.mem_range.1 hn;unfold gdB at hg;rw[Kt hk,Kt hn] at hg;rw[Bool.not_eq_true,Bool.not_eq_false',ah,ah,bne_iff_ne,cu,decide_eq_false_iff_not] at hg;obtain⟨g1,g2,g3⟩:=hg
   have iR:l[k]≠l[n]:=fun e=>g1 (by
    have:=(List.getElem_inj hl).1 e;omega)
   exact wg hl N n hn (by have:=ahN hl (aH hn) g2 g3 iR;omega)
theorem PW {α:Type}(p:Nat->α->Bool):∀ (l:List α) (i k:Nat) (hk:k < l.length),p (i+k) l[k]=true->qs p i l≠[]
 | x :: r,i,0,_,h=>by
  rw[qs,if_pos (by rw[dm] at h;exact h)];simp
 | x :: r,i,k+1,hk,h=>by
  rw[qs];have:=PW p r (i+1) k (Nat.lt_of_succ_lt_succ hk) (by rw[show i+1+k=i+(k+1) by omega];exact h);intro e;exact this (List.append_eq_nil_iff.1 e).2
theorem YC (hl:l.Nodup)(h:l≠[]):BL R l≠[]:=by
 have hp:0 < l.length:=List.length_pos_iff.2 h;obtain⟨j,hj,hr⟩:=wg (R:=R) hl _ 0 hp (ak _);exact PW _ l 0 j hj (by rw[bw];exact hr)
theorem Lc (S:List Int):∀ (l:List Int) (b:Int),l.foldl (ajT S) b=b\/l.foldl (ajT S) b∈l
 | [],b=>.inl rfl
 | x :: r,b=>by
  rw[List.foldl_cons]
  have hb:ajT S b x=b\/ajT S b x=x:=by
   unfold ajT;split
   ·exact .inr rfl
   ·exact .inl rfl
  rcases Lc S r (ajT S b x) with h|h
  ·rw[h];rcases hb with h|h
   ·exact .inl h
   ·rw[h];exact .inr aB
  ·exact .inr (aM _ h)
theorem UU (S:List Int):∀ {l:List Int},l≠[]->HH S l∈l
 | [],h=>absurd rfl h
 | x :: r,_=>by
  unfold HH;rw[List.foldl_cons,show ajT S (-1) x=x from if_pos (by rfl)];rcases Lc S r x with h|h
  ·rw[h];exact aB
  ·exact aM _ h
theorem P9 (S:List Int)(R:List (List Bool)){m:List Int}(hm:m≠[])(hp:∀ x∈m,0<=x):HH S (BL R (jc m))∈m:=by
 have he:jc m≠[]:=by
  cases m with
  | nil=>exact absurd rfl hm
  | cons x r=>
   have hx:=hp x aB;intro e;have:=Aw (x :: r) 0 (Nat.zero_lt_succ _)
   have key:∀ (q o:List Int),o≠[]->q.foldl (fun o x=>if 0<=x/\x∉o then o++[x] else o) o≠[]:=by
    intro q
    induction q with
    | nil=>exact fun _ h=>h
    | cons y q ih=>
     intro o ho;rw[List.foldl_cons];refine ih _ ?_;split
     ·simp
     ·exact ho
   refine key r [x] (by simp) ?_
   have e2:jc (x :: r)=r.foldl (fun o x=>if 0<=x/\x∉o then o++[x] else o) [x]:=by
    unfold jc;rw[List.foldl_cons,if_pos ⟨hx,List.not_mem_nil⟩];rfl
   rw[<- e2];exact e
 exact(CN m _ (BZ _ _ _ _ (UU S (YC (R:=R) (RN m) he)))).2
end
end
end Go.Proofs.YtbmdcnkidjlbbaaGreat
namespace Cg
section
open Go Go.RowKit Go.Sort Go.Lib
section
variable {P:Program}{T:Nat->Option Ty}
theorem gg.X8 {J:JT}{E0:Env}{n0 N:Nat}(n:Nat){id l k:Nat}{ops:Array Oper}{st:St}{Q:Ex->St->Nat->Prop}(hJ:WX J){x:AV}(hR:NI P l J n0 E0 k x)(pA:ops.toList.all w9=true)
  (h:match ops.toList.drop n with
   | ⟨dst,.call ⟨.value f,⟨[y]⟩,_⟩,_,_,_,none⟩ :: post=>kg P T ops st.nx 0 (ops.toList.take n) st fun od=>ev od f=.c (.t (.lit (.func (.yield l) #[] #[])))/\((ev od y).cP=[]/\(ev od y).ed=[]/\Fit od (ev od y) x)/\kg P T ops (st.nx+128*((ops.toList.take n).length+1)) 0 post (od.app dst (.val (aEo true))) fun Tw=>match Tw with
    | ⟨sl,bx,rw,_⟩=>nY (st.nx+128*ops.size) fun nx=>Q .iV ⟨sl,bx,rw,nx⟩ (k+1)
   | _=>False):gg P T J E0 n0 N (.region id ops false) st k Q:=by
 split at h
 ·rename_i dst f y s7 ty pos N2 post e;refine gg.yield hJ hR (ops.toList.take n) post f y s7 dst ty pos N2 ?_ pA h;exact(List.take_append_drop n ops.toList).symm.trans (congrArg _ e)
 ·exact h.elim
theorem pW.block {N:Nat}{w0:World}{id:Nat}{c:Code}{st:St}{Q:Ex->St->Prop}(h:pW P T N w0 c st (sN id Q)):pW P T N w0 (.block id c) st Q:=fun hT O hO Ds E a w hn hd r hb=>by
 refine wp_block (wp_mono (h hT O hO Ds E a w hn hd r hb) fun e a' w' hp=>?_)
 cases e with
 | normal=>exact hp
 | exit i=>
  obtain⟨dc,E',Ds',hq,rest⟩:=hp;unfold sN at hq;simp only at hq;show(if i=id then cpR w0 N O Q .normal a' w' else cpR w0 N O Q (.exit i) a' w')
  by_cases e:i=id
  ·subst e;rw[show Nat.beq i i=true by simp] at hq;rw[if_pos rfl];exact⟨dc,E',Ds',hq,rest⟩
  ·have:Nat.beq i id=false:=by
    cases hb:Nat.beq i id
    ·rfl
    ·exact absurd (ai hb) e
   rw[this] at hq;rw[if_neg e];exact⟨dc,E',Ds',hq,rest⟩
 | ret=>exact hp
 | goto l=>exact hp.elim
 | panic ch=>exact hp.elim
 | outgrown=>exact hp.elim
end
section
variable {P:Program}{T:Nat->Option Ty}{O:iy}
def Env.cut (E:Env)(g:Nat):Env:=⟨fun b=>if b < g then E.rl b else .eH,E.bk,E.vl⟩
section
variable [GlC O]{E:Env}{w:World}{n0 N m:Nat}{st:St}{a:Act}
omit [GlC O] in
theorem acP (hT:dz P T)(r:cx O E w n0 N m st a){d1 x t e s b ty:Nat}{z:List Ce}{q:List Lk}{y:Ty}{pos:String}{N2:Array Edge}(hd:d1 < N)(ht:T t=some ⟨.iU e,s,b,z,q⟩)(he:T e=some y)(hs:y.sz=1){v:Value}(hv:a.eval (.tmp x)=v)(_hv1:v.oneCell'=true)(hc:v.cells=#[v]){K:Act->World->Prop}{Q:Exit->Act->World->Prop}
  (hK:cx O (E.cut w.heap.size) (w.alloc (.cells #[v] e)) n0 N m (st.app (some d1) (.val .bot)) (a.put (some d1) (.slice (some ⟨w.heap.size,0,none⟩) 1 1))->Below w.heap.size w (w.alloc (.cells #[v] e))->K (a.put (some d1) (.slice (some ⟨w.heap.size,0,none⟩) 1 1)) (w.alloc (.cells #[v] e))):Oper.wp P ⟨some d1,.buildSlice t 1 #[(0,.tmp x)],ty,pos,N2,none⟩ a w K Q:=by
 have hu:=jt (hT.ty t _ ht) rfl;obtain⟨i,zv,h1,h2,h3,h4,_,h5⟩:=ju (hT.ty e y he)
 have lI:(Instr.buildSlice t 1 #[(0,v)]).run P w=.ok (.slice (some ⟨w.heap.size,0,none⟩) 1 1) (w.alloc (.cells #[v] e)):=by
  refine run_buildSlice w t e 1 _ #[v] i zv hu h1 h4 (by rw[h2,hs];omega) (by rw[h2,hs];omega) ?_;have hz:zv.cells.size=1:=by rw[h5,h2,hs]
  rw[h2,hs];rw[show Array.range (1*1)=#[0] by rfl];simp[Instr.fill,hc]
 have hb:Below w.heap.size w (w.alloc (.cells #[v] e)):=(Below.refl _ _).alloc (ak _) _
 have mv:Mv st E w (E.cut w.heap.size) (w.alloc (.cells #[v] e)) (fun i=>∃ iH,lk ([]:List (Nat × List Ce)) i=some iH) (fun τ=>∃ R,lk ([]:List (Nat × Row)) τ=some R):=
  Mv.below hb (fun b aU=>by simp only[Env.cut,if_pos aU]) (fun _ _ _=>rfl) fun τ R v _ _=>rfl
 have r2:=r.app (t:=some d1) (fun x hx=>by cases hx;exact hd) mv (d:=.val .bot) (lM ⟨fun b hb=>(by cases hb),fun p hp=>(by cases hp)⟩) (v:=.slice (some ⟨w.heap.size,0,none⟩) 1 1) trivial (fun _ _ h=>by cases h) (fun _ _ h=>by cases h);unfold Oper.wp execOp;have hm:(#[((0:Nat),(Operand.tmp x))].map fun (i,y)=>(i,a.eval y))=#[(0,v)]:=by simp[hv]
 simp only[hm,Sem.run_bind,lI,Result.andThen_ok,Sem.run_pure,Oper.upon];exact hK r2 hb
omit [GlC O] in
theorem acQ (hT:dz P T)(r:cx O E w n0 N m st a){o:Oper}(hd:∀ x,o.dst=some x->x < N){s x:Operand}{t e sz b:Nat}{z:List Ce}{q:List Lk}{y:Ty}{τ bA ρ vρ:Nat}{R Rρ:Row}{D:List (Nat × Nat × Nat)}{c g:Nat}(ho:o.op=.call ⟨.builtin .append,#[s,x],#[t,t]⟩)(ht:T t=some ⟨.iU e,sz,b,z,q⟩)(he:T e=some y)(hs:ev st s=.c (.row τ bA))(hR:lk st.rw τ=some R)(fW:R.bA=bA)(Cv:R.k=1)(hy:y.sz=1)(hRt:R.ty=e)(nu:R.dp=some ⟨D,c,[]⟩)(hM:Dp.iQ ⟨D,c,[]⟩=false)(hlen:R.xs.length=c)
  (hρ:lk st.rw ρ=some Rρ) (hvρ:vρ<=Rρ.bA) (iR:ρ≠τ) (hx:a.eval x=.slice (some ⟨g,0,none⟩) 1 1) (hg:w.heap[g]? = some (.cells #[E.vl ρ vρ] e)) (_hg2:g+1=w.heap.size) (_hgr:E.rl g=.eH) (mn:(E.vl ρ vρ).oneCell'=true) (MX:(R.xs.length+1)*y.lP<=140737488355328) (hl:R.xs.length+1 < 140737488355328) (u:List Tr) (hu1:u.length=1) :
  lU P O o a w n0 N m st ⟨.c (.row τ (bA+1)),[],[(τ,{ R with bA:=bA+1,xs:=R.xs++[u],dp:=some ⟨D,c,[(c,0,ρ,vρ)]⟩ })]⟩:=by
 have hu:=jt (hT.ty t _ ht) rfl;obtain⟨i,zv,h1,h2,h3,h4,_,h5⟩:=ju (hT.ty e y he);have yZ:=dy r s;rw[hs] at yZ;have yZ:a.eval s=E.vl τ bA:=yZ.1;obtain⟨jG,ro,pR,ik⟩:=(r.row τ R hR).rd nu hM;subst hRt;rw[fW] at ro ik;have Ra:jG.length=c:=by rw[pR.len,hlen]
 let cl:Cl R.k:=⟨[E.vl ρ vρ],by rw[Cv];rfl,fun v hv=>by rw[aJ.1 hv];exact mn⟩
 intro K Q hK
 obtain⟨v',w',hr,own,XJ,Q5⟩:=tp (P:=P) w n0 t o.type R.ty hu h1 h4 (h2.trans (hy.trans Cv.symm)) h3 ((h5.trans h2).trans (hy.trans Cv.symm)) (by rw[Cv];exact Nat.one_pos) _ jG.length _ ro ⟨g,0,none⟩ 1 1 [E.vl ρ vρ] (by rw[Cv];rfl) (fun j v hj=>by
  rcases j with _|j
  ·cases hj
   show w.cell? ⟨g,0+0,none⟩=_;simp[World.cell?,hg]
  ·cases hj) (fun v hv=>by rw[aJ.1 hv];exact mn) (by rw[pR.len];simp only[maxLen];omega) (by rw[pR.len];exact MX) r.hi
 have Z5:∀ g,(E.vl τ bA).ownBlock=some g->E.rl g=.rw τ:=ik;have nM:∀ b,b < w.heap.size->E.rl b≠.rw τ->w'.heap[b]? = w.heap[b]?:=fun b aU iR=>XJ.block b aU fun e=>iR (Z5 b e.symm)
 have mv:Mv st E w (E.gr w.heap.size τ (bA+1) v') w' (fun i=>∃ iH,lk ([]:List (Nat × List Ce)) i=some iH) (fun τ'=>∃ R',lk [(τ,({ R with bA:=bA+1,xs:=R.xs++[u],dp:=some ⟨D,c,[(c,0,ρ,vρ)]⟩ }:Row))] τ'=some R'):=by
  refine⟨XJ.size,fun b aU _=>by simp only[Env.gr,if_pos aU],fun b hb aU=>⟨nM b aU (by rw[hb];simp),by simp only[Env.gr,if_pos aU];exact hb⟩,fun _ _ _=>rfl,fun i cs hi _ aU iL=>⟨nM _ aU (by rw[iL];simp),by simp only[Env.gr,if_pos aU];exact iL⟩,fun τ' R' v hτ hv=>?_,fun τ' R' hτ hY g y9 aU iL=>⟨nM g aU (by
   rw[iL];intro e
   cases e
   exact hY ⟨_,cp _ _ _ _ |>.trans (if_pos rfl)⟩),by simp only[Env.gr,if_pos aU];exact iL⟩,fun b hb aU=>nM b aU (by rw[hb];simp),fun τ' R' hτ hY g j q aU iL=>⟨nM g aU (by rw[iL];simp),by simp only[Env.gr,if_pos aU];exact iL⟩⟩
  simp only[Env.gr];rw[if_neg];rintro⟨e1,e2⟩;subst e1;rw[hR] at hτ
  cases hτ
  omega
 have one:∀ {τ' R'},lk [(τ,({ R with bA:=bA+1,xs:=R.xs++[u],dp:=some ⟨D,c,[(c,0,ρ,vρ)]⟩ }:Row))] τ'=some R'->τ'=τ/\R'={ R with bA:=bA+1,xs:=R.xs++[u],dp:=some ⟨D,c,[(c,0,ρ,vρ)]⟩ }:=fun {τ' R'} h=>by
  rw[cp] at h;split at h
  ·rename_i e
   cases h
   exact⟨e.symm,rfl⟩
  ·cases h
 have hvn:(E.gr w.heap.size τ (bA+1) v').vl τ (bA+1)=v':=by simp[Env.gr]
 have hvρ2:(E.gr w.heap.size τ (bA+1) v').vl ρ vρ=E.vl ρ vρ:=by
  simp only[Env.gr];rw[if_neg (fun h=>iR h.1)]
 have f1:cx O (E.gr w.heap.size τ (bA+1) v') w' n0 N m (st.app o.dst ⟨.c (.row τ (bA+1)),[],[(τ,({ R with bA:=bA+1,xs:=R.xs++[u],dp:=some ⟨D,c,[(c,0,ρ,vρ)]⟩ }:Row))]⟩) (a.put o.dst v'):=r.app (d:=⟨.c (.row τ (bA+1)),[],[(τ,({ R with bA:=bA+1,xs:=R.xs++[u],dp:=some ⟨D,c,[(c,0,ρ,vρ)]⟩ }:Row))]⟩) hd mv ⟨fun τ' R1 R2 e1 e2=>(by
  obtain⟨rfl,rfl⟩:=one e2;rw[hR] at e1
  cases e1
  show R.bA<=bA+1;omega),fun b hb=>(by cases hb),fun p hp=>.inr (by
  obtain rfl:p=(τ,bA+1):=by simpa [AV.cP,AV.ig,Ce.cP] using hp
  exact⟨_,cp _ _ _ _ |>.trans (if_pos rfl),ak _⟩),fun _ _ h=>(by cases h),fun τ' R' h=>(by
  obtain⟨rfl,rfl⟩:=one h;exact r.sc.fr τ' R hR),fun τ' R' d' h kH l hl=>.inl (by
  obtain⟨rfl,rfl⟩:=one h
  cases kH
  rw[aJ.1 hl];exact⟨Rρ,hρ,hvρ⟩)⟩ (v:=v') ⟨hvn.symm,pq own⟩ (fun _ _ h=>by cases h) (fun τ' R' h=>by
  obtain⟨rfl,rfl⟩:=one h;refine RD.rr (d:=⟨D,c,[(c,0,ρ,vρ)]⟩) rfl hM ⟨jG++[cl],?_,⟨by rw[al,al,pR.len];rfl,fun j vs ts q1 q2=>?_,fun j vs q1=>vs.one,fun j vs ts q1 q2 o v t q3 q4=>?_⟩,fun g y9=>?_⟩
  ·show World.ownsRow _ n0 R.ty R.k ((E.gr w.heap.size τ' (bA+1) v').vl τ' (bA+1)) _ _;rw[hvn,al,List.flatMap_append];exact own
  ·by_cases hj:j < jG.length
   ·rw[bz hj] at q1;rw[bz (by rw[<- pR.len];exact hj)] at q2;exact pR.ln j vs ts q1 q2
   ·rw[bm (by omega)] at q1;rw[bm (by rw[<- pR.len];omega),<- pR.len] at q2;obtain⟨h0,_⟩:=an.1 q2;have h0:j - jG.length < 1:=h0;rw[show j - jG.length=0 by omega] at q2
    cases q2
    rw[hu1,Cv]
  ·by_cases hj:j < jG.length
   ·rw[bz hj] at q1;rw[bz (by rw[<- pR.len];exact hj)] at q2;have h6:=(pR.at_ j vs ts q1 q2 o v t q3 q4).fr (E':=E.gr w.heap.size τ' (bA+1) v') (w':=w') (τ':=τ') XJ.size mv.bH (fun ρ' u' hm=>by cases hm) fun g aU iL=>⟨nM g aU (by rw[iL];simp),by simp only[Env.gr,if_pos aU];exact iL⟩;refine⟨fun ρ' u' hm=>?_,fun _=>h6.2 fun ρ' u' hm=>by cases hm⟩;have:=aJ.1 hm;simp only[Prod.mk.injEq] at this;omega
   ·rw[bm (by omega)] at q1;rw[bm (by rw[<- pR.len];omega),<- pR.len] at q2;obtain⟨h0,_⟩:=an.1 q2;have h0:j - jG.length < 1:=h0;rw[show j - jG.length=0 by omega] at q1 q2
    cases q1
    cases q2
    have hj:j=c:=by omega
    subst hj
    have pR:o=0:=by
     obtain⟨h0,_⟩:=an.1 q3;have h0:o < 1:=h0;omega
    subst pR
    have hv:v=E.vl ρ vρ:=by
     have:some (E.vl ρ vρ)=some v:=q3;exact(aY this).symm
    refine⟨fun ρ' u' hm=>?_,fun fk=>absurd (aJ.2 rfl) (fk ρ vρ)⟩;have:=aJ.1 hm;simp only[Prod.mk.injEq] at this;obtain⟨_,_,rfl,rfl⟩:=this;rw[hv,hvρ2];exact⟨rfl,mn⟩
  ·have y9:((E.gr w.heap.size τ' (bA+1) v').vl τ' (bA+1)).ownBlock=some g:=y9;rw[hvn] at y9;show(if g < w.heap.size then E.rl g else .rw τ')=.rw τ';split
   ·rename_i aU;rcases Q5 with h|h
    ·rw[h] at y9;exact ik g y9
    ·rw[h] at y9
     cases y9
     omega
   ·rfl)
 exact Lib.wp_append_run w s x t t ho _ _ yZ hx _ _ hr (hK _ _ _ f1 ⟨XJ.os,XJ.tape,XJ.output,XJ.size,fun b hb=>XJ.block b (cA hb r.hi) fun e=>by have:=(ro.lt b e.symm).1;omega⟩)
end
end
section
variable {P:Program}{T:Nat->Option Ty}{O:iy}[GlC O]
theorem Vw {st:St}{n:Nat}(h:Kb st n)(t:Option Nat)(v:AV){τ:Nat}{R R':Row}(hR:lk st.rw τ=some R):Kb (st.app t ⟨v,[],[(τ,R')]⟩) n:=by
 refine⟨fun b cs hb=>h.1 b cs ?_,fun τ' R2 h2=>?_⟩
 ·cases t <;> exact hb
 ·rw[St.iw,cB] at h2;split at h2
  ·rename_i R3 h3;rw[cp] at h3;split at h3
   ·rename_i e;subst e;exact h.2 τ R hR
   ·cases h3
  ·exact h.2 τ' R2 h2
theorem Mk {v:Value}(h:v.oneCell'=true):v.cells=#[v]:=by
 cases v <;> first|rfl|cases h
def atY (T:Nat->Option Ty)(od:St)(d1 x t:Nat)(s:Operand)(K:Nat->Nat->Nat->Nat->Row->Row->List (Nat × Nat × Nat)->Nat->Prop):Prop:=
 ∃ (e sz b:Nat) (z:List Ce) (q:List Lk) (y:Ty) (τ bA ρ vρ:Nat) (R Rρ:Row) (D:List (Nat × Nat × Nat)) (c:Nat),T t=some ⟨.iU e,sz,b,z,q⟩/\T e=some y/\y.sz=1/\ev od (.tmp x)=.c (.row ρ vρ)/\lk od.rw ρ=some Rρ/\vρ<=Rρ.bA/\ρ≠τ/\ev (od.app (some d1) (.val .bot)) s=.c (.row τ bA)/\lk od.rw τ=some R/\R.bA=bA/\R.k=1/\R.ty=e/\R.dp=some ⟨D,c,[]⟩/\Dp.iQ ⟨D,c,[]⟩=false/\R.xs.length=c/\(R.xs.length+1)*y.lP<=140737488355328/\R.xs.length+1 < 140737488355328/\K τ bA ρ vρ R Rρ D c
theorem Tp.alG (n:Nat){N:Nat}{w0:World}{id:Nat}{ops:Array Oper}{st:St}{Q:Ex->St->Prop}(pA:ops.toList.all w9=true)
  (h:match ops.toList.drop n with
   | ⟨some d1,.buildSlice t 1 ⟨[(0,.tmp x)]⟩,_,_,_,none⟩ :: ⟨dst,.call ⟨.builtin .append,⟨[s,.tmp d2]⟩,⟨[t1,t2]⟩⟩,_,_,_,none⟩ :: post=>(Nat.beq d1 d2&&(Nat.beq t t1&&Nat.beq t t2))=true/\kg P T ops st.nx 0 (ops.toList.take n) st fun od=>atY T od d1 x t s fun τ bA ρ vρ R Rρ D c=>
     kg P T ops (st.nx+128*((ops.toList.take n).length+2)) 0 post ((od.app (some d1) (.val .bot)).app dst ⟨.c (.row τ (bA+1)),[],[(τ,{ R with bA:=bA+1,xs:=R.xs++[[.sl Rρ.k Rρ.xs]],dp:=some ⟨D,c,[(c,0,ρ,vρ)]⟩ })]⟩) fun Tw=>match Tw with
     | ⟨sl,bx,rw,_⟩=>nY (st.nx+128*ops.size) fun nx=>Q .iV ⟨sl,bx,rw,nx⟩
   | _=>False):Tp P T N w0 O (.region id ops false) st Q:=fun hT ajQ E a w r hb=>by
 split at h
 case h_2=>exact h.elim
 rename_i d1 t x ty1 aoO atI dst s d2 t1 t2 ty2 aoN atH post aiZ;obtain⟨hbq,h⟩:=h;simp only[ah] at hbq;obtain⟨q1,q2,q3⟩:=hbq;obtain rfl:=ai q1;obtain rfl:=ai q2;obtain rfl:=ai q3;obtain⟨pre,Ir⟩:∃ pre,pre=ops.toList.take n:=⟨_,rfl⟩
 rw[<- Ir] at h;obtain⟨o1,Iu⟩:∃ o1:Oper,o1=⟨some d1,.buildSlice t 1 #[(0,.tmp x)],ty1,aoO,atI,none⟩:=⟨_,rfl⟩
 obtain⟨o2,Q6⟩:∃ o2:Oper,o2=⟨dst,.call ⟨.builtin .append,#[s,.tmp d1],#[t,t]⟩,ty2,aoN,atH,none⟩:=⟨_,rfl⟩
 have Q4:ops.toList=pre++o1 :: o2 :: post:=by
  rw[Ir,Iu,Q6,<- aiZ,List.take_append_drop]
 have ja:kC N ops false=true:=ajQ;obtain⟨L,hL,hp,od,⟨e,sz,b,z,q,y,τ,bA,ρ,vρ,R,Rρ,D,c,c1,c2,c3,c4,c5,c6,c7,c8,c9,c10,c11,c12,c13,c14,c15,c16,c17,Q2⟩,he⟩:=jA pre [] st _ (kT.refl _) (fun j o d hj=>by simp at hj) h;rw[bE] at hp he;obtain⟨L2,IF,uf,Tw,hK2,qP⟩:=jA post [] _ _ (kT.refl _) (fun j o d hj=>by simp at hj) Q2;simp only[bE] at uf qP;have hlp:L.length=pre.length:=by rw[<- hL,Lm]
 have aaI:L2.length=post.length:=by rw[<- IF,Lm]
 have lY:ops.size=pre.length+2+post.length:=by rw[<- bP,Q4,al,aZ,aZ];omega
 have Di:∀ i,ops[i]? = (pre++o1 :: o2 :: post)[i]?:=fun i=>by rw[<- Q4,dF]
 have k0:Kb st st.nx:=r.kb;have hlen:st.nx+128*ops.size=st.nx+128*(pre.length+2)+128*post.length:=by rw[lY];omega
 have r0:=r.mono (m':=st.nx+128*ops.size) (Nat.le_add_right _ _);have aiX:ops[pre.length]? = some o1:=by rw[Di,bm (ak _),Nat.sub_self];rfl
 have aiW:ops[pre.length+1]? = some o2:=by rw[Di,bm (by omega),show pre.length+1 - pre.length=1 by omega];rfl
 have hd1:d1 < N:=kY ja aiX d1 (by rw[Iu]);have xA:∀ t,o2.dst=some t->t < N:=fun t ht=>kY ja aiW t ht;refine(wpIn_wide (n:=0)).1 (wpIn_region ?_)
 rw[List.range_eq_range',show List.range' 0 ops.size=List.range' (0+0) pre.length++(pre.length :: (pre.length+1) :: (List.range' (pre.length+2+0) post.length++[])) by
  rw[aW,dm,dm,lY,show pre.length+2=pre.length+1+1 by omega,<- List.range'_succ,<- List.range'_succ,show pre.length+1+1+post.length=pre.length+(post.length+1+1) by omega];have:=List.range'_append_1 (s:=0) (m:=pre.length) (n:=post.length+1+1);rw[bw] at this;exact this.symm]
 refine lF (ro:=none) hT ja pA (fun i o d hi=>?_) hp k0 (m:=st.nx+128*ops.size) (by rw[hlp];omega) pre.length 0 E w a (by omega) (by simpa [bU] using r0) fun E1 w1 a1 r1 pS=>?_
 ·have:pre[i]? = some o:=by rw[<- hL,bI,hi];rfl
  rw[Di,bw,bz (an.1 this).1,this]
 have r1:=he.rep r1;have mn:=dy r1 (.tmp x);rw[c4] at mn;obtain⟨mn,xv⟩:a1.eval (.tmp x)=E1.vl ρ vρ/\(a1.eval (.tmp x)).oneCell'=true:=mn;rw[mn] at xv;unfold wpOpsIn;simp only[aiX];rw[if_pos (by rw[Iu];rfl)];refine JS (by rw[Iu];exact fun _ h=>by cases h) ?_;rw[Iu];refine acP hT r1 hd1 c1 c2 c3 mn xv (Mk xv) fun r2 dK=>?_;unfold wpOpsIn;simp only[aiW];rw[if_pos (by rw[Q6];rfl)];refine JS (by rw[Q6];exact fun _ h=>by cases h) ?_;have hz:w1.heap.size+1=(w1.alloc (.cells #[E1.vl ρ vρ] e)).heap.size:=(World.size_alloc _ _).symm
 have asS:(a1.put (some d1) (.slice (some ⟨w1.heap.size,0,none⟩) 1 1)).eval (.tmp d1)=.slice (some ⟨w1.heap.size,0,none⟩) 1 1:=by
  show(a1.put (some d1) (.slice (some ⟨w1.heap.size,0,none⟩) 1 1)).tmps.getD d1 undef=_;rw[Act.Fm _ _ _ _ (fun x hx=>by cases hx;rw[r1.sz];exact hd1),if_pos rfl]
 refine acQ hT r2 (o:=o2) xA (s:=s) (x:=.tmp d1) (g:=w1.heap.size) (by rw[Q6]) c1 c2 c8 (R:=R) c9 c10 c11 c3 c12 c13 c14 c15 (Rρ:=Rρ) c5 c6 c7 asS (World.alloc_heap_new _ _) hz (if_neg (Nat.lt_irrefl _)) xv c16 c17 [.sl Rρ.k Rρ.xs] rfl _ _ fun E3 v w3 r3 IE=>?_
 have kb1:Kb ((od.app (some d1) (.val .bot)).app dst ⟨.c (.row τ (bA+1)),[],[(τ,{ R with bA:=bA+1,xs:=R.xs++[[.sl Rρ.k Rρ.xs]],dp:=some ⟨D,c,[(c,0,ρ,vρ)]⟩ })]⟩) (st.nx+128*(pre.length+2)):=by
  have:=nK hp k0 L.length (ak _);rw[bj,hlp] at this;have k1:Kb od (st.nx+128*(pre.length+2)):=⟨fun b cs hb=>by have:=this.1 b cs (by rw[<- he.bx];exact hb);omega,fun τ R hR=>by have:=this.2 τ R (by rw[<- he.rw];exact hR);omega⟩
  exact Vw (QG k1 _ _) _ _ (R:=R) c9
 have r4:cx O E3 w3 w0.heap.size N (st.nx+128*ops.size) ((od.app (some d1) (.val .bot)).app dst ⟨.c (.row τ (bA+1)),[],[(τ,{ R with bA:=bA+1,xs:=R.xs++[[.sl Rρ.k Rρ.xs]],dp:=some ⟨D,c,[(c,0,ρ,vρ)]⟩ })]⟩) ((a1.put (some d1) (.slice (some ⟨w1.heap.size,0,none⟩) 1 1)).put dst v):=by
  have:=r3;rw[Q6] at this;exact this
 have NV:Below w0.heap.size w0 w3:=hb.trans (pS.trans ((dK.mono r1.hi).trans IE));rw[show o2.dst=dst by rw[Q6]];refine lF (ro:=none) hT ja pA (fun i o d hi=>?_) (L:=L2) uf kb1 (m:=st.nx+128*ops.size) (by rw[aaI,hlen];omega) post.length 0 E3 w3 _ (by omega) (by rw[List.take_zero];exact r4) fun E4 w4 a4 r5 hb4=>?_
 ·have:post[i]? = some o:=by rw[<- IF,bI,hi];rfl
  rw[Di,bm (by omega),show pre.length+2+i - pre.length=i+1+1 by omega,List.getElem?_cons_succ,List.getElem?_cons_succ,this]
 obtain⟨sl,bx,dU,nx⟩:=Tw;simp only[la] at hK2;have he3:kT (bU ((od.app (some d1) (.val .bot)).app dst ⟨.c (.row τ (bA+1)),[],[(τ,{ R with bA:=bA+1,xs:=R.xs++[[.sl Rρ.k Rρ.xs]],dp:=some ⟨D,c,[(c,0,ρ,vρ)]⟩ })]⟩) L2) ⟨sl,bx,dU,st.nx+128*ops.size⟩:=⟨qP.sl,qP.bx,qP.rw⟩
 exact⟨_,E4,hK2,he3.rep r5,NV.trans hb4⟩
end
end
end Cg
namespace Go.Proofs.YtbmdcnkidjlbbaaGreat
section
open Go Cg Go.RowKit Go.Sort
def GB:ck:=⟨0,0,0,0,0,0,0,⟨#[]⟩,0,0,⟨0,0⟩,⟨0,0⟩,⟨0,0⟩⟩
def Rn (L:List bV)(i:Nat):bV:=(L[i]?).getD ⟨0,0,0,0,false,[],GB,[]⟩
theorem Cz {L:List bV}{i:Nat}(h:i < L.length):Rn L i=L[i]:=by
 unfold Rn;rw[ag h];rfl
def DM (R:List (List Bool))(i j:Nat)(b:Bool):List (List Bool):=R.set i (((R[i]?).getD []).set j b)
noncomputable def xc (s:aq)(L:List bV)(w:Wd)(aR:Int)(x y:Int):Bool:=Qc s (Rn L x.toNat) (Rn L y.toNat) w x.toNat y.toNat aR
noncomputable def G4 (s:aq)(L:List bV)(w:Wd)(aR x:Int)(m:List Int)(R:List (List Bool)):List (List Bool):=m.foldl (fun R y=>DM R x.toNat y.toNat (xc s L w aR x y)) R
noncomputable def agE (s:aq)(L:List bV)(w:Wd)(aR:Int)(m:List Int):List (List Bool):=m.foldl (fun R x=>G4 s L w aR x m R) (List.replicate L.length (List.replicate L.length false))
noncomputable def B0 (s:aq)(L:List bV)(w:Wd)(m:List Int)(aR:Int):Int:=HH (L.map bV.dG) (BL (agE s L w aR m) (jc m))
theorem N5 (X:List bV)(f:bV):(X.map bV.dG).map eI++[eI f.dG]=((X++[f]).map bV.dG).map eI:=by rw[aQ,aQ];rfl
theorem Zm (s:aq)(L:List bV)(w:Wd)(H:qJ s L w)(m:List Int)(aR:Int)(hm:m.length<=1000000)(Q7:∀ x∈m,0<=x/\x.toNat < L.length):Ct ae 57 [.agg ((wE s L w).map .t),.c (.t (.sl 1 (m.map eI))),.c (.t (iv aR))] (aEn (B0 s L w m aR)) [] true:=by
 refine aEs (b:=false) ?_ rfl;have hsL:=H.sL;have NX:L.length*216<=aV:=by unfold aV;omega
 generalize hM:B0 s L w m aR=M;unfold B0 at hM;refine cT Tryz.func57 rfl (by kernel_rfl) rfl fun w0 O _=>aEk [3] ?_;refine Tp.deep 512 [(0,4,1)] rfl rfl (aEk [] ?_);refine aEm (fun k:Nat=>⟨[(1,.c (.t (.sl 1 (m.map eI)))),(2,.c (.t (iv aR))),(3,.ptr 0 0),(7,.c (.row 9000 0)),(8,.c (.row 9001 0)),(9,aEn k)],[(0,(wE s L w).map .t)],[(9000,⟨3,1,0,((L.take k).map bV.dG).map eI,none⟩),(9001,⟨87,1,0,(List.replicate k (List.replicate L.length false)).map tR,some ⟨[(0,4,1)],k,[]⟩⟩)],10000⟩) (fun k=>k<=L.length) (fun k=>L.length - k) 0 ?_ (aA _) ?_
 ·refine ba [(9000,256),(9001,512)] rfl rfl ?_ ⟨aC _ rfl,ea⟩ ?_
  repeat' constructor
 rintro k hk;refine aEk [6,7,5,8] (cS (fun h=>?_) fun h=>?_)
 ·have aU:k < L.length:=cJ h;refine aEk [] (Ei k (Ei (L[k].enc) (Ai rfl (Ai (aK _ _ k aU) ?_))))
  have pS:((((L.take k).map bV.dG).map eI).length+1)*8<=140737488355328/\(((L.take k).map bV.dG).map eI).length+1 < 140737488355328:=by
   rw[Lm,Lm,au];omega
  refine Ai (.inl rfl) (Ai pS.1 (Ai pS.2 ?_));refine Tp.alG 5 rfl (Ai rfl (Ei L.length (Ei [bv false] (Ai (Ai (congrArg (fun n:Nat=>(n:Int)) (Lm ..)) (congrArg (fun n:Nat=>(n:Int)) (Lm ..))) (Ai ?_ (Ai (Ai (show L.length*1<=140737488355328 by omega) (show L.length < 140737488355328 by omega)) ?_))))))
  ·repeat' constructor
  have uh:((List.replicate k (List.replicate L.length false)).map tR).length=k:=by rw[Lm,cz]
  refine⟨_,_,_,_,_,_,9001,0,12432,0,_,_,[(0,4,1)],k,rfl,rfl,rfl,rfl,rfl,ak _,by decide,rfl,rfl,rfl,rfl,rfl,rfl,rfl,uh,?_,?_,?_⟩
  ·show(((List.replicate k (List.replicate L.length false)).map tR).length+1)*24<=140737488355328;rw[uh];omega
  ·show((List.replicate k (List.replicate L.length false)).map tR).length+1 < 140737488355328;rw[uh];omega
  have G:∀ u:List Tr,((List.replicate k (List.replicate L.length false)).map tR++[u])[k]? = some u:=fun u=>by
   rw[bm (by rw[uh];exact ak _),uh,Nat.sub_self];rfl
  have G2:((List.replicate k (List.replicate L.length false)).map tR++[[Tr.sl 1 (List.replicate L.length [bv false])]]).set k [Tr.sl 1 (List.replicate L.length [bv false])]=(List.replicate (k+1) (List.replicate L.length false)).map tR:=by
   rw[List.set_append_right _ _ (by rw[uh];exact ak _),uh,Nat.sub_self,List.replicate_succ',aQ];show _++[[Tr.sl 1 (List.replicate L.length [bv false])]]=_++[tR (List.replicate L.length false)]
   have e:(List.replicate L.length false).map tB=List.replicate L.length [bv false]:=by
    rw[List.map_replicate];rfl
   unfold tR;rw[e]
  refine Tp.put 9001 k (k+1) (ts:=[Tr.sl 1 (List.replicate L.length [bv false])]) (vp:=[Tr.sl 1 (List.replicate L.length [bv false])]) rfl rfl (G _) rfl (Ai rfl ea) rfl (.inr (Ai rfl (Ai rfl rfl))) ?_;refine aEk [] (Ei (k+1) (Ai (show k+1<=_ by omega) (Ai (show L.length - (k+1) < L.length - k by omega) ?_)));refine ba [(9000,9000),(9001,9001)] rfl rfl ?_ ⟨aC _ rfl,ea⟩ ?_
  repeat' constructor
  exact cZ k aU 216 (by decide) NX
  ·exact(N5 (L.take k) L[k]).trans (congrArg (fun x=>(x.map bV.dG).map eI) (aS aU).symm)
  ·exact G2
 ·have fp:k=L.length:=dM h hk;subst fp;rw[bj];generalize hR0:List.replicate L.length (List.replicate L.length false)=R0
  have ajA:R0.length=L.length/\∀ r∈R0,r.length=L.length:=by
   rw[<- hR0];exact⟨cz,fun r hr=>by rw[List.eq_of_mem_replicate hr,cz]⟩
  have hrel:agE s L w aR m=m.foldl (fun R x=>G4 s L w aR x m R) R0:=by rw[<- hR0];rfl
  rw[hrel] at hM;have hcl:L.length=R0.length:=ajA.1.symm;refine aEk [] (aEm (α:=Nat × List (List Bool)) (fun y=>⟨[(1,.c (.t (.sl 1 (m.map eI)))),(2,.c (.t (iv aR))),(3,.ptr 0 0),(7,.c (.row 9000 0)),(8,.c (.row 9001 0)),(10,aEn y.1)],[(0,(wE s L w).map .t)],[(9000,⟨3,1,0,(L.map bV.dG).map eI,none⟩),(9001,⟨87,1,0,y.2.map tR,some ⟨[(0,4,1)],L.length,[]⟩⟩)],20000⟩) (fun y=>y.1<=m.length/\(y.2.length=L.length/\∀ r∈y.2,r.length=L.length)/\(m.drop y.1).foldl (fun R x=>G4 s L w aR x m R) y.2=m.foldl (fun R x=>G4 s L w aR x m R) R0) (fun y=>m.length - y.1) (0,R0) ?_ ⟨aA _,ajA,rfl⟩ ?_)
  ·refine ba [(9000,9000),(9001,9001)] rfl rfl ?_ ⟨aC _ rfl,ea⟩ ?_
   repeat' constructor
  rintro⟨a,R1⟩ ⟨ha,aqQ,Iz⟩;have ha:a<=m.length:=ha;refine aEk [15] (cS (fun h=>?_) fun h=>?_)
  ·have Gy:a < m.length:=cJ h;rw[cd Gy,List.foldl_cons] at Iz;obtain⟨hx0,hxL⟩:=Q7 _ (aH Gy);refine aEk [] (aEm (α:=Nat × List (List Bool)) (fun y=>⟨[(1,.c (.t (.sl 1 (m.map eI)))),(2,.c (.t (iv aR))),(3,.ptr 0 0),(7,.c (.row 9000 0)),(8,.c (.row 9001 0)),(10,aEn a),(11,aEn y.1)],[(0,(wE s L w).map .t)],[(9000,⟨3,1,0,(L.map bV.dG).map eI,none⟩),(9001,⟨87,1,0,y.2.map tR,some ⟨[(0,4,1)],L.length,[]⟩⟩)],30000⟩) (fun y=>y.1<=m.length/\(y.2.length=L.length/\∀ r∈y.2,r.length=L.length)/\(m.drop y.1).foldl (fun R v=>DM R m[a].toNat v.toNat (xc s L w aR m[a] v)) y.2=G4 s L w aR m[a] m R1) (fun y=>m.length - y.1) (0,R1) ?_ ⟨aA _,aqQ,rfl⟩ ?_)
   ·refine ba [(9000,9000),(9001,9001)] rfl rfl ?_ ⟨aC _ rfl,ea⟩ ?_
    repeat' constructor
   rintro⟨b,R2⟩ ⟨hb,Is,qP⟩;have hb:b<=m.length:=hb;have Is:R2.length=L.length/\∀ r∈R2,r.length=L.length:=Is;refine aEk [14,13] (cS (fun h=>?_) fun h=>?_)
   ·have XD:b < m.length:=cJ h;rw[cd XD,List.foldl_cons] at qP;obtain⟨hy0,hyL⟩:=Q7 _ (aH XD);have hxR:m[a].toNat < R2.length:=by rw[Is.1];exact hxL
    refine Tp.take 9001 m[a].toNat 0 4 1 (ts:=tR R2[m[a].toNat]) (ys:=R2[m[a].toNat].map tB) rfl rfl rfl (by simp) hxL (aK _ _ _ hxR) rfl ?_;refine aEk [] ?_;have hxe:m[a]=((m[a].toNat:Nat):Int):=(Int.toNat_of_nonneg hx0).symm;have hye:m[b]=((m[b].toNat:Nat):Int):=(Int.toNat_of_nonneg hy0).symm;have pA:=U4 s L w H m[a].toNat m[b].toNat hxL hyL aR;refine Ei a (Ei (eI m[a]) (Ai rfl (Ai (aK _ _ a Gy) ?_)));refine Ei m[a].toNat (Ai hxe (Ai (by rw[Lm];exact hxR) ?_));refine Ai rfl (Ai (by rw[Lm];exact hxR) (Ai (Nb rfl) ?_));refine Ei b (Ei (eI m[b]) (Ai rfl (Ai (aK _ _ b XD) ?_)));refine Ei a (Ei (eI m[a]) (Ai rfl (Ai (aK _ _ a Gy) ?_)));refine Ei b (Ei (eI m[b]) (Ai rfl (Ai (aK _ _ b XD) ?_)));refine cF pA ⟨fL (wE s L w),congrArg iv hxe,congrArg iv hye,rfl,ea⟩ ?_;have ik:(R2[m[a].toNat]).length=L.length:=Is.2 _ (aH hxR);have hyR:m[b].toNat < (R2[m[a].toNat]).length:=by rw[ik];exact hyL
    refine Ei m[b].toNat (Ai hye (Ai (by rw[Lm];exact hyR) ?_));refine Ei (tB (R2[m[a].toNat])[m[b].toNat]) (Ai (aK _ _ _ hyR) (Ai (Nb rfl) ?_))
    have hnv:Qc s L[m[a].toNat] L[m[b].toNat] w m[a].toNat m[b].toNat aR=xc s L w aR m[a] m[b]:=by
     unfold xc;rw[Cz hxL,Cz hyL]
    have Q0:DM R2 m[a].toNat m[b].toNat (xc s L w aR m[a] m[b])=R2.set m[a].toNat ((R2[m[a].toNat]).set m[b].toNat (xc s L w aR m[a] m[b])):=by
     unfold DM;rw[ag hxR];rfl
    have aqP:(DM R2 m[a].toNat m[b].toNat (xc s L w aR m[a] m[b])).length=L.length/\∀ r∈DM R2 m[a].toNat m[b].toNat (xc s L w aR m[a] m[b]),r.length=L.length:=by
     rw[Q0];refine⟨by rw[bQ];exact Is.1,fun r hr=>?_⟩;rcases List.mem_or_eq_of_mem_set hr with hr|hr
     ·exact Is.2 r hr
     ·rw[hr,bQ];exact ik
    have qz:∀ v:Bool,v=xc s L w aR m[a] m[b]->(R2.map tR).set m[a].toNat [Tr.sl 1 (((R2[m[a].toNat]).map tB).set m[b].toNat [bv v])]=(DM R2 m[a].toNat m[b].toNat (xc s L w aR m[a] m[b])).map tR:=fun v hv=>by
     rw[Q0,List.map_set,hv];congr 1;unfold tR;rw[List.map_set];rfl
    refine Tp.put 9001 m[a].toNat L.length (ts:=tR R2[m[a].toNat]) rfl rfl (aK _ _ _ hxR) rfl (Ai rfl ea) rfl (.inl (Ai rfl hxL)) ?_
    (try refine aEk [] ?_)
    refine Ei (b+1,DM R2 m[a].toNat m[b].toNat (xc s L w aR m[a] m[b])) (Ai ⟨show b+1<=_ by omega,aqP,qP⟩ (Ai (show m.length - (b+1) < m.length - b by omega) ?_));refine ba [(9000,9000),(9001,9001)] rfl rfl ?_ ⟨aC _ rfl,ea⟩ ?_
    repeat' constructor
    exact wa b (by omega);exact qz _ hnv
   ·have dK:b=m.length:=dM h hb;rw[dK,List.drop_eq_nil_of_le (ak _)] at qP;have qP:R2=G4 s L w aR m[a] m R1:=qP;rw[<- qP] at Iz
    (try refine aEk [] ?_)
    refine Ei (a+1,R2) (Ai ⟨show a+1<=_ by omega,Is,Iz⟩ (Ai (show m.length - (a+1) < m.length - a by omega) ?_));refine ba [(9000,9000),(9001,9001)] rfl rfl ?_ ⟨aC _ rfl,ea⟩ ?_
    repeat' constructor
    exact wa a (by omega)
  ·have uj:a=m.length:=dM h ha;rw[uj,List.drop_eq_nil_of_le (ak _)] at Iz;have Iz:R1=m.foldl (fun R x=>G4 s L w aR x m R) R0:=Iz;rw[<- Iz] at hM
   (try refine aEk [] ?_)
   refine cF (Zn m (L.map bV.dG) R1 hm) ⟨rfl,?_,?_,ea⟩ ?_
   ·repeat' constructor
   ·repeat' constructor
   subst hM;refine Ei [] ?_
   repeat' constructor
def qv (L:List bV)(aR:Int)(n:Nat):List Int:=((List.range n).filter fun i=>Gc (Rn L i) aR).map fun i:Nat=>(i:Int)
theorem ME (L:List bV)(aR:Int)(n:Nat):qv L aR (n+1)=qv L aR n++(if Gc (Rn L n) aR=true then [(n:Int)] else []):=by
 unfold qv;rw[List.range_succ,List.filter_append,aQ];congr 1
 by_cases h:Gc (Rn L n) aR=true
 ·rw[if_pos h];simp[h]
 ·rw[if_neg h];simp[h]
theorem EL (L:List bV)(aR:Int)(n:Nat):(qv L aR n).length<=n:=by
 unfold qv;rw[Lm];exact aX (cE _ _) (by rw[List.length_range];exact ak _)
theorem QA (L:List bV)(aR:Int)(n:Nat):∀ x∈qv L aR n,0<=x/\x.toNat < n:=fun x hx=>by
 obtain⟨i,hi,rfl⟩:=bL.1 hx;have:=List.mem_range.1 (List.mem_filter.1 hi).1;omega
theorem Vn (L:List bV)(aR:Int)(n:Nat):(qv L aR n).Nodup:=by
 unfold qv;refine List.Pairwise.map _ (fun a b h=>?_) (List.nodup_range.filter _);intro e;exact h (by omega)
noncomputable def yR (s:aq)(L:List bV)(aR:Int):Nat->Wd->List Int->List Int->Wd × List Int
 | 0,w,_,o=>(w,o)
 | f+1,w,m,o=>yR s L aR f (sQ s (Rn L (B0 s L w m aR).toNat) w (B0 s L w m aR).toNat aR) (m.filter fun x=>x != B0 s L w m aR) (o++[B0 s L w m aR])
noncomputable def Bw (s:aq)(L:List bV)(w:Wd)(aR:Int):Wd × List Int:=yR s L aR (qv L aR L.length).length (if aR=7 then Sa s w else w) (qv L aR L.length) []
theorem K5 {s:aq}{L:List bV}{w:Wd}(H:qJ s L w):qJ s L (Sa s w):=by
 refine⟨H.so,H.sL,H.fo,?_,H.bg,H.st,H.bl,fun y hy=>?_,H.sl⟩
 ·show((s.aa.zip w.all).map fun p=>kR p.1 p.2).length=_;rw[Lm,List.length_zip,H.all,Nat.min_self]
 ·obtain⟨p,hp,rfl⟩:=bL.1 hy;have h1:=H.ok p.2 (List.of_mem_zip hp).2;unfold kR;split
  ·exact h1
  ·exact h1
theorem Wh {m:List Int}(h:m.Nodup){i:Int}(hi:i∈m):(m.filter fun x=>x != i).length+1=m.length:=by
 have e:=h.erase_eq_filter i;rw[<- e,List.length_erase_of_mem hi];have:=List.length_pos_of_mem hi;omega
theorem OC (s:aq)(L:List bV)(w:Wd)(H:qJ s L w)(aR:Int):Ct ae 23 [.agg ((wE s L w).map .t),.c (.t (iv aR))] (.gi [.agg ((wE s L (Bw s L w aR).1).map .t),.c (.t (.sl 1 ((Bw s L w aR).2.map eI)))]) [] false:=by
 have hsL:=H.sL;have NX:L.length*216<=aV:=by unfold aV;omega
 have vI:=Ns s L w H;generalize hM:Bw s L w aR=M;unfold Bw at hM;generalize hW:(if aR=7 then Sa s w else w)=w1 at hM
 have H1:qJ s L w1:=by
  rw[<- hW];split
  ·exact K5 H
  ·exact H
 have vG:=EL L aR L.length;refine cT Tryz.func23 rfl (by kernel_rfl) rfl fun w0 O _=>aEk [2,3] ?_;apply Cf (P:=ae) (T:=T) (N:=Tryz.f23.ntmps) (w0:=w0) (O:=O) ⟨[(1,.c (.t (iv aR))),(2,.ptr 0 0),(4,.ptr 128 0)],[(0,(wE s L w1).map .t),(128,List.replicate 24 .bot)],[],5000⟩
 case h=>
  intro K;refine cS (fun h=>?_) fun h=>?_
  ·have h:aR=7:=by simpa using h
   rw[if_pos h] at hW;refine aEk [] (cR vI ⟨fL (wE s L w),ea⟩ ?_);refine aEp (ba [] rfl rfl ?_ ?_ ?_) K
   ·subst hW
    repeat' constructor
   ·subst hW;refine⟨?_,?_,ea⟩
    repeat' constructor
   ·repeat' constructor
  ·have h:¬ aR=7:=by simpa using h
   rw[if_neg h] at hW;refine aEp (ba [] rfl rfl ?_ ?_ ?_) K
   ·subst hW
    repeat' constructor
   ·subst hW;refine⟨?_,?_,ea⟩
    repeat' constructor
   ·repeat' constructor
 case key=>
  refine aEk [] (aEm (fun k:Nat=>⟨[(1,.c (.t (iv aR))),(2,.ptr 0 0),(4,.ptr 128 0),(6,.c (.row 9000 0)),(7,aEn k)],[(0,(wE s L w1).map .t),(128,List.replicate 24 .bot)],[(9000,⟨3,1,0,(qv L aR k).map eI,none⟩)],10000⟩) (fun k=>k<=L.length) (fun k=>L.length - k) 0 ?_ (aA _) ?_)
  ·refine ba [(9000,5000)] rfl rfl ?_ ?_ ?_
   ·repeat' constructor
   ·refine⟨aC _ rfl,?_,ea⟩
    repeat' constructor
   ·repeat' constructor
  rintro k hk;refine aEk [9,10,11] (cS (fun h=>?_) fun h=>?_)
  ·have aU:k < L.length:=cJ h;have fu:=ME L aR k;rw[Cz aU] at fu;have S0:=EL L aR k;have gP:((qv L aR k).map eI).length+1<=2000000:=by rw[Lm];omega
   refine Ei k (Ei (L[k].enc) (Ai rfl (Ai (aK _ _ k aU) ?_)));refine cF (NA L[k] aR (H.fo _ (aH aU))) ⟨fL L[k].enc,rfl,ea⟩ ?_;refine cS (fun h1=>?_) fun h1=>?_
   ·rw[if_pos (show Gc L[k] aR=true from h1)] at fu
    (try refine aEk [] ?_)
    refine Ai (.inl rfl) (Ai (show(((qv L aR k).map eI).length+1)*8<=140737488355328 by omega) (Ai (show((qv L aR k).map eI).length+1 < 140737488355328 by omega) ?_));refine Ei (k+1) (Ai (show k+1<=_ by omega) (Ai (show L.length - (k+1) < L.length - k by omega) ?_));refine ba [(9000,9000)] rfl rfl ?_ ?_ ?_
    ·repeat' constructor
     exact cZ k aU 216 (by decide) NX
    ·refine⟨aC _ rfl,?_,ea⟩
     repeat' constructor
    ·repeat' constructor
     exact(nA _ _).trans (congrArg (List.map eI) fu.symm)
   ·rw[if_neg (by rw[show Gc L[k] aR=false from h1];decide),aW] at fu
    (try refine aEk [] ?_)
    refine Ei (k+1) (Ai (show k+1<=_ by omega) (Ai (show L.length - (k+1) < L.length - k by omega) ?_));refine ba [(9000,9000)] rfl rfl ?_ ?_ ?_
    ·repeat' constructor
     exact cZ k aU 216 (by decide) NX
    ·refine⟨aC _ rfl,?_,ea⟩
     repeat' constructor
    ·repeat' constructor
     exact congrArg (List.map eI) fu.symm
  ·have fp:k=L.length:=dM h hk;subst fp;have pA:=Vn L aR L.length;have hme:=QA L aR L.length;generalize qv L aR L.length=m0 at *;refine aEk [] (aEm (α:=Nat × Wd × List Int × List Int) (fun x=>⟨[(1,.c (.t (iv aR))),(2,.ptr 0 0),(4,.ptr 128 0),(6,.c (.t (.sl 1 (x.2.2.1.map eI)))),(8,.c (.row 9000 0)),(9,aEn (m0.map eI).length),(10,aEn x.1)],[(0,(wE s L x.2.1).map .t),(128,List.replicate 24 .bot)],[(9000,⟨3,1,0,x.2.2.2.map eI,none⟩)],20000⟩) (fun x=>x.1<=m0.length/\qJ s L x.2.1/\(x.2.2.1.length=m0.length - x.1/\x.2.2.1.Nodup/\∀ y∈x.2.2.1,0<=y/\y.toNat < L.length)/\x.2.2.2.length=x.1/\yR s L aR (m0.length - x.1) x.2.1 x.2.2.1 x.2.2.2=M) (fun x=>m0.length - x.1) (0,w1,m0,[]) ?_ ⟨aA _,H1,⟨rfl,pA,hme⟩,rfl,hM⟩ ?_)
   ·refine ba [(9000,10640)] rfl rfl ?_ ?_ ?_
    ·repeat' constructor
    ·refine⟨aC _ rfl,?_,ea⟩
     repeat' constructor
    ·repeat' constructor
   rintro⟨n,v,m,o⟩ ⟨hn,Hv,⟨uS,hmn,hmm⟩,XC,he⟩;have hn:n<=m0.length:=hn;have Hv:qJ s L v:=Hv;have uS:m.length=m0.length - n:=uS;have hmm:∀ y∈m,0<=y/\y.toNat < L.length:=hmm;have XC:o.length=n:=XC;have he:yR s L aR (m0.length - n) v m o=M:=he;refine aEk [15] (cS (fun h=>?_) fun h=>?_)
   ·have aU:n < m0.length:=cJ h;obtain⟨f,hf⟩:∃ f,m0.length - n=f+1:=⟨m0.length - n - 1,by omega⟩
    rw[hf,yR] at he;have iR:m≠[]:=fun e=>by rw[e] at uS;simp at uS;omega
    have hix:B0 s L v m aR∈m:=P9 _ _ iR fun x hx=>(hmm x hx).1;have hnx:=Zm s L v Hv m aR (by omega) hmm;obtain⟨hi0,hiL⟩:=hmm _ hix;have si:=Wh hmn hix;generalize B0 s L v m aR=i at *;have hie:i=((i.toNat:Nat):Int):=(Int.toNat_of_nonneg hi0).symm;have VX:=AI s L v Hv i.toNat hiL aR;rw[<- Cz hiL] at VX;have Hv2:=C6 Hv (Rn L i.toNat) i.toNat aR
    have Q5:((o.map eI).length+1)*8<=140737488355328/\(o.map eI).length+1 < 140737488355328:=by
     rw[Lm];omega
    refine cF hnx ⟨fL (wE s L v),rfl,rfl,ea⟩ ?_;refine aEk [] (Ai (.inl rfl) (Ai Q5.1 (Ai Q5.2 ?_)));refine cR VX ⟨fL (wE s L v),congrArg iv hie,rfl,ea⟩ ?_;refine cR (Lo m i (by omega)) ⟨rfl,rfl,ea⟩ ?_;refine Ei (n+1,sQ s (Rn L i.toNat) v i.toNat aR,m.filter fun x=>x != i,o++[i]) (Ai ⟨aU,Hv2,⟨?_,hmn.filter _,fun y hy=>hmm y (List.mem_filter.1 hy).1⟩,?_,?_⟩ (Ai (show m0.length - (n+1) < m0.length - n by omega) ?_))
    ·have si:(m.filter fun x=>x != i).length+1=m.length:=si;show(m.filter fun x=>x != i).length=m0.length - (n+1);omega
    ·show(o++[i]).length=n+1;rw[al,XC];rfl
    ·show yR s L aR (m0.length - (n+1)) (sQ s (Rn L i.toNat) v i.toNat aR) (m.filter fun x=>x != i) (o++[i])=M;rw[show m0.length - (n+1)=f by omega];exact he
    refine ba [(9000,9000)] rfl rfl ?_ ?_ ?_
    ·repeat' constructor
     exact wa n (by omega)
    ·refine⟨aC _ rfl,?_,ea⟩
     repeat' constructor
    ·repeat' constructor
     exact nA _ _
   ·have Cp:n=m0.length:=dM h hn;rw[Cp,Nat.sub_self] at he;have he:(v,o)=M:=he;subst he
    (try refine aEk [] ?_)
    refine Ei [] ?_
    repeat' constructor
end
end Go.Proofs.YtbmdcnkidjlbbaaGreat
namespace Cg
section
open Go Go.RowKit Go.Sort Go.Lib
section
variable {P:Program}{T:Nat->Option Ty}{O:iy}[GlC O]
def NlT (t u:Tr):Prop:=t=u\/∃ k k',t=.sl k []/\u=.sl k' []
theorem RT.nl {F:Nat->Prop}{w:World}{v:Value}{t u:Tr}(h:RT F w v t)(e:NlT t u):RT F w v u:=by
 rcases e with rfl|⟨k,k',rfl,rfl⟩
 ·exact h
 ·cases h with
  | gV h=>exact .gV h
  | jS h1 h2 h3 h4 h5=>
   subst h1;exact .gV fun h=>by cases h
theorem jK.nl {F:Nat->Prop}{w:World}:∀ {vs:List Value} {ts us:List Tr},jK F w vs ts->A2 NlT ts us->jK F w vs us
 | _,_,_,.nil,.nil=>.nil
 | _,_,_,.cons h1 h2,.cons e1 e2=>.cons (h1.nl e1) (jK.nl h2 e2)
omit [GlC O] in
theorem Tp.Zj {N:Nat}{w0:World}{c:Code}{st:St}{Q:Ex->St->Prop}(τ:Nat)(tf:List (List Tr)){R:Row}(hR:lk st.rw τ=some R)(hd:R.dp=none)(hx:A2 (A2 NlT) R.xs tf)(h:Tp P T N w0 O c ⟨st.sl,st.bx,(τ,{ R with xs:=tf }) :: st.rw,st.nx⟩ Q):Tp P T N w0 O c st Q:=by
 refine Tp.Ih [(τ,{ R with xs:=tf })] 0 (fun E w a r=>⟨E,?_⟩) h;have mv:Mv st E w E w (fun i=>∃ cs,lk ([]:List (Nat × List Ce)) i=some cs) (fun τ'=>∃ R',lk [(τ,({ R with xs:=tf }:Row))] τ'=some R'):=Mv.refl _ _ _ _ _
 have one:∀ {τ' R'},lk [(τ,({ R with xs:=tf }:Row))] τ'=some R'->τ'=τ/\R'={ R with xs:=tf }:=fun {τ' R'} h=>by
  rw[cp] at h;split at h
  ·rename_i e
   cases h
   exact⟨e.symm,rfl⟩
  ·cases h
 refine cx.app (v:=.tuple #[]) r (t:=none) (fun _ h=>by cases h) mv ⟨fun τ' R1 R2 e1 e2=>?_,fun b hb=>(by cases hb),fun p hp=>(by cases hp),fun _ _ h=>(by cases h),fun τ' R' h=>?_,fun τ' R' d' h kH l hl=>?_⟩ trivial (fun _ _ h=>by cases h) fun τ' R' h=>?_
 ·obtain⟨rfl,rfl⟩:=one e2;rw[hR] at e1
  cases e1
  exact ak _
 ·obtain⟨rfl,rfl⟩:=one h;exact r.sc.fr τ' R hR
 ·obtain⟨rfl,rfl⟩:=one h;have kH:R.dp=some d':=kH;rw[hd] at kH
  cases kH
 ·obtain⟨rfl,rfl⟩:=one h;obtain⟨es,h1,h2,h3⟩:=(r.row τ' R hR).ow hd;refine Ow.rr hd ⟨es,h1,⟨h2.len.trans hx.len,fun j vs ts q1 q2=>?_⟩,h3⟩;obtain⟨ts0,g1,g2⟩:=hx.get j ts q2;exact(h2.at_ j vs ts0 q1 g1).nl g2
theorem zZ:∀ ts:List Tr,A2 NlT ts ts
 | []=>.nil
 | _t :: ts=>.cons (.inl rfl) (zZ ts)
theorem EA:∀ xs:List (List Tr),A2 (A2 NlT) xs xs
 | []=>.nil
 | x :: xs=>.cons (zZ x) (EA xs)
theorem P7 (xs:List (List Tr)){ts us:List Tr}(h:A2 NlT ts us):A2 (A2 NlT) (xs++[ts]) (xs++[us]):=A2.append (EA xs) (.cons h .nil)
end
end
end Cg
namespace Go.Proofs.YtbmdcnkidjlbbaaGreat
section
open Go Cg Go.RowKit Go.Sort
def amQ (o:az):Nat->List bJ->List bV
 | _,[]=>[]
 | k,a :: r=>(if (a.kind==1)=true then [⟨o.id,k,o.dB,o.dG,false,[],a.filter,a.cH⟩] else [])++amQ o (k+1) r
noncomputable def l0 (aE:List bd)(o:az):List bV:=if (o.cn==0)=true then amQ o 0 (ofM aE o).aI else []
def CD (c:dI):bV:=⟨c.dC,-1,c.dB,c.dG,true,c.aa,GB,c.cH⟩
noncomputable def amP (aE:List bd)(s:aq):List bV:=s.aa.flatMap (l0 aE)++s.dD.map CD
theorem xF (o:az):∀ (l m:List bJ) (k:Nat),amQ o k (l++m)=amQ o k l++amQ o (k+l.length) m
 | [],m,k=>rfl
 | a :: r,m,k=>by
  rw[List.cons_append,amQ,amQ,xF o r m (k+1),b9,aZ,show k+1+r.length=k+(r.length+1) by omega]
theorem M5 (o:az)(l:List bJ)(k:Nat)(hk:k < l.length):amQ o 0 (l.take (k+1))=amQ o 0 (l.take k)++(if (l[k].kind==1)=true then [⟨o.id,k,o.dB,o.dG,false,[],l[k].filter,l[k].cH⟩] else []):=by
 rw[aS hk,xF,au,Nat.min_eq_left (by omega),bw];show _++((if (l[k].kind==1)=true then [_] else [])++[])=_;rw[aW]
theorem Rt (o:az)(l:List bJ)(k:Nat):(amQ o 0 (l.take k)).length<=(amQ o 0 l).length:=by
 have:=xF o (l.take k) (l.drop k) 0;rw[List.take_append_drop] at this;rw[this,al];omega
theorem apF {X:List bV}{y:bV}:X.map bV.enc++[y.enc]=(X++[y]).map bV.enc:=by rw[aQ];rfl
theorem abX (aE:List bd)(l:List az)(k:Nat):((l.take k).flatMap (l0 aE)).length<=(l.flatMap (l0 aE)).length:=by
 have e:l.flatMap (l0 aE)=(l.take k).flatMap (l0 aE)++(l.drop k).flatMap (l0 aE):=by rw[<- List.flatMap_append,List.take_append_drop]
 rw[e,al];omega
theorem Rq (aE:List bd)(s:aq)(hc:aE.length*176<=aV)(mc:∀ y∈aE,bd.ok y)(hs:s.ok)(hn:(amP aE s).length<=1000000)(ha:∀ o∈s.aa,(ofM aE o).aI.length*640<=aV):Ct ae 53 [.c (.t (.sl 17 (aE.map bd.enc))),.agg (s.enc.map .t)] (.c (.t (.sl 23 ((amP aE s).map bV.enc)))) [] false:=by
 have h8:s.aa.length*128<=aV:=aq.ff hs
 have hco:s.dD.length*80<=aV:=by
  have:=aq.PT hs;exact this
 have vF:(s.aa.flatMap (l0 aE)).length<=1000000:=by
  unfold amP at hn;rw[al] at hn;omega
 have Cp:(s.aa.flatMap (l0 aE)).length+s.dD.length<=1000000:=by
  unfold amP at hn;rw[al,Lm] at hn;omega
 unfold amP;refine cT Tryz.func53 rfl (by kernel_rfl) rfl fun w0 O _=>aEk [] ?_;refine aEm (fun k:Nat=>⟨[(0,.c (.t (.sl 17 (aE.map bd.enc)))),(3,.ptr 0 0),(5,.c (.row 9000 0)),(6,aEn k)],[(0,s.enc.map .t)],[(9000,⟨143,23,0,((s.aa.take k).flatMap (l0 aE)).map bV.enc,none⟩)],10000⟩) (fun k=>k<=s.aa.length) (fun k=>s.aa.length - k) 0 ?_ (aA _) ?_
 ·refine ba [(9000,256)] rfl rfl ?_ ⟨aC _ rfl,ea⟩ ?_
  repeat' constructor
 rintro k hk;refine aEk [7,14,4] (cS (fun h=>?_) fun h=>?_)
 ·have aU:k < s.aa.length:=cJ h
  have fu:(s.aa.take (k+1)).flatMap (l0 aE)=(s.aa.take k).flatMap (l0 aE)++l0 aE s.aa[k]:=by
   rw[aS aU,List.flatMap_append,List.flatMap_singleton]
  have XB:=abX aE s.aa (k+1);rw[fu,al] at XB;refine Ei k (Ei (s.aa[k].enc) (Ai rfl (Ai (aK _ _ k aU) ?_)));refine cS (fun hz=>?_) fun hz=>?_
  ·have hz:(s.aa[k].cn==0)=false:=by simpa using hz
   have hfo:l0 aE s.aa[k]=[]:=by unfold l0;rw[if_neg (by rw[hz];decide)]
   rw[hfo,aW] at fu;refine aEk [] (Ei (k+1) (Ai (show k+1<=_ by omega) (Ai (show s.aa.length - (k+1) < s.aa.length - k by omega) ?_)));refine ba [(9000,9000)] rfl rfl ?_ ⟨aC _ rfl,ea⟩ ?_
   repeat' constructor
   exact cZ k aU 128 (by decide) h8;exact congrArg (List.map bV.enc) fu.symm
  ·have hz:(s.aa[k].cn==0)=true:=by simpa using hz
   have hab:=ha _ (aH aU);have hfo:l0 aE s.aa[k]=amQ s.aa[k] 0 (ofM aE s.aa[k]).aI:=by unfold l0;rw[if_pos hz]
   rw[hfo] at fu XB;refine aEk [] (cR (Xf aE s.aa[k] hc mc) ⟨rfl,fL s.aa[k].enc,ea⟩ ?_);generalize ofM aE s.aa[k]=t at *;generalize (s.aa.take k).flatMap (l0 aE)=X at *;refine aEm (fun j:Nat=>⟨[(0,.c (.t (.sl 17 (aE.map bd.enc)))),(3,.ptr 0 0),(5,.c (.row 9000 0)),(6,aEn k),(7,.ptr 11280 0),(8,.ptr 12304 0),(9,aEn j)],[(0,s.enc.map .t),(11280,s.aa[k].enc.map .t),(12304,t.enc.map .t)],[(9000,⟨143,23,0,(X++amQ s.aa[k] 0 (t.aI.take j)).map bV.enc,none⟩)],20000⟩) (fun j=>j<=t.aI.length) (fun j=>t.aI.length - j) 0 ?_ (aA _) ?_
   ·refine ba [(9000,9000)] rfl rfl ?_ ⟨aC _ rfl,aC _ rfl,aC _ rfl,ea⟩ ?_
    repeat' constructor
    exact congrArg (List.map bV.enc) (aW X).symm
   rintro j hj;refine aEk [10] (cS (fun h=>?_) fun h=>?_)
   ·have y6:j < t.aI.length:=cJ h;have hsa:=M5 s.aa[k] t.aI j y6;have hpa:=Rt s.aa[k] t.aI j
    have gP:(((X++amQ s.aa[k] 0 (t.aI.take j)).map bV.enc).length+1)*224<=140737488355328/\((X++amQ s.aa[k] 0 (t.aI.take j)).map bV.enc).length+1 < 140737488355328:=by
     rw[Lm,al];omega
    refine Ei j (Ei (t.aI[j].enc) (Ai rfl (Ai (aK _ _ j y6) ?_)));refine cS (fun h1=>?_) fun h1=>?_
    ·rw[if_pos (show(t.aI[j].kind==1)=true from h1)] at hsa;have hfa:X++amQ s.aa[k] 0 (t.aI.take j)++[(⟨s.aa[k].id,j,s.aa[k].dB,s.aa[k].dG,false,[],t.aI[j].filter,t.aI[j].cH⟩:bV)]=X++amQ s.aa[k] 0 (t.aI.take (j+1)):=by rw[hsa,b9]
     (try refine aEk [] ?_)
     refine Ai (.inl rfl) (Ai gP.1 (Ai gP.2 ?_));refine Tp.Zj 9000 ((X++amQ s.aa[k] 0 (t.aI.take (j+1))).map bV.enc) rfl rfl ?_ (aEk [] ?_)
     ·rw[<- hfa,aQ (l₁:=X++amQ s.aa[k] 0 (t.aI.take j))];refine P7 _ ?_
      repeat' (first|exact A2.nil|refine A2.cons (.inl rfl) ?_|refine A2.cons (.inr ⟨_,_,rfl,rfl⟩) ?_)
     refine Ei (j+1) (Ai (show j+1<=_ by omega) (Ai (show t.aI.length - (j+1) < t.aI.length - j by omega) ?_));refine ba [(9000,9000)] rfl rfl ?_ ⟨aC _ rfl,aC _ rfl,aC _ rfl,ea⟩ ?_
     repeat' constructor
     exact cZ j y6 640 (by decide) hab
    ·rw[if_neg (by rw[show(t.aI[j].kind==1)=false from h1];decide),aW] at hsa;refine aEk [] (Ei (j+1) (Ai (show j+1<=_ by omega) (Ai (show t.aI.length - (j+1) < t.aI.length - j by omega) ?_)));refine ba [(9000,9000)] rfl rfl ?_ ⟨aC _ rfl,aC _ rfl,aC _ rfl,ea⟩ ?_
     repeat' first|refine Ai ?_ ?_|exact rfl|exact⟨⟩|exact Ei _ rfl|refine cL ?_|refine bS ?_
     exact cZ j y6 640 (by decide) hab;rw[hsa]
   ·have Q9:=dM h hj;subst Q9;rw[show t.aI.take t.aI.length=t.aI from bj]
    (try refine aEk [] ?_)
    refine Ei (k+1) (Ai (show k+1<=_ by omega) (Ai (show s.aa.length - (k+1) < s.aa.length - k by omega) ?_));refine ba [(9000,9000)] rfl rfl ?_ ⟨aC _ rfl,ea⟩ ?_
    repeat' constructor
    exact cZ k aU 128 (by decide) h8;exact congrArg (List.map bV.enc) fu.symm
 ·have fp:=dM h hk;subst fp;rw[show s.aa.take s.aa.length=s.aa from bj];generalize s.aa.flatMap (l0 aE)=X at *;refine aEk [] (aEm (fun k:Nat=>⟨[(3,.ptr 0 0),(5,.c (.row 9000 0)),(11,aEn k)],[(0,s.enc.map .t)],[(9000,⟨143,23,0,(X++(s.dD.take k).map CD).map bV.enc,none⟩)],20000⟩) (fun k=>k<=s.dD.length) (fun k=>s.dD.length - k) 0 ?_ (aA _) ?_)
  ·refine ba [(9000,9000)] rfl rfl ?_ ⟨aC _ rfl,ea⟩ ?_
   repeat' constructor
   exact congrArg (List.map bV.enc) (aW X).symm
  rintro k hk;refine aEk [] (cS (fun h=>?_) fun h=>?_)
  ·have aU:k < s.dD.length:=cJ h
   have gP:(((X++(s.dD.take k).map CD).map bV.enc).length+1)*224<=140737488355328/\((X++(s.dD.take k).map CD).map bV.enc).length+1 < 140737488355328:=by
    rw[Lm,al,Lm,au];omega
   refine Ei k (Ei (s.dD[k].enc) (Ai rfl (Ai (aK _ _ k aU) ?_)))
   have hfa:X++(s.dD.take k).map CD++[CD s.dD[k]]=X++(s.dD.take (k+1)).map CD:=by
    rw[aS aU,aQ,b9];rfl
   refine Ai (.inl rfl) (Ai gP.1 (Ai gP.2 ?_));refine Ei (k+1) (Ai (show k+1<=_ by omega) (Ai (show s.dD.length - (k+1) < s.dD.length - k by omega) ?_));refine ba [(9000,9000)] rfl rfl ?_ ⟨aC _ rfl,ea⟩ ?_
   repeat' constructor
   exact cZ k aU 80 (by decide) hco;exact(apF (X:=X++(s.dD.take k).map CD) (y:=CD s.dD[k])).trans (congrArg (List.map bV.enc) hfa)
  ·have fp:=dM h hk;subst fp;refine Ei [] ?_
   repeat' constructor
   rw[bj];exact rfl
noncomputable def M8 (aE:List bd)(s:aq):Wd:=⟨s.aa.map (ofM aE),List.replicate (amP aE s).length false,List.replicate (amP aE s).length [],List.replicate s.aa.length false⟩
theorem Hz {aE:List bd}(mc:∀ y∈aE,bd.ok y)(o:az):(ofM aE o).ok:=by
 have key:∀ (t:aD) (n:Int),t.ok->({ t with dB:=n }:aD).ok:=fun t n h=>h;unfold ofM;refine key _ _ ?_;generalize (if o.copy < 0 then o.ee else o.copy)=i;split
 ·rename_i c hc;split at hc
  ·cases hc
  ·exact YX (mc c (bc hc))
 ·exact zj
theorem forM_ok {aE:List bd}{s:aq}(mc:∀ y∈aE,bd.ok y)(hs:s.ok):∀ f∈amP aE s,bV.ok f:=fun f hf=>by
 have hA:∀ (o:az) (l:List bJ) (k:Nat),(∀ a∈l,bJ.ok a)->∀ f∈amQ o k l,bV.ok f:=by
  intro o l
  induction l with
  | nil=>intro k _ f hf;cases hf
  | cons a r ih=>
   intro k hl f hf;rcases bh.1 hf with hf|hf
   ·split at hf
    ·rw[aJ.1 hf];obtain⟨h1,h2,h3,_⟩:=hl a aB;exact⟨aA _,h1,h2,h3⟩
    ·cases hf
   ·exact ih (k+1) (fun a ha=>hl a (aM _ ha)) f hf
 rcases bh.1 hf with hf|hf
 ·obtain⟨o,_,hf⟩:=List.mem_flatMap.1 hf;unfold l0 at hf;split at hf
  ·exact hA o _ 0 (Hz mc o).2.2.2 f hf
  ·cases hf
 ·obtain⟨c,hc,rfl⟩:=bL.1 hf;obtain⟨h1,h2,h3⟩:=aq.Ml hs c hc;exact⟨h1,by show ck.ok GB;simp[ck.ok,dS.ok],h2,h3⟩
theorem KU {aE:List bd}{s:aq}(mc:∀ y∈aE,bd.ok y)(hs:s.ok)(ho:s.aa.length<=4000)(hn:(amP aE s).length<=1000000):qJ s (amP aE s) (M8 aE s):=
 ⟨ho,hn,forM_ok mc hs,Lm ..,cz,cz,cz,fun y hy=>by
  obtain⟨o,_,rfl⟩:=bL.1 hy;exact Hz mc o,fun z hz=>by
  rw[List.eq_of_mem_replicate hz];exact aA _⟩
theorem Jm {s:aq}{L:List bV}{aR:Int}:∀ (f:Nat) (w:Wd) (m o:List Int),qJ s L w->qJ s L (yR s L aR f w m o).1
 | 0,_,_,_,h=>h
 | f+1,w,m,o,h=>by
  unfold yR;exact Jm f _ _ _ (C6 h _ _ _)
theorem Jl {s:aq}{L:List bV}{w:Wd}(H:qJ s L w)(aR:Int):qJ s L (Bw s L w aR).1:=by
 unfold Bw;refine Jm _ _ _ _ ?_;split
 ·exact K5 H
 ·exact H
theorem atD {X:List aD}{y:aD}:X.map aD.enc++[y.enc]=(X++[y]).map aD.enc:=by rw[aQ];rfl
theorem Wf (aE:List bd)(s:aq)(hc:aE.length*176<=aV)(mc:∀ y∈aE,bd.ok y)(hs:s.ok)(ho:s.aa.length<=4000)(hn:(amP aE s).length<=1000000):Ct ae 22 [.c (.t (.sl 17 (aE.map bd.enc))),.agg (s.enc.map .t)] (.agg ((wE s (amP aE s) (M8 aE s)).map .t)) [] false:=by
 have h8:s.aa.length*128<=aV:=aq.ff hs;have hfo:=Rq aE s hc mc hs hn fun o _=>(Hz mc o).2.2.1;have hW:M8 aE s=⟨s.aa.map (ofM aE),List.replicate (amP aE s).length false,List.replicate (amP aE s).length [],List.replicate s.aa.length false⟩:=rfl;generalize M8 aE s=W at *;generalize amP aE s=L at *;refine cT Tryz.func22 rfl (by kernel_rfl) rfl fun w0 O _=>aEk [] ?_;refine cR hfo ⟨rfl,fL s.enc,ea⟩ ?_;refine aEm (fun k:Nat=>⟨[(0,.c (.t (.sl 17 (aE.map bd.enc)))),(3,.ptr 0 0),(4,.ptr 128 0),(5,.ptr 896 0),(6,aEn k)],[(0,s.enc.map .t),(128,List.replicate 24 .bot),(896,s.enc.map .t++[.row 9000 0,.t (.sl 23 (L.map bV.enc)),.nil,.nil,.nil])],[(9000,⟨138,17,0,((s.aa.take k).map (ofM aE)).map aD.enc,none⟩)],10000⟩) (fun k=>k<=s.aa.length) (fun k=>s.aa.length - k) 0 ?_ (aA _) ?_
 ·refine ba [] rfl rfl ?_ ?_ ?_
  ·repeat' constructor
  ·refine⟨aC _ rfl,?_,?_,ea⟩
   repeat' constructor
  ·repeat' constructor
 rintro k hk;refine aEk [6,7,8,9] (cS (fun h=>?_) fun h=>?_)
 ·have aU:k < s.aa.length:=cJ h
  have gP:((((s.aa.take k).map (ofM aE)).map aD.enc).length+1)*176<=140737488355328/\(((s.aa.take k).map (ofM aE)).map aD.enc).length+1 < 140737488355328:=by
   rw[Lm,Lm,au];omega
  have fu:(s.aa.take k).map (ofM aE)++[ofM aE s.aa[k]]=(s.aa.take (k+1)).map (ofM aE):=by
   rw[aS aU,aQ];rfl
  refine Ei k (Ei (s.aa[k].enc) (Ai rfl (Ai (aK _ _ k aU) ?_)));refine cR (Xf aE s.aa[k] hc mc) ⟨rfl,fL s.aa[k].enc,ea⟩ ?_;refine Ai (.inl rfl) (Ai gP.1 (Ai gP.2 ?_));refine Ei (k+1) (Ai (show k+1<=_ by omega) (Ai (show s.aa.length - (k+1) < s.aa.length - k by omega) ?_));refine ba [(9000,9000)] rfl rfl ?_ ?_ ?_
  ·repeat' constructor
   exact cZ k aU 128 (by decide) h8
  ·refine⟨aC _ rfl,?_,?_,ea⟩
   repeat' constructor
  ·repeat' constructor
   exact atD.trans (congrArg (List.map aD.enc) fu)
 ·have fp:k=s.aa.length:=dM h hk;subst fp;rw[bj]
  (try refine aEk [] ?_)
  refine Ei L.length (Ei [bv false] (Ai (Ai (congrArg (fun n:Nat=>(n:Int)) (Lm ..)) (congrArg (fun n:Nat=>(n:Int)) (Lm ..))) (Ai ?_ (Ai (Ai (show L.length*1<=140737488355328 by omega) (show L.length < 140737488355328 by omega)) ?_))))
  ·repeat' constructor
  (try refine aEk [] ?_)
  refine Ei L.length (Ei [.sl 1 []] (Ai (Ai (congrArg (fun n:Nat=>(n:Int)) (Lm ..)) (congrArg (fun n:Nat=>(n:Int)) (Lm ..))) (Ai ?_ (Ai (Ai (show L.length*24<=140737488355328 by omega) (show L.length < 140737488355328 by omega)) ?_))))
  ·repeat' constructor
  (try refine aEk [] ?_)
  refine Ei s.aa.length (Ei [bv false] (Ai (Ai (congrArg (fun n:Nat=>(n:Int)) (Lm ..)) (congrArg (fun n:Nat=>(n:Int)) (Lm ..))) (Ai ?_ (Ai (Ai (show s.aa.length*1<=140737488355328 by omega) (show s.aa.length < 140737488355328 by omega)) ?_))))
  ·repeat' constructor
  (try refine aEk [] ?_)
  have e1:∀ n:Nat,(List.replicate n false).map tB=List.replicate n [bv false]:=fun n=>by rw[List.map_replicate];rfl
  have e2:∀ n:Nat,(List.replicate n ([]:List Int)).map tZ=List.replicate n [Tr.sl 1 []]:=fun n=>by rw[List.map_replicate];rfl
  have hE:wE s L W=s.enc++[.sl 17 ((s.aa.map (ofM aE)).map aD.enc),.sl 23 (L.map bV.enc),.sl 1 (List.replicate L.length [bv false]),.sl 1 (List.replicate L.length [Tr.sl 1 []]),.sl 1 (List.replicate s.aa.length [bv false])]:=by
   rw[hW];unfold wE;rw[e1,e2,e1]
  rw[hE];refine Ei [] ?_
  repeat' constructor
noncomputable def C9 (s:aq)(L:List bV):Nat->Nat->Wd->Wd
 | 0,_,w=>w
 | f+1,k,w=>C9 s L f (k+1) (Bw s L w (k:Int)).1
noncomputable def alY (aE:List bd)(s:aq):List aD:=(C9 s (amP aE s) 8 1 (M8 aE s)).all
theorem alJ (aE:List bd)(s:aq)(hc:aE.length*176<=aV)(mc:∀ y∈aE,bd.ok y)(hs:s.ok)(ho:s.aa.length<=4000)(hn:(amP aE s).length<=1000000):Ct ae 11 [.c (.t (.sl 17 (aE.map bd.enc))),.agg (s.enc.map .t)] (.c (.t (.sl 17 ((alY aE s).map aD.enc)))) [] false:=by
 have hfi:=Wf aE s hc mc hs ho hn;have H0:=KU mc hs ho hn;generalize hM:alY aE s=M;unfold alY at hM;generalize M8 aE s=W at *;generalize amP aE s=L at *;refine cT Tryz.func11 rfl (by kernel_rfl) rfl fun w0 O _=>aEk [] ?_;refine cR hfi ⟨rfl,fL s.enc,ea⟩ ?_;refine aEm (α:=Nat × Wd) (fun x=>⟨[(5,.ptr 640 0),(6,aEn x.1)],[(640,(wE s L x.2).map .t)],[],10000⟩) (fun x=>(1<=x.1/\x.1<=9)/\qJ s L x.2/\(C9 s L (9 - x.1) x.1 x.2).all=M) (fun x=>9 - x.1) (1,W) ?_ ⟨⟨ak _,by show(1:Nat)<=9;decide⟩,H0,hM⟩ ?_
 ·refine ba [] rfl rfl ?_ ?_ ?_
  ·repeat' constructor
  ·refine⟨?_,ea⟩
   repeat' constructor
  ·repeat' constructor
 rintro⟨k,w⟩ ⟨⟨hk1,hk9⟩,Hw,he⟩;have hk1:1<=k:=hk1;have hk9:k<=9:=hk9;have Hw:qJ s L w:=Hw;have he:(C9 s L (9 - k) k w).all=M:=he;refine aEk [] (cS (fun h=>?_) fun h=>?_)
 ·have hk:k<=8:=by
   have:(k:Int)<=8:=of_decide_eq_true h;omega
  rw[show 9 - k=(9 - (k+1))+1 by omega,C9] at he;refine cR (OC s L w Hw (k:Int)) ⟨fL (wE s L w),rfl,ea⟩ ?_;refine Ei (k+1,(Bw s L w (k:Int)).1) (Ai ⟨⟨show 1<=k+1 by omega,show k+1<=9 by omega⟩,Jl Hw _,he⟩ (Ai (show 9 - (k+1) < 9 - k by omega) ?_));refine ba [] rfl rfl ?_ ?_ ?_
  ·repeat' constructor
   exact wa k (by omega)
  ·refine⟨?_,ea⟩
   repeat' constructor
  ·repeat' constructor
 ·have hk:k=9:=by
   have:¬ (k:Int)<=8:=of_decide_eq_false h;omega
  subst hk;have he:w.all=M:=he;subst he
  (try refine aEk [] ?_)
  refine Ei [] ?_
  repeat' constructor
instance:Inhabited aG:=⟨⟨0,0,0,te,false⟩⟩
theorem Ls {a b n:Nat}(h:a+b<=n)(hn:n*672<=aV):IntKind.i64.wrap ((a:Int)+(b:Int))=((a+b:Nat):Int):=by
 unfold aV at hn;rw[bp];omega
theorem tg {a b n:Nat}(h:b<=a)(h2:a<=n)(hn:n*672<=aV):IntKind.i64.wrap ((a:Int) - (b:Int))=((a - b:Nat):Int):=by
 unfold aV at hn;rw[bp];omega
theorem qR {a n:Nat}(h:1<=a)(h2:a<=n)(hn:n*672<=aV):IntKind.i64.wrap ((a:Int) - 1)=((a - 1:Nat):Int):=by
 unfold aV at hn;rw[bp];omega
theorem vV {a n:Nat}(h:a<=n)(hn:n*672<=aV):IntKind.i64.wrap ((a:Int)+1)=((a+1:Nat):Int):=by
 unfold aV at hn;rw[bp];omega
theorem lmap {k:Nat}{X:List aG}(h:k < X.length):k < (X.map aG.enc).length:=by rw[Lm];exact h
theorem Kj {k j:Nat}{X:List aG}{y:List Tr}(h:k < X.length):k < ((X.map aG.enc).set j y).length:=by rw[bQ,Lm];exact h
theorem mA {k:Nat}{X:List aG}(h:k < X.length):(X.map aG.enc)[k]? = some (aG.enc X[k]!):=by
 rw[bI,ag h,getElem!_pos X k h];rfl
theorem Kc {k j:Nat}{X:List aG}{y:aG}(h:k < X.length):∃ z,((X.map aG.enc).set j y.enc)[k]? = some (aG.enc z):=by
 rw[<- List.map_set,mA (by rw[bQ];exact h)];exact⟨_,rfl⟩
theorem Ji (X:List aG)(a b:Nat):((X.map aG.enc).set a (aG.enc X[b]!)).set b (aG.enc X[a]!)=(zu X a b).map aG.enc:=by
 rw[<- List.map_set,<- List.map_set];rfl
theorem tw (g:Nat)(l:List aG)(a b n:Nat)(h1:a+n<=l.length)(h2:b+n<=l.length)(hl:l.length*672<=aV):Ja ae 225 [.c (.row 0 0),.c (.t (iv (a:Int))),.c (.t (iv (b:Int))),.c (.t (iv (n:Int))),.fn g []] [] [⟨100,76,0,l.map aG.enc,none⟩] (.gi []) [] [⟨100,76,0,(Bs n a b l).map aG.enc,none⟩] []:=by
 refine kz 1 Tryz.func225 rfl (enters_of Tryz.func225 (by kernel_rfl) rfl) tabOk (by kernel_rfl) rfl rfl rfl rfl rfl fun w0 O _=>aEk [] ?_;refine Tp.mT (fun x:Nat × List aG=>⟨[(0,.c (.row 0 0)),(1,.c (.t (iv (a:Int)))),(2,.c (.t (iv (b:Int)))),(3,.c (.t (iv (n:Int)))),(4,.fn g []),(10,aEn x.1)],[],[(0,⟨100,76,0,x.2.map aG.enc,none⟩)],10000⟩) (fun x=>x.1<=n/\x.2.length=l.length/\Bs (n - x.1) (a+x.1) (b+x.1) x.2=Bs n a b l) (fun x=>n - x.1) (0,l) ?_ ⟨aA _,rfl,rfl⟩ ?_
 ·refine dN (n1:=1) rfl rfl ?_ ?_ ?_
  repeat' constructor
 rintro⟨i,X⟩ ⟨hi,hX,he⟩;simp only at hi hX he;refine aEk [3,2] (cS (fun hc=>?_) fun hc=>?_)
 ·have aU:i < n:=by simpa using hc
  refine aEk [] ?_;have ha:a+i < X.length:=by omega
  have hb:b+i < X.length:=by omega
  refine Ei (b+i) (Ai (Ls (by omega) hl) (Ai (lmap hb) ?_));refine Ei (aG.enc X[b+i]!) (Ei _ (Ai (mA hb) (Ai rfl ?_)));refine Ei (a+i) (Ai (Ls (by omega) hl) (Ai (lmap ha) ?_));refine Ei (aG.enc X[a+i]!) (Ei _ (Ai (mA ha) (Ai rfl ?_)));refine Ei (a+i) (Ai (Ls (by omega) hl) (Ai (lmap ha) ?_));refine Ei (aG.enc X[a+i]!) (Ai (mA ha) (Ai (Nb rfl) ?_));refine Ei (b+i) (Ai (Ls (by omega) hl) (Ai (Kj hb) ?_));obtain⟨z,hz⟩:=Kc (k:=b+i) (j:=a+i) (X:=X) (y:=X[b+i]!) hb;refine Ei (aG.enc z) (Ai hz (Ai (Nb rfl) ?_));refine aEk [] ?_;have hs:n - i=(n - (i+1))+1:=by omega
  rw[hs,Bs] at he;refine Ei (i+1,zu X (a+i) (b+i)) (Ai ⟨by simp only;omega,by simp only;rw[l9];exact hX,he⟩ (Ai (show n - (i+1) < n - i by omega) ?_));refine dN (n1:=1) rfl rfl ?_ ?_ ?_
  ·repeat' constructor
   all_goals exact congrArg (fun n=>aEn n) (Ls (a:=i) (b:=1) (n:=l.length) (by omega) hl)
  ·repeat' constructor
  ·repeat' constructor
   all_goals exact congrArg (fun z=>some (Row.mk 100 76 0 z none)) (Ji X (a+i) (b+i))
 ·have ui:i=n:=by
   have:¬ i < n:=by simpa using hc
   omega
  subst ui;rw[Nat.sub_self,Bs] at he;refine Ei [(0,0)] (Ai (Ai rfl (Ai ?_ (Ai ?_ ?_))) ?_)
  ·repeat' constructor
   all_goals exact congrArg (List.map aG.enc) he
  repeat' constructor
theorem TK (g:Nat)(l:List aG)(a m b f:Nat)(h1:a < m)(h2:m < b)(h3:b<=l.length)(hf:b - a<=f)(hl:l.length*672<=aV):Ja ae 179 [.c (.row 0 0),.c (.t (iv (a:Int))),.c (.t (iv (m:Int))),.c (.t (iv (b:Int))),.fn g []] [] [⟨100,76,0,l.map aG.enc,none⟩] (.gi []) [] [⟨100,76,0,(yh m f (m - a) (b - m) l).map aG.enc,none⟩] []:=by
 refine kz 1 Tryz.func179 rfl (enters_of Tryz.func179 (by kernel_rfl) rfl) tabOk (by kernel_rfl) rfl rfl rfl rfl rfl fun w0 O _=>aEk [8] ?_;refine Tp.mT (fun x:Nat × Nat × Nat × List aG=>⟨[(0,.c (.row 0 0)),(1,.c (.t (iv (a:Int)))),(2,.c (.t (iv (m:Int)))),(3,.c (.t (iv (b:Int)))),(4,.fn g []),(10,aEn x.2.1),(11,aEn x.2.2.1)],[],[(0,⟨100,76,0,x.2.2.2.map aG.enc,none⟩)],10000⟩) (fun x=>0 < x.2.1/\0 < x.2.2.1/\x.2.1+x.2.2.1<=x.1/\x.2.1<=m/\m+x.2.2.1<=l.length/\x.2.2.2.length=l.length/\yh m x.1 x.2.1 x.2.2.1 x.2.2.2=yh m f (m - a) (b - m) l) (fun x=>x.2.1+x.2.2.1) (f,m - a,b - m,l) ?_ ⟨by simp only;omega,by simp only;omega,by simp only;omega,by simp only;omega,by simp only;omega,rfl,rfl⟩ ?_
 ·refine dN (n1:=1) rfl rfl ?_ ?_ ?_
  ·repeat' constructor
   ·exact congrArg (fun n=>aEn n) (tg (a:=m) (b:=a) (n:=l.length) (by omega) (by omega) hl)
   ·exact congrArg (fun n=>aEn n) (tg (a:=b) (b:=m) (n:=l.length) (by omega) (by omega) hl)
  repeat' constructor
 rintro⟨q,i,j,X⟩ ⟨hi,hj,hq,him,XF,hX,he⟩;simp only at hi hj hq him XF hX he;obtain⟨q,rfl⟩:∃ p,q=p+1:=⟨q - 1,by omega⟩
 refine aEk [3,4,6] (cS (fun hc=>?_) fun hc=>?_)
 ·have iR:¬ i=j:=fun e=>by subst e;simp at hc
  rw[yh,if_neg iR] at he;refine aEk [4,6] (cS (fun hc=>?_) fun hc=>?_)
  ·have aU:j < i:=by simpa using hc
   rw[if_pos aU] at he;refine aEk [] (cM [] [(0,0)] (tw g X (m - i) m j (by omega) (by omega) (by rw[hX];exact hl)) ?_ ?_ ?_)
   ·repeat' constructor
    exact congrArg (fun n=>iv n) (tg (a:=m) (b:=i) (n:=l.length) (by omega) (by omega) hl)
   ·exact rfl
   refine Ei (q,i - j,j,Bs j (m - i) m X) (Ai ⟨by simp only;omega,hj,by simp only;omega,by simp only;omega,XF,by simp only;rw[nC];exact hX,he⟩ (Ai (show i - j+j < i+j by omega) ?_));refine dN (n1:=1) rfl rfl ?_ ?_ ?_
   ·repeat' constructor
    exact congrArg (fun n=>aEn n) (tg (a:=i) (b:=j) (n:=l.length) (by omega) (by omega) hl)
   repeat' constructor
  ·have aU:¬ j < i:=by simpa using hc
   rw[if_neg aU] at he;refine aEk [] (cM [] [(0,0)] (tw g X (m - i) (m+j - i) i (by omega) (by omega) (by rw[hX];exact hl)) ?_ ?_ ?_)
   ·repeat' constructor
    ·exact congrArg (fun n=>iv n) (tg (a:=m) (b:=i) (n:=l.length) (by omega) (by omega) hl)
    ·refine congrArg (fun n=>iv n) ?_;show IntKind.i64.wrap (IntKind.i64.wrap ((m:Int)+(j:Int)) - (i:Int))=_;rw[Ls (n:=l.length) (by omega) hl,tg (n:=l.length) (by omega) (by omega) hl]
   ·exact rfl
   refine Ei (q,i,j - i,Bs i (m - i) (m+j - i) X) (Ai ⟨hi,by simp only;omega,by simp only;omega,him,by simp only;omega,by simp only;rw[nC];exact hX,he⟩ (Ai (show i+(j - i) < i+j by omega) ?_));refine dN (n1:=1) rfl rfl ?_ ?_ ?_
   ·repeat' constructor
    exact congrArg (fun n=>aEn n) (tg (a:=j) (b:=i) (n:=l.length) (by omega) (by omega) hl)
   repeat' constructor
 ·have nt:i=j:=by
   have:((i:Int) != (j:Int))=false:=hc;have:(i:Int)=(j:Int):=by simpa using this
   omega
  subst nt;rw[yh,if_pos rfl] at he;refine aEk [] (cM [] [(0,0)] (tw g X (m - i) m i (by omega) (by omega) (by rw[hX];exact hl)) ?_ ?_ ?_)
  ·repeat' constructor
   exact congrArg (fun n=>iv n) (tg (a:=m) (b:=i) (n:=l.length) (by omega) (by omega) hl)
  ·exact rfl
  refine Ei [(0,0)] (Ai (Ai rfl (Ai ?_ (Ai ?_ ?_))) ?_)
  ·repeat' constructor
   all_goals exact congrArg (List.map aG.enc) he
  repeat' constructor
def iq (cf:aG->aG->Int)(x y:aG):Bool:=decide (cf x y < 0)
abbrev SN (g:Nat)(cf:aG->aG->Int):Prop:=∀ x y:aG,Ct ae g [.agg (x.enc.map .t),.agg (y.enc.map .t)] (aEn (cf x y)) [] true
theorem EW (g:Nat)(cf:aG->aG->Int)(hg:SN g cf)(l:List aG)(a b:Nat)(h1:a<=b)(h2:b<=l.length)(hl:l.length*672<=aV):Ja ae 123 [.c (.row 0 0),.c (.t (iv (a:Int))),.c (.t (iv (b:Int))),.fn g []] [] [⟨100,76,0,l.map aG.enc,none⟩] (.gi []) [] [⟨100,76,0,(nT (iq cf) a (b - (a+1)) (a+1) l).map aG.enc,none⟩] []:=by
 refine kz 1 Tryz.func123 rfl (enters_of Tryz.func123 (by kernel_rfl) rfl) tabOk (by kernel_rfl) rfl rfl rfl rfl rfl fun w0 O _=>aEk [] ?_;refine Tp.mT (fun x:Nat × List aG=>⟨[(0,.c (.row 0 0)),(1,.c (.t (iv (a:Int)))),(2,.c (.t (iv (b:Int)))),(3,.fn g []),(8,aEn x.1)],[],[(0,⟨100,76,0,x.2.map aG.enc,none⟩)],10000⟩) (fun x=>a+1<=x.1/\x.1<=b+1/\x.2.length=l.length/\nT (iq cf) a (b - x.1) x.1 x.2=nT (iq cf) a (b - (a+1)) (a+1) l) (fun x=>b+1 - x.1) (a+1,l) ?_ ⟨ak _,Nat.succ_le_succ h1,rfl,rfl⟩ ?_
 ·refine dN (n1:=1) rfl rfl ?_ ?_ ?_
  ·repeat' constructor
   exact congrArg (fun n=>aEn n) (vV (n:=l.length) (by omega) hl)
  repeat' constructor
 rintro⟨i,X⟩ ⟨hai,hib,hX,he⟩;simp only at hai hib hX he;refine aEk [3,2] (cS (fun hc=>?_) fun hc=>?_)
 ·have aU:i < b:=by simpa using hc
  have hs:b - i=(b - (i+1))+1:=by omega
  rw[hs,nT] at he;refine aEk [2] (Tp.mT (fun x:Nat × List aG=>⟨[(0,.c (.row 0 0)),(1,.c (.t (iv (a:Int)))),(2,.c (.t (iv (b:Int)))),(3,.fn g []),(8,aEn i),(9,aEn x.1)],[],[(0,⟨100,76,0,x.2.map aG.enc,none⟩)],20000⟩) (fun x=>x.1<=i/\x.2.length=l.length/\sf (iq cf) a x.1 x.2=sf (iq cf) a i X) (fun x=>x.1) (i,X) ?_ ⟨ak _,hX,rfl⟩ ?_)
  ·refine dN (n1:=1) rfl rfl ?_ ?_ ?_
   repeat' constructor
  rintro⟨j,Y⟩ ⟨hj,hY,hd⟩;simp only at hj hY hd;refine aEk [6,5] (cS (fun nv=>?_) fun nv=>?_)
  ·have hja:a < j:=by simpa using nv
   obtain⟨j,rfl⟩:∃ p,j=p+1:=⟨j - 1,by omega⟩
   have k1:j+1 < Y.length:=by omega
   have k0:j < Y.length:=by omega
   rw[sf,if_pos hja] at hd;refine Ei (j+1) (Ai rfl (Ai (lmap k1) ?_));refine Ei (aG.enc Y[j+1]!) (Ei _ (Ai (mA k1) (Ai rfl ?_)));refine Ei j (Ai (qR (a:=j+1) (n:=l.length) (by omega) (by omega) hl) (Ai (lmap k0) ?_));refine Ei (aG.enc Y[j]!) (Ei _ (Ai (mA k0) (Ai rfl ?_)));refine cF (hg Y[j+1]! Y[j]!) ⟨fL (aG.enc _),fL (aG.enc _),ea⟩ ?_;refine cS (fun VV=>?_) fun VV=>?_
   ·have hq:iq cf Y[j+1]! Y[j]! = true:=VV;rw[if_pos hq] at hd;refine aEk [] (Ei j (Ai (qR (a:=j+1) (n:=l.length) (by omega) (by omega) hl) (Ai (lmap k0) ?_)));refine Ei (aG.enc Y[j]!) (Ei _ (Ai (mA k0) (Ai rfl ?_)));refine Ei (j+1) (Ai rfl (Ai (lmap k1) ?_));refine Ei (aG.enc Y[j+1]!) (Ei _ (Ai (mA k1) (Ai rfl ?_)));refine Ei (j+1) (Ai rfl (Ai (lmap k1) ?_));refine Ei (aG.enc Y[j+1]!) (Ai (mA k1) (Ai (Nb rfl) ?_));refine Ei j (Ai (qR (a:=j+1) (n:=l.length) (by omega) (by omega) hl) (Ai (Kj k0) ?_));obtain⟨z,hz⟩:=Kc (k:=j) (j:=j+1) (X:=Y) (y:=Y[j]!) k0;refine Ei (aG.enc z) (Ai hz (Ai (Nb rfl) ?_));refine aEk [] (Ei (j,zu Y (j+1) j) (Ai ⟨by simp only;omega,by simp only;rw[l9];exact hY,hd⟩ (Ai (show j < j+1 by omega) ?_)));refine dN (n1:=1) rfl rfl ?_ ?_ ?_
    repeat' constructor
    exact congrArg (fun n=>aEn n) (qR (a:=j+1) (n:=l.length) (by omega) (by omega) hl);exact congrArg (fun z=>some (Row.mk 100 76 0 z none)) (Ji Y (j+1) j)
   ·have hq:iq cf Y[j+1]! Y[j]! = false:=VV;rw[hq,if_neg (by decide)] at hd;refine aEk [] (Ei (i+1,Y) (Ai ⟨by simp only;omega,by simp only;omega,hY,by simp only;rw[<- hd] at he;exact he⟩ (Ai (show b+1 - (i+1) < b+1 - i by omega) ?_)));refine dN (n1:=1) rfl rfl ?_ ?_ ?_
    ·repeat' constructor
     exact congrArg (fun n=>aEn n) (vV (n:=l.length) (by omega) hl)
    repeat' constructor
  ·have hja:¬ a < j:=by simpa using nv
   have hd:Y=sf (iq cf) a i X:=by
    rw[<- hd]
    cases j with
    | zero=>rfl
    | succ j=>rw[sf,if_neg hja]
   refine aEk [] (Ei (i+1,Y) (Ai ⟨by simp only;omega,by simp only;omega,hY,by simp only;rw[<- hd] at he;exact he⟩ (Ai (show b+1 - (i+1) < b+1 - i by omega) ?_)));refine dN (n1:=1) rfl rfl ?_ ?_ ?_
   ·repeat' constructor
    exact congrArg (fun n=>aEn n) (vV (n:=l.length) (by omega) hl)
   repeat' constructor
 ·have ui:b - i=0:=by
   have:¬ i < b:=by simpa using hc
   omega
  rw[ui,nT] at he;refine Ei [(0,0)] (Ai (Ai rfl (Ai ?_ (Ai ?_ ?_))) ?_)
  ·repeat' constructor
   all_goals exact congrArg (List.map aG.enc) he
  repeat' constructor
end
end Go.Proofs.YtbmdcnkidjlbbaaGreat
