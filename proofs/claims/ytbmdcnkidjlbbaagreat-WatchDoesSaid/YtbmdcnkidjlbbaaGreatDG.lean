/- Parts of the proof, joined: . -/
import Derived.Test.YtbmdcnkidjlbbaaGreatDF
import Derived.Test.YtbmdcnkidjlbbaaGreatRows
import Derived.ProofKit
import Derived.OpenShut
import Derived.ChangeOld
import Derived.ShutString
import Derived.ChangeSlices
import Derived.SizedLaws
import Derived.HandedShaped
import Derived.Shelf.Vars
import Derived.JoinedOf
import Derived.KernelRfl
open True renaming intro->ea
open Go.Proofs.Tryz renaming prog->ae
open List renaming getElem?_eq_getElem->ag,length_append->al,length_cons->aZ,length_take->au,length_nil->bM,mem_cons_self->aB,getElem_mem->aH,mem_singleton->aJ,mem_cons_of_mem->aM,length_drop->aO,map_append->aQ,take_succ_eq_append_getElem->aS,append_nil->aW,mem_of_getElem?->bc,mem_append->bh,take_length->bj,mem_iff_getElem->bD,nil_append->bE,getElem?_map->bI,mem_map->bL,map_cons->bW,flatMap_cons->bZ,append_assoc->b9,drop_eq_getElem_cons->cd,length_replicate->cz,length_filter_le->cE
open Bool renaming and_eq_true->ah,false_and->cm,true_and->cq,not_eq_true'->cu
open Nat renaming le_refl->ak,zero_le->aA,le_trans->aX,zero_add->bw,mul_le_mul_right->cy,le_of_lt->db,add_zero->dm
open Go.IntKind renaming wrap_i64->bp,wrap_u64->cK
open Option.some renaming inj->aY
open Array renaming length_toList->bP,getElem?_toList->dF
open Cg.Tp renaming run->aEk,loop->aEm
open Cg.cc renaming bn->aEl,cut->aEr
open Cg.AV renaming i->aEn,b->aEo
open Cg.Ct renaming lit->aEs
set_option maxRecDepth 100000
set_option maxHeartbeats 4000000
namespace Go.Proofs.YtbmdcnkidjlbbaaGreat
section
open Go Cg Go.RowKit Go.Sort
theorem QJ {P:Program}{T:Nat->Option Ty}{N:Nat}{w0:World}{O:iy}{c:Code}{Q:Ex->St->Prop}{B:Prop}(st:St)(h:Tp P T N w0 O c st Q->B)(key:Tp P T N w0 O c st Q):B:=h key
theorem ne1 {n:Nat}(h:¬ n=1):((n:Int)==1)=false:=by
 have:¬ (n:Int)=1:=by omega
 simpa using this
abbrev uU (i j:Nat):Int:=IntKind.i64.wrap ((IntKind.u64.wrap (IntKind.i64.wrap ((i:Int)+(j:Int)))).fdiv (2 ^ min (Int.toNat 1) IntKind.u64.bits))
theorem oH {i j n:Nat}(h1:i<=n)(h2:j<=n)(hn:n*672<=aV):uU i j=(((i+j) / 2:Nat):Int):=by
 unfold aV at hn;unfold uU;have e1:IntKind.i64.wrap ((i:Int)+(j:Int))=((i+j:Nat):Int):=by rw[bp];omega
 have e2:IntKind.u64.wrap ((i+j:Nat):Int)=((i+j:Nat):Int):=by rw[cK];omega
 have e3:(2 ^ min (Int.toNat 1) IntKind.u64.bits:Int)=2:=rfl;rw[e1,e2,e3,Int.fdiv_eq_ediv_of_nonneg _ (by decide),bp];omega
theorem GD {i j n:Nat}(h1:i < n)(h2:j<=n)(hn:n*672<=aV):IntKind.i64.wrap (uU i j+1)=(((i+j) / 2+1:Nat):Int):=by
 rw[oH (db h1) h2 hn];exact vV (by omega) hn
theorem wpc {p i j n:Nat}(h0:p<=n+n)(h1:i<=n)(h2:j<=n)(h3:(i+j) / 2<=p)(hn:n*672<=aV):IntKind.i64.wrap ((p:Int) - uU i j)=((p - (i+j) / 2:Nat):Int):=by
 rw[oH h1 h2 hn,bp];unfold aV at hn;omega
theorem whm {m i j n:Nat}(h0:m<=n)(h1:i<=n)(h2:j<=n)(hn:n*672<=aV):IntKind.i64.wrap (uU i j+(m:Int))=(((i+j) / 2+m:Nat):Int):=by
 rw[oH h1 h2 hn,bp];unfold aV at hn;omega
theorem anX {m i j b n:Nat}(h0:m<=n)(h1:i<=n)(h2:j<=n)(h3:b<=(i+j) / 2+m)(hn:n*672<=aV):IntKind.i64.wrap (IntKind.i64.wrap (uU i j+(m:Int)) - (b:Int))=(((i+j) / 2+m - b:Nat):Int):=by
 rw[whm h0 h1 h2 hn,bp];unfold aV at hn;omega
theorem Ya {p n:Nat}(h0:p<=n+n)(h1:1<=p)(hn:n*672<=aV):IntKind.i64.wrap ((p:Int) - 1)=((p - 1:Nat):Int):=by
 rw[bp];unfold aV at hn;omega
theorem afC {p s n:Nat}(h0:p<=n+n)(h1:s<=p)(hn:n*672<=aV):IntKind.i64.wrap ((p:Int) - (s:Int))=((p - s:Nat):Int):=by
 rw[bp];unfold aV at hn;omega
theorem qZ (g:Nat)(cf:aG->aG->Int)(hg:SN g cf):∀ (f a m b:Nat) (l:List aG),a < m->m < b->b<=l.length->b - a<=f->l.length*672<=aV->Ja ae 124 [.c (.row 0 0),.c (.t (iv (a:Int))),.c (.t (iv (m:Int))),.c (.t (iv (b:Int))),.fn g []] [] [⟨100,76,0,l.map aG.enc,none⟩] (.gi []) [] [⟨100,76,0,(gC (iq cf) f a m b l).map aG.enc,none⟩] []
 | 0,a,m,b,l,h1,h2,h3,h4,hl=>absurd h4 (by omega)
 | f+1,a,m,b,l,h1,h2,h3,h4,hl=>by
  have ha:a < l.length:=by omega
  have hm:m < l.length:=by omega
  by_cases c1:m - a=1
  ·refine kz 1 Tryz.func124 rfl (enters_of Tryz.func124 (by kernel_rfl) rfl) tabOk (by kernel_rfl) rfl rfl rfl rfl rfl fun w0 O _=>aEk [12] ?_;refine eX (by rw[tg (n:=l.length) (by omega) (by omega) hl];simp only[c1];rfl) (Tp.mT (fun x:Nat × Nat × Nat=>⟨[(0,.c (.row 0 0)),(1,.c (.t (iv (a:Int)))),(2,.c (.t (iv (m:Int)))),(3,.c (.t (iv (b:Int)))),(4,.fn g []),(10,aEn x.2.1),(11,aEn x.2.2)],[],[(0,⟨100,76,0,(l).map aG.enc,none⟩)],10000⟩) (fun x=>m<=x.2.1/\x.2.1<=x.2.2/\x.2.2<=b/\x.2.2 - x.2.1<=x.1/\n9 (fun h=>iq cf l[h]! l[a]!) x.1 x.2.1 x.2.2=n9 (fun h=>iq cf l[h]! l[a]!) (b - a) (m) (b)) (fun x=>x.2.2 - x.2.1) (b - a,m,b) ?_ ⟨ak _,by simp only;omega,ak _,by simp only;omega,rfl⟩ ?_)
   ·refine dN (n1:=1) rfl rfl ?_ ?_ ?_
    repeat' constructor
   rintro⟨q,i,j⟩ ⟨k1,k2,k3,k4,k5⟩;simp only at k1 k2 k3 k4 k5;refine aEk [4,6,7,8] (cS (fun hc=>?_) fun hc=>?_)
   ·have nt:i < j:=by simpa using hc
    obtain⟨q,rfl⟩:∃ p,q=p+1:=⟨q - 1,by omega⟩
    rw[n9,if_pos nt] at k5;have hh:(i+j) / 2 < l.length:=by omega
    have hf:=oH (i:=i) (j:=j) (n:=l.length) (by omega) (by omega) hl;have hf1:=GD (i:=i) (j:=j) (n:=l.length) (by omega) (by omega) hl;refine aEk [] (Ei ((i+j) / 2) (Ai (hf) (Ai (lmap hh) ?_)));refine Ei (aG.enc l[(i+j) / 2]!) (Ei _ (Ai (mA hh) (Ai rfl ?_)));refine Ei (a) (Ai (rfl) (Ai (lmap ha) ?_));refine Ei (aG.enc l[a]!) (Ei _ (Ai (mA ha) (Ai rfl ?_)));refine cF (hg l[(i+j) / 2]! l[a]!) ⟨fL (aG.enc _),fL (aG.enc _),ea⟩ ?_;refine cS (fun nv=>?_) fun nv=>?_
    ·have hq:(fun h=>iq cf l[h]! l[a]!) ((i+j) / 2)=true:=nv;rw[if_pos hq] at k5;refine aEk [] (Ei (q,(i+j) / 2+1,j) (Ai ⟨by simp only;omega,by simp only;omega,k3,by simp only;omega,k5⟩ (Ai (show j - ((i+j) / 2+1) < j - i by omega) ?_)));refine dN (n1:=1) rfl rfl ?_ ?_ ?_
     ·repeat' constructor
      exact congrArg (fun n=>aEn n) hf1
     repeat' constructor
    ·have hq:(fun h=>iq cf l[h]! l[a]!) ((i+j) / 2)=false:=nv;rw[if_neg (fun e=>absurd (e.symm.trans hq) (by decide))] at k5;refine aEk [] (Ei (q,i,(i+j) / 2) (Ai ⟨k1,by simp only;omega,by simp only;omega,by simp only;omega,k5⟩ (Ai (show(i+j) / 2 - i < j - i by omega) ?_)));refine dN (n1:=1) rfl rfl ?_ ?_ ?_
     ·repeat' constructor
      exact congrArg (fun n=>aEn n) hf
     repeat' constructor
   have nt:i=j:=by
    have:¬ i < j:=by simpa using hc
    omega
   subst nt
   have k5:i=n9 (fun h=>iq cf l[h]! l[a]!) (b - a) (m) (b):=by
    rw[<- k5]
    cases q with
    | zero=>rfl
    | succ q=>rw[n9,if_neg (Nat.lt_irrefl i)]
   refine Tp.mT (fun x:Nat × List aG=>⟨[(0,.c (.row 0 0)),(1,.c (.t (iv (a:Int)))),(2,.c (.t (iv (m:Int)))),(3,.c (.t (iv (b:Int)))),(4,.fn g []),(10,aEn i),(13,aEn x.1)],[],[(0,⟨100,76,0,(x.2).map aG.enc,none⟩)],20000⟩) (fun x=>a<=x.1/\x.1<=i - 1/\x.2.length=l.length/\up (i - 1 - x.1) x.1 x.2=gC (iq cf) (f+1) a m b l) (fun x=>i - x.1) (a,l) ?_ ⟨ak _,by simp only;omega,rfl,by rw[gC,if_pos c1,<- k5]⟩ ?_
   ·refine dN (n1:=1) rfl rfl ?_ ?_ ?_
    repeat' constructor
   rintro⟨k,X⟩ ⟨g1,g2,hX,he⟩;simp only at g1 g2 hX he;refine aEk [11,10] (cS (fun hc=>?_) fun hc=>?_)
   ·have hk:k < i - 1:=by
     rw[qR (n:=l.length) (by omega) (by omega) hl] at hc;have:=of_decide_eq_true hc;simp only at this;omega
    have e1:k < X.length:=by omega
    have e2:k+1 < X.length:=by omega
    have hs:i - 1 - k=(i - 1 - (k+1))+1:=by omega
    rw[hs,up] at he;refine aEk [] (Ei (k+1) (Ai (vV (a:=k) (n:=l.length) (by omega) hl) (Ai (lmap e2) ?_)));refine Ei (aG.enc X[k+1]!) (Ei _ (Ai (mA e2) (Ai rfl ?_)));refine Ei (k) (Ai (rfl) (Ai (lmap e1) ?_));refine Ei (aG.enc X[k]!) (Ei _ (Ai (mA e1) (Ai rfl ?_)));refine Ei (k) (Ai (rfl) (Ai (lmap e1) ?_));refine Ei (aG.enc X[k]!) (Ai (mA e1) (Ai (Nb rfl) ?_));refine Ei (k+1) (Ai (vV (a:=k) (n:=l.length) (by omega) hl) (Ai (Kj e2) ?_));obtain⟨z,hz⟩:=Kc (k:=k+1) (j:=k) (X:=X) (y:=X[k+1]!) e2;refine Ei (aG.enc z) (Ai hz (Ai (Nb rfl) ?_));refine aEk [] (Ei (k+1,zu X k (k+1)) (Ai ⟨by simp only;omega,by simp only;omega,by simp only;rw[l9];exact hX,he⟩ (Ai (show i - (k+1) < i - k by omega) ?_)));refine dN (n1:=1) rfl rfl ?_ ?_ ?_
    repeat' constructor
    exact congrArg (fun n=>aEn n) (vV (a:=k) (n:=l.length) (by omega) hl);exact congrArg (fun z=>some (Row.mk 100 76 0 z none)) (Ji X k (k+1))
   ·have hk:i - 1 - k=0:=by
     rw[qR (n:=l.length) (by omega) (by omega) hl] at hc;have:=of_decide_eq_false hc;simp only at this;omega
    rw[hk,up] at he;refine Ei [(0,0)] (Ai (Ai rfl (Ai ?_ (Ai ?_ ?_))) ?_)
    ·repeat' constructor
     all_goals exact congrArg (List.map aG.enc) he
    repeat' constructor
  by_cases c2:b - m=1
  ·refine kz 1 Tryz.func124 rfl (enters_of Tryz.func124 (by kernel_rfl) rfl) tabOk (by kernel_rfl) rfl rfl rfl rfl rfl fun w0 O _=>aEk [12,24] ?_;refine eA (by rw[tg (n:=l.length) (by omega) (by omega) hl];exact ne1 c1) (aEk [24] (eX (by rw[tg (n:=l.length) (by omega) (by omega) hl];simp only[c2];rfl) (Tp.mT (fun x:Nat × Nat × Nat=>⟨[(0,.c (.row 0 0)),(1,.c (.t (iv (a:Int)))),(2,.c (.t (iv (m:Int)))),(3,.c (.t (iv (b:Int)))),(4,.fn g []),(14,aEn x.2.1),(15,aEn x.2.2)],[],[(0,⟨100,76,0,(l).map aG.enc,none⟩)],10000⟩) (fun x=>a<=x.2.1/\x.2.1<=x.2.2/\x.2.2<=m/\x.2.2 - x.2.1<=x.1/\n9 (fun h=>!iq cf l[m]! l[h]!) x.1 x.2.1 x.2.2=n9 (fun h=>!iq cf l[m]! l[h]!) (b - a) (a) (m)) (fun x=>x.2.2 - x.2.1) (b - a,a,m) ?_ ⟨ak _,by simp only;omega,ak _,by simp only;omega,rfl⟩ ?_)))
   ·refine dN (n1:=1) rfl rfl ?_ ?_ ?_
    repeat' constructor
   rintro⟨q,i,j⟩ ⟨k1,k2,k3,k4,k5⟩;simp only at k1 k2 k3 k4 k5;refine aEk [16,18,19,20] (cS (fun hc=>?_) fun hc=>?_)
   ·have nt:i < j:=by simpa using hc
    obtain⟨q,rfl⟩:∃ p,q=p+1:=⟨q - 1,by omega⟩
    rw[n9,if_pos nt] at k5;have hh:(i+j) / 2 < l.length:=by omega
    have hf:=oH (i:=i) (j:=j) (n:=l.length) (by omega) (by omega) hl;have hf1:=GD (i:=i) (j:=j) (n:=l.length) (by omega) (by omega) hl;refine aEk [] (Ei (m) (Ai (rfl) (Ai (lmap hm) ?_)));refine Ei (aG.enc l[m]!) (Ei _ (Ai (mA hm) (Ai rfl ?_)));refine Ei ((i+j) / 2) (Ai (hf) (Ai (lmap hh) ?_));refine Ei (aG.enc l[(i+j) / 2]!) (Ei _ (Ai (mA hh) (Ai rfl ?_)));refine cF (hg l[m]! l[(i+j) / 2]!) ⟨fL (aG.enc _),fL (aG.enc _),ea⟩ ?_;refine cS (fun nv=>?_) fun nv=>?_
    ·have hq:(fun h=>!iq cf l[m]! l[h]!) ((i+j) / 2)=true:=nv;rw[if_pos hq] at k5;refine aEk [] (Ei (q,(i+j) / 2+1,j) (Ai ⟨by simp only;omega,by simp only;omega,k3,by simp only;omega,k5⟩ (Ai (show j - ((i+j) / 2+1) < j - i by omega) ?_)));refine dN (n1:=1) rfl rfl ?_ ?_ ?_
     ·repeat' constructor
      exact congrArg (fun n=>aEn n) hf1
     repeat' constructor
    ·have hq:(fun h=>!iq cf l[m]! l[h]!) ((i+j) / 2)=false:=nv;rw[if_neg (fun e=>absurd (e.symm.trans hq) (by decide))] at k5;refine aEk [] (Ei (q,i,(i+j) / 2) (Ai ⟨k1,by simp only;omega,by simp only;omega,by simp only;omega,k5⟩ (Ai (show(i+j) / 2 - i < j - i by omega) ?_)));refine dN (n1:=1) rfl rfl ?_ ?_ ?_
     ·repeat' constructor
      exact congrArg (fun n=>aEn n) hf
     repeat' constructor
   have nt:i=j:=by
    have:¬ i < j:=by simpa using hc
    omega
   subst nt
   have k5:i=n9 (fun h=>!iq cf l[m]! l[h]!) (b - a) (a) (m):=by
    rw[<- k5]
    cases q with
    | zero=>rfl
    | succ q=>rw[n9,if_neg (Nat.lt_irrefl i)]
   refine Tp.mT (fun x:Nat × List aG=>⟨[(0,.c (.row 0 0)),(1,.c (.t (iv (a:Int)))),(2,.c (.t (iv (m:Int)))),(3,.c (.t (iv (b:Int)))),(4,.fn g []),(14,aEn i),(17,aEn x.1)],[],[(0,⟨100,76,0,(x.2).map aG.enc,none⟩)],20000⟩) (fun x=>i<=x.1/\x.1<=m/\x.2.length=l.length/\dn (x.1 - i) x.1 x.2=gC (iq cf) (f+1) a m b l) (fun x=>x.1) (m,l) ?_ ⟨by simp only;omega,ak _,rfl,by rw[gC,if_neg c1,if_pos c2,<- k5]⟩ ?_
   ·refine dN (n1:=1) rfl rfl ?_ ?_ ?_
    repeat' constructor
   rintro⟨k,X⟩ ⟨g1,g2,hX,he⟩;simp only at g1 g2 hX he;refine aEk [23,22] (cS (fun hc=>?_) fun hc=>?_)
   ·have hk:i < k:=by simpa using hc
    have e1:k < X.length:=by omega
    have e2:k - 1 < X.length:=by omega
    have hs:k - i=(k - 1 - i)+1:=by omega
    rw[hs,dn] at he;refine aEk [] (Ei (k - 1) (Ai (qR (a:=k) (n:=l.length) (by omega) (by omega) hl) (Ai (lmap e2) ?_)));refine Ei (aG.enc X[k - 1]!) (Ei _ (Ai (mA e2) (Ai rfl ?_)));refine Ei (k) (Ai (rfl) (Ai (lmap e1) ?_));refine Ei (aG.enc X[k]!) (Ei _ (Ai (mA e1) (Ai rfl ?_)));refine Ei (k) (Ai (rfl) (Ai (lmap e1) ?_));refine Ei (aG.enc X[k]!) (Ai (mA e1) (Ai (Nb rfl) ?_));refine Ei (k - 1) (Ai (qR (a:=k) (n:=l.length) (by omega) (by omega) hl) (Ai (Kj e2) ?_));obtain⟨z,hz⟩:=Kc (k:=k - 1) (j:=k) (X:=X) (y:=X[k - 1]!) e2;refine Ei (aG.enc z) (Ai hz (Ai (Nb rfl) ?_));refine aEk [] (Ei (k - 1,zu X k (k - 1)) (Ai ⟨by simp only;omega,by simp only;omega,by simp only;rw[l9];exact hX,he⟩ (Ai (show k - 1 < k by omega) ?_)));refine dN (n1:=1) rfl rfl ?_ ?_ ?_
    repeat' constructor
    exact congrArg (fun n=>aEn n) (qR (a:=k) (n:=l.length) (by omega) (by omega) hl);exact congrArg (fun z=>some (Row.mk 100 76 0 z none)) (Ji X k (k - 1))
   ·have hk:k - i=0:=by
     have:¬ i < k:=by simpa using hc
     omega
    rw[hk,dn] at he;refine Ei [(0,0)] (Ai (Ai rfl (Ai ?_ (Ai ?_ ?_))) ?_)
    ·repeat' constructor
     all_goals exact congrArg (List.map aG.enc) he
    repeat' constructor
  -- the general case
  have hP:∃ s0 r0,(m > (a+b) / 2->s0=(a+b) / 2+m - b/\r0=(a+b) / 2)/\(¬ m > (a+b) / 2->s0=a/\r0=m)/\n9 (fun c=>!iq cf l[(a+b) / 2+m - 1 - c]! l[c]!) (b - a) s0 r0=prt (iq cf) a m b l/\s0<=r0/\r0<=m/\r0<=(a+b) / 2/\a<=s0/\(a+b) / 2+m<=s0+b:=by
   by_cases h:m > (a+b) / 2
   ·exact⟨_,_,fun _=>⟨rfl,rfl⟩,fun h2=>absurd h h2,by rw[prt,if_pos h],by omega,by omega,by omega,by omega,by omega⟩
   ·exact⟨_,_,fun h2=>absurd h2 h,fun _=>⟨rfl,rfl⟩,by rw[prt,if_neg h],by omega,by omega,by omega,by omega,by omega⟩
  obtain⟨s0,r0,p1,p2,p3,p4,p5,p6,p7,p8⟩:=hP;refine kz 1 Tryz.func124 rfl (enters_of Tryz.func124 (by kernel_rfl) rfl) tabOk (by kernel_rfl) rfl rfl rfl rfl rfl fun w0 O _=>aEk [12,24,28,30,32,40,41,42,43,44] ?_;refine eA (by rw[tg (n:=l.length) (by omega) (by omega) hl];exact ne1 c1) (aEk [24] (eA (by rw[tg (n:=l.length) (by omega) (by omega) hl];exact ne1 c2) (aEk [28,30,32,41,43] ?_)));apply QJ (P:=ae) (T:=T) (N:=Tryz.f124.ntmps) (w0:=w0) (O:=O) ⟨[(0,.c (.row 0 0)),(1,.c (.t (iv (a:Int)))),(2,.c (.t (iv (m:Int)))),(3,.c (.t (iv (b:Int)))),(4,.fn g []),(18,aEn ((a+b) / 2:Nat)),(19,aEn ((a+b) / 2+m:Nat)),(20,aEn s0),(21,aEn r0)],[],[(0,⟨100,76,0,(l).map aG.enc,none⟩)],8000⟩
  case h=>
   intro K;refine cS (fun hc=>?_) fun hc=>?_
   ·have hgt:m > (a+b) / 2:=by
     have hc:decide ((m:Int) > uU a b)=true:=hc;rw[oH (n:=l.length) (by omega) (by omega) hl] at hc;have:=of_decide_eq_true hc;omega
    obtain⟨rfl,rfl⟩:=p1 hgt;refine aEk [] (Tp.W6 (dN (n1:=1) rfl rfl ?_ ?_ ?_) K)
    ·repeat' constructor
     ·exact congrArg (fun n=>aEn n) (oH (n:=l.length) (by omega) (by omega) hl)
     ·exact congrArg (fun n=>aEn n) (whm (n:=l.length) (by omega) (by omega) (by omega) hl)
     ·exact congrArg (fun n=>aEn n) (anX (n:=l.length) (by omega) (by omega) (by omega) (by omega) hl)
     ·exact congrArg (fun n=>aEn n) (oH (n:=l.length) (by omega) (by omega) hl)
    repeat' constructor
   ·have hgt:¬ m > (a+b) / 2:=by
     have hc:decide ((m:Int) > uU a b)=false:=hc;rw[oH (n:=l.length) (by omega) (by omega) hl] at hc;have:=of_decide_eq_false hc;omega
    obtain⟨rfl,rfl⟩:=p2 hgt;refine aEk [] (Tp.W6 (dN (n1:=1) rfl rfl ?_ ?_ ?_) K)
    ·repeat' constructor
     ·exact congrArg (fun n=>aEn n) (oH (n:=l.length) (by omega) (by omega) hl)
     ·exact congrArg (fun n=>aEn n) (whm (n:=l.length) (by omega) (by omega) (by omega) hl)
    repeat' constructor
  case key=>
   refine aEk [40,41,42,43,44] (Tp.mT (fun x:Nat × Nat × Nat=>⟨[(0,.c (.row 0 0)),(1,.c (.t (iv (a:Int)))),(2,.c (.t (iv (m:Int)))),(3,.c (.t (iv (b:Int)))),(4,.fn g []),(18,aEn ((a+b) / 2:Nat)),(19,aEn ((a+b) / 2+m:Nat)),(22,aEn ((a+b) / 2+m - 1:Nat)),(20,aEn x.2.1),(21,aEn x.2.2)],[],[(0,⟨100,76,0,(l).map aG.enc,none⟩)],10000⟩) (fun x=>s0<=x.2.1/\x.2.1<=x.2.2/\x.2.2<=r0/\x.2.2 - x.2.1<=x.1/\n9 (fun c=>!iq cf l[(a+b) / 2+m - 1 - c]! l[c]!) x.1 x.2.1 x.2.2=n9 (fun c=>!iq cf l[(a+b) / 2+m - 1 - c]! l[c]!) (b - a) (s0) (r0)) (fun x=>x.2.2 - x.2.1) (b - a,s0,r0) ?_ ⟨ak _,by simp only;omega,ak _,by simp only;omega,rfl⟩ ?_)
   ·refine dN (n1:=1) rfl rfl ?_ ?_ ?_
    ·repeat' constructor
     exact congrArg (fun n=>aEn n) (Ya (n:=l.length) (by omega) (by omega) hl)
    repeat' constructor
   rintro⟨q,i,j⟩ ⟨k1,k2,k3,k4,k5⟩;simp only at k1 k2 k3 k4 k5;refine aEk [34,36,37,38] (cS (fun hc=>?_) fun hc=>?_)
   ·have nt:i < j:=by simpa using hc
    obtain⟨q,rfl⟩:∃ p,q=p+1:=⟨q - 1,by omega⟩
    rw[n9,if_pos nt] at k5;have hh:(i+j) / 2 < l.length:=by omega
    have hf:=oH (i:=i) (j:=j) (n:=l.length) (by omega) (by omega) hl;have hf1:=GD (i:=i) (j:=j) (n:=l.length) (by omega) (by omega) hl;refine aEk [] ?_;have hh2:(a+b) / 2+m - 1 - (i+j) / 2 < l.length:=by omega
    have hp:=wpc (p:=(a+b) / 2+m - 1) (i:=i) (j:=j) (n:=l.length) (by omega) (by omega) (by omega) (by omega) hl;refine Ei ((a+b) / 2+m - 1 - (i+j) / 2) (Ai (hp) (Ai (lmap hh2) ?_));refine Ei (aG.enc l[(a+b) / 2+m - 1 - (i+j) / 2]!) (Ei _ (Ai (mA hh2) (Ai rfl ?_)));refine Ei ((i+j) / 2) (Ai (hf) (Ai (lmap hh) ?_));refine Ei (aG.enc l[(i+j) / 2]!) (Ei _ (Ai (mA hh) (Ai rfl ?_)));refine cF (hg l[(a+b) / 2+m - 1 - (i+j) / 2]! l[(i+j) / 2]!) ⟨fL (aG.enc _),fL (aG.enc _),ea⟩ ?_;refine cS (fun nv=>?_) fun nv=>?_
    ·have hq:(fun c=>!iq cf l[(a+b) / 2+m - 1 - c]! l[c]!) ((i+j) / 2)=true:=nv;rw[if_pos hq] at k5;refine aEk [] (Ei (q,(i+j) / 2+1,j) (Ai ⟨by simp only;omega,by simp only;omega,k3,by simp only;omega,k5⟩ (Ai (show j - ((i+j) / 2+1) < j - i by omega) ?_)));refine dN (n1:=1) rfl rfl ?_ ?_ ?_
     ·repeat' constructor
      exact congrArg (fun n=>aEn n) hf1
     repeat' constructor
    ·have hq:(fun c=>!iq cf l[(a+b) / 2+m - 1 - c]! l[c]!) ((i+j) / 2)=false:=nv;rw[if_neg (fun e=>absurd (e.symm.trans hq) (by decide))] at k5;refine aEk [] (Ei (q,i,(i+j) / 2) (Ai ⟨k1,by simp only;omega,by simp only;omega,by simp only;omega,k5⟩ (Ai (show(i+j) / 2 - i < j - i by omega) ?_)));refine dN (n1:=1) rfl rfl ?_ ?_ ?_
     ·repeat' constructor
      exact congrArg (fun n=>aEn n) hf
     repeat' constructor
   have nt:i=j:=by
    have:¬ i < j:=by simpa using hc
    omega
   subst nt
   have k5:i=n9 (fun c=>!iq cf l[(a+b) / 2+m - 1 - c]! l[c]!) (b - a) (s0) (r0):=by
    rw[<- k5]
    cases q with
    | zero=>rfl
    | succ q=>rw[n9,if_neg (Nat.lt_irrefl i)]
   have hs:=k5.trans p3;have hw:=afC (p:=(a+b) / 2+m) (s:=i) (n:=l.length) (by omega) (by omega) hl
   have he:(fun l2=>if (a+b) / 2 < (a+b) / 2+m - i/\(a+b) / 2+m - i < b then gC (iq cf) f ((a+b) / 2) ((a+b) / 2+m - i) b l2 else l2) ((fun l1=>if a < i/\i < (a+b) / 2 then gC (iq cf) f a i ((a+b) / 2) l1 else l1) (if i < m/\m < (a+b) / 2+m - i then yh m (b - a) (m - i) ((a+b) / 2+m - i - m) l else l))=gC (iq cf) (f+1) a m b l:=by
    rw[gC,if_neg c1,if_neg c2,<- hs]
   have y8:(if i < m/\m < (a+b) / 2+m - i then yh m (b - a) (m - i) ((a+b) / 2+m - i - m) l else l).length=l.length:=by
    split
    ·exact vw ..
    ·rfl
   generalize hL:(if i < m/\m < (a+b) / 2+m - i then yh m (b - a) (m - i) ((a+b) / 2+m - i - m) l else l)=L at he y8;apply QJ (P:=ae) (T:=T) (N:=Tryz.f124.ntmps) (w0:=w0) (O:=O) ⟨[(0,.c (.row 0 0)),(1,.c (.t (iv (a:Int)))),(2,.c (.t (iv (m:Int)))),(3,.c (.t (iv (b:Int)))),(4,.fn g []),(18,aEn ((a+b) / 2:Nat)),(20,aEn i),(24,aEn ((a+b) / 2+m - i:Nat))],[],[(0,⟨100,76,0,(L).map aG.enc,none⟩)],13000⟩
   case h=>
    intro K;refine cS (fun hc=>?_) fun hc=>?_
    ·have q1:i < m:=by simpa using hc
     refine cS (fun hd=>?_) fun hd=>?_
     ·have q2:m < (a+b) / 2+m - i:=by
       have hd:decide ((m:Int) < IntKind.i64.wrap ((((a+b) / 2+m:Nat):Int) - (i:Int)))=true:=hd;rw[hw] at hd;have:=of_decide_eq_true hd;omega
      rw[if_pos ⟨q1,q2⟩] at hL;refine aEk [] (cM [] [(0,0)] (TK g l i m ((a+b) / 2+m - i) (b - a) (by omega) (by omega) (by omega) (by omega) hl) ?_ ?_ ?_)
      ·repeat' constructor
       exact congrArg (fun n=>iv n) hw
      ·exact rfl
      refine Tp.W6 (dN (n1:=1) rfl rfl ?_ ?_ ?_) K
      ·repeat' constructor
       exact congrArg (fun n=>aEn n) hw
      ·repeat' constructor
      ·repeat' constructor
       all_goals exact congrArg (fun z=>some (Row.mk 100 76 0 (z.map aG.enc) none)) hL
     ·have q2:¬ m < (a+b) / 2+m - i:=by
       have hd:decide ((m:Int) < IntKind.i64.wrap ((((a+b) / 2+m:Nat):Int) - (i:Int)))=false:=hd;rw[hw] at hd;have:=of_decide_eq_false hd;omega
      rw[if_neg (fun h=>q2 h.2)] at hL;refine Tp.W6 (dN (n1:=1) rfl rfl ?_ ?_ ?_) K
      ·repeat' constructor
       exact congrArg (fun n=>aEn n) hw
      ·repeat' constructor
      ·repeat' constructor
       all_goals exact congrArg (fun z=>some (Row.mk 100 76 0 (z.map aG.enc) none)) hL
    ·have q1:¬ i < m:=by simpa using hc
     rw[if_neg (fun h=>q1 h.1)] at hL;refine Tp.W6 (dN (n1:=1) rfl rfl ?_ ?_ ?_) K
     ·repeat' constructor
      exact congrArg (fun n=>aEn n) hw
     ·repeat' constructor
     ·repeat' constructor
      all_goals exact congrArg (fun z=>some (Row.mk 100 76 0 (z.map aG.enc) none)) hL
   case key=>
    refine aEk [42,43,44] ?_;have he:(fun l2=>if (a+b) / 2 < (a+b) / 2+m - i/\(a+b) / 2+m - i < b then gC (iq cf) f ((a+b) / 2) ((a+b) / 2+m - i) b l2 else l2) (if a < i/\i < (a+b) / 2 then gC (iq cf) f a i ((a+b) / 2) L else L)=gC (iq cf) (f+1) a m b l:=he
    have qO:(if a < i/\i < (a+b) / 2 then gC (iq cf) f a i ((a+b) / 2) L else L).length=l.length:=by
     split
     ·rw[mM];exact y8
     ·exact y8
    generalize IF:(if a < i/\i < (a+b) / 2 then gC (iq cf) f a i ((a+b) / 2) L else L)=L2 at he qO;apply QJ (P:=ae) (T:=T) (N:=Tryz.f124.ntmps) (w0:=w0) (O:=O) ⟨[(0,.c (.row 0 0)),(1,.c (.t (iv (a:Int)))),(2,.c (.t (iv (m:Int)))),(3,.c (.t (iv (b:Int)))),(4,.fn g []),(18,aEn ((a+b) / 2:Nat)),(24,aEn ((a+b) / 2+m - i:Nat))],[],[(0,⟨100,76,0,(L2).map aG.enc,none⟩)],16000⟩
    case h=>
     intro K;refine cS (fun hc=>?_) fun hc=>?_
     ·have q1:a < i:=by simpa using hc
      refine cS (fun hd=>?_) fun hd=>?_
      ·have q2:i < (a+b) / 2:=by
        have:=of_decide_eq_true hd;omega
       rw[if_pos ⟨q1,q2⟩] at IF;refine aEk [] (cM [] [(0,0)] (qZ g cf hg f a i ((a+b) / 2) L q1 q2 (by omega) (by omega) (by rw[y8];exact hl)) ?_ ?_ ?_)
       ·repeat' constructor
       ·exact rfl
       refine Tp.W6 (dN (n1:=1) rfl rfl ?_ ?_ ?_) K
       repeat' constructor
       all_goals exact congrArg (fun z=>some (Row.mk 100 76 0 (z.map aG.enc) none)) IF
      ·have q2:¬ i < (a+b) / 2:=by
        have:=of_decide_eq_false hd;omega
       rw[if_neg (fun h=>q2 h.2)] at IF;refine Tp.W6 (dN (n1:=1) rfl rfl ?_ ?_ ?_) K
       repeat' constructor
       all_goals exact congrArg (fun z=>some (Row.mk 100 76 0 (z.map aG.enc) none)) IF
     ·have q1:¬ a < i:=by simpa using hc
      rw[if_neg (fun h=>q1 h.1)] at IF;refine Tp.W6 (dN (n1:=1) rfl rfl ?_ ?_ ?_) K
      repeat' constructor
      all_goals exact congrArg (fun z=>some (Row.mk 100 76 0 (z.map aG.enc) none)) IF
    case key=>
     have he:(if (a+b) / 2 < (a+b) / 2+m - i/\(a+b) / 2+m - i < b then gC (iq cf) f ((a+b) / 2) ((a+b) / 2+m - i) b L2 else L2)=gC (iq cf) (f+1) a m b l:=he;refine aEk [44] (cS (fun hc=>?_) fun hc=>?_)
     ·have q1:(a+b) / 2 < (a+b) / 2+m - i:=by
       have:=of_decide_eq_true hc;omega
      refine cS (fun hd=>?_) fun hd=>?_
      ·have q2:(a+b) / 2+m - i < b:=by
        have:=of_decide_eq_true hd;omega
       rw[if_pos ⟨q1,q2⟩] at he;refine aEk [] (cM [] [(0,0)] (qZ g cf hg f ((a+b) / 2) ((a+b) / 2+m - i) b L2 q1 q2 (by omega) (by omega) (by rw[qO];exact hl)) ?_ ?_ ?_)
       ·repeat' constructor
       ·exact rfl
       refine Ei [(0,0)] (Ai (Ai rfl (Ai ?_ (Ai ?_ ?_))) ?_)
       ·repeat' constructor
        all_goals exact congrArg (List.map aG.enc) he
       repeat' constructor
      ·have q2:¬ (a+b) / 2+m - i < b:=by
        have:=of_decide_eq_false hd;omega
       rw[if_neg (fun h=>q2 h.2)] at he;refine Ei [(0,0)] (Ai (Ai rfl (Ai ?_ (Ai ?_ ?_))) ?_)
       ·repeat' constructor
        all_goals exact congrArg (List.map aG.enc) he
       repeat' constructor
     ·have q1:¬ (a+b) / 2 < (a+b) / 2+m - i:=by
       have:=of_decide_eq_false hc;omega
      rw[if_neg (fun h=>q1 h.1)] at he;refine Ei [(0,0)] (Ai (Ai rfl (Ai ?_ (Ai ?_ ?_))) ?_)
      ·repeat' constructor
       all_goals exact congrArg (List.map aG.enc) he
      repeat' constructor
theorem afE {s n:Nat}(h:s<=n+n)(hn:n*672<=aV):IntKind.i64.wrap (2*(s:Int))=((2*s:Nat):Int):=by
 rw[bp];unfold aV at hn;omega
theorem N7 {s n:Nat}(h:s<=n+n)(hn:n*672<=aV):IntKind.i64.wrap ((s:Int)*2)=((2*s:Nat):Int):=by
 rw[bp];unfold aV at hn;omega
theorem Ob {a b n:Nat}(h:a<=n+n+n)(h2:b<=n+n+n)(hn:n*672<=aV):IntKind.i64.wrap ((a:Int)+(b:Int))=((a+b:Nat):Int):=by
 rw[bp];unfold aV at hn;omega
theorem Yd {a n:Nat}(h:a<=n+20)(hn:n*672<=aV):IntKind.i64.wrap ((a:Int)+20)=((a+20:Nat):Int):=by
 rw[bp];unfold aV at hn;omega
theorem GS (g:Nat)(cf:aG->aG->Int)(hg:SN g cf)(l:List aG)(n:Nat)(hn:n=l.length)(hl:l.length*672<=aV):Ja ae 65 [.c (.row 0 0),.c (.t (iv (n:Int))),.fn g []] [] [⟨100,76,0,(l).map aG.enc,none⟩] (.gi []) [] [⟨100,76,0,(jx (iq cf) l).map aG.enc,none⟩] []:=by
 have hl:n*672<=aV:=by rw[hn];exact hl
 refine kz 1 Tryz.func65 rfl (enters_of Tryz.func65 (by kernel_rfl) rfl) tabOk (by kernel_rfl) rfl rfl rfl rfl rfl fun w0 O _=>aEk [6] ?_;refine Tp.mT (fun x:Nat × Nat × List aG=>⟨[(0,.c (.row 0 0)),(1,.c (.t (iv (n:Int)))),(2,.fn g []),(6,aEn 20),(7,aEn x.2.1),(8,aEn (x.2.1+20:Nat))],[],[(0,⟨100,76,0,(x.2.2).map aG.enc,none⟩)],10000⟩) (fun x=>x.2.1<=n/\n - x.2.1 < x.1/\x.2.2.length=n/\qG (iq cf) 20 n x.1 x.2.1 x.2.2=qG (iq cf) 20 n (n+1) 0 l) (fun x=>n - x.2.1) (n+1,0,l) ?_ ⟨aA _,by simp only;omega,hn.symm,rfl⟩ ?_
 ·refine dN (n1:=1) rfl rfl ?_ ?_ ?_
  repeat' constructor
 rintro⟨q,a,X⟩ ⟨g1,g2,hX,he⟩;simp only at g1 g2 hX he;obtain⟨q,rfl⟩:∃ p,q=p+1:=⟨q - 1,by omega⟩
 refine aEk [3] (cS (fun hc=>?_) fun hc=>?_)
 ·have aU:a+20<=n:=by
   have hc:decide (((a+20:Nat):Int)<=(n:Int))=true:=hc;have:=of_decide_eq_true hc;omega
  rw[qG,if_pos aU] at he;have hi:=EW g cf hg X a (a+20) (by omega) (by omega) (by rw[hX];exact hl);rw[show a+20 - (a+1)=20 - 1 by omega] at hi;refine aEk [] (cM [] [(0,0)] hi ?_ ?_ ?_)
  ·repeat' constructor
  ·exact rfl
  refine Ei (q,a+20,nT (iq cf) a (20 - 1) (a+1) X) (Ai ⟨aU,by simp only;omega,by simp only;rw[oU];exact hX,he⟩ (Ai (show n - (a+20) < n - a by omega) ?_));refine dN (n1:=1) rfl rfl ?_ ?_ ?_
  ·repeat' constructor
   exact congrArg (fun n=>aEn n) (Yd (a:=a+20) (n:=n) (by omega) hl)
  repeat' constructor
 have aU:¬ a+20<=n:=by
  have hc:decide (((a+20:Nat):Int)<=(n:Int))=false:=hc;have:=of_decide_eq_false hc;omega
 rw[qG,if_neg aU] at he;have hi:=EW g cf hg X a n g1 (by omega) (by rw[hX];exact hl);refine aEk [] (cM [] [(0,0)] hi ?_ ?_ ?_)
 ·repeat' constructor
 ·exact rfl
 have hX2:(nT (iq cf) a (n - (a+1)) (a+1) X).length=n:=by rw[oU];exact hX
 rw[he] at hX2;rw[he];have fu:jx (iq cf) l=sO (iq cf) n (n+1) 20 (qG (iq cf) 20 n (n+1) 0 l):=by rw[jx,<- hn]
 generalize qG (iq cf) 20 n (n+1) 0 l=Y at hX2 fu;clear he hi g1 g2 aU hX hc;refine Tp.mT (fun x:Nat × Nat × List aG=>⟨[(0,.c (.row 0 0)),(1,.c (.t (iv (n:Int)))),(2,.fn g []),(6,aEn x.2.1)],[],[(0,⟨100,76,0,(x.2.2).map aG.enc,none⟩)],20000⟩) (fun x=>0 < x.2.1/\n < x.2.1+x.1/\x.2.2.length=n/\sO (iq cf) n x.1 x.2.1 x.2.2=jx (iq cf) l) (fun x=>n - x.2.1) (n+1,20,Y) ?_ ⟨by simp only;omega,by simp only;omega,hX2,fu.symm⟩ ?_
 ·refine dN (n1:=1) rfl rfl ?_ ?_ ?_
  repeat' constructor
 rintro⟨q,s,Z⟩ ⟨hs0,hq,hZ,he⟩;simp only at hs0 hq hZ he;refine aEk [8,15,16] (cS (fun hc=>?_) fun hc=>?_)
 ·have hsn:s < n:=by simpa using hc
  obtain⟨q,rfl⟩:∃ p,q=p+1:=⟨q - 1,by omega⟩
  rw[sO,if_pos hsn] at he;have w2:=afE (s:=s) (n:=n) (by omega) hl;refine aEk [16] (Tp.mT (fun x:Nat × Nat × List aG=>⟨[(0,.c (.row 0 0)),(1,.c (.t (iv (n:Int)))),(2,.fn g []),(6,aEn s),(7,aEn x.2.1),(8,aEn (x.2.1+2*s:Nat))],[],[(0,⟨100,76,0,(x.2.2).map aG.enc,none⟩)],30000⟩) (fun x=>x.2.1<=n/\n - x.2.1 < x.1/\x.2.2.length=n/\pU (iq cf) s n x.1 x.2.1 x.2.2=pU (iq cf) s n (n+1) 0 Z) (fun x=>n - x.2.1) (n+1,0,Z) ?_ ⟨aA _,by simp only;omega,hZ,rfl⟩ ?_)
  ·refine dN (n1:=1) rfl rfl ?_ ?_ ?_
   ·repeat' constructor
    exact congrArg (fun n=>aEn n) (w2.trans (show((2*s:Nat):Int)=((0+2*s:Nat):Int) by rw[bw]))
   repeat' constructor
  rintro⟨p,a,X⟩ ⟨g1,g2,hX,hk⟩;simp only at g1 g2 hX hk;obtain⟨p,rfl⟩:∃ r,p=r+1:=⟨p - 1,by omega⟩
  refine aEk [10,14,15,16] (cS (fun hc=>?_) fun hc=>?_)
  ·have aU:a+2*s<=n:=by
    have hc:decide (((a+2*s:Nat):Int)<=(n:Int))=true:=hc;have:=of_decide_eq_true hc;omega
   rw[pU,if_pos aU] at hk;have w3:=Ob (a:=a+2*s) (b:=2*s) (n:=n) (by omega) (by omega) hl;refine aEk [] (cM [] [(0,0)] (qZ g cf hg (2*s) a (a+s) (a+2*s) X (by omega) (by omega) (by omega) (by omega) (by rw[hX];exact hl)) ?_ ?_ ?_)
   ·repeat' constructor
    exact congrArg (fun n=>iv n) (Ob (a:=a) (b:=s) (n:=n) (by omega) (by omega) hl)
   ·exact rfl
   refine Ei (p,a+2*s,gC (iq cf) (2*s) a (a+s) (a+2*s) X) (Ai ⟨aU,by simp only;omega,by simp only;rw[mM];exact hX,hk⟩ (Ai (show n - (a+2*s) < n - a by omega) ?_));refine dN (n1:=1) rfl rfl ?_ ?_ ?_
   ·repeat' constructor
    refine congrArg (fun n=>aEn n) ?_;show IntKind.i64.wrap (((a+2*s:Nat):Int)+IntKind.i64.wrap (2*(s:Int)))=_;rw[w2,w3]
   repeat' constructor
  have aU:¬ a+2*s<=n:=by
   have hc:decide (((a+2*s:Nat):Int)<=(n:Int))=false:=hc;have:=of_decide_eq_false hc;omega
  rw[pU,if_neg aU] at hk;have w1:=Ob (a:=a) (b:=s) (n:=n) (by omega) (by omega) hl;refine cS (fun hc=>?_) fun hc=>?_
  ·have hm:a+s < n:=by
    have hc:decide (IntKind.i64.wrap ((a:Int)+(s:Int)) < (n:Int))=true:=hc;rw[w1] at hc;have:=of_decide_eq_true hc;omega
   rw[if_pos hm] at hk;refine aEk [] (cM [] [(0,0)] (qZ g cf hg (n - a) a (a+s) n X (by omega) hm (by omega) (ak _) (by rw[hX];exact hl)) ?_ ?_ ?_)
   ·repeat' constructor
    exact congrArg (fun n=>iv n) w1
   ·exact rfl
   rw[hk];have hX3:(pU (iq cf) s n (n+1) 0 Z).length=n:=by rw[ajP];exact hZ
   refine aEk [] (Ei (q,2*s,pU (iq cf) s n (n+1) 0 Z) (Ai ⟨by simp only;omega,by simp only;omega,hX3,he⟩ (Ai (show n - 2*s < n - s by omega) ?_)));refine dN (n1:=1) rfl rfl ?_ ?_ ?_
   ·repeat' constructor
    exact congrArg (fun n=>aEn n) (N7 (s:=s) (n:=n) (by omega) hl)
   repeat' constructor
  ·have hm:¬ a+s < n:=by
    have hc:decide (IntKind.i64.wrap ((a:Int)+(s:Int)) < (n:Int))=false:=hc;rw[w1] at hc;have:=of_decide_eq_false hc;omega
   rw[if_neg hm] at hk;subst hk;refine aEk [] (Ei (q,2*s,pU (iq cf) s n (n+1) 0 Z) (Ai ⟨by simp only;omega,by simp only;omega,hX,he⟩ (Ai (show n - 2*s < n - s by omega) ?_)));refine dN (n1:=1) rfl rfl ?_ ?_ ?_
   ·repeat' constructor
    exact congrArg (fun n=>aEn n) (N7 (s:=s) (n:=n) (by omega) hl)
   repeat' constructor
 ·have hsn:¬ s < n:=by simpa using hc
  have he:Z=jx (iq cf) l:=by
   rw[<- he]
   cases q with
   | zero=>rfl
   | succ q=>rw[sO,if_neg hsn]
  refine Ei [(0,0)] (Ai (Ai rfl (Ai ?_ (Ai ?_ ?_))) ?_)
  ·repeat' constructor
   all_goals exact congrArg (List.map aG.enc) he
  repeat' constructor
theorem we (g:Nat)(cf:aG->aG->Int)(hg:SN g cf)(l:List aG)(hl:l.length*672<=aV):Ja ae 26 [.c (.row 0 0),.fn g []] [] [⟨100,76,0,(l).map aG.enc,none⟩] (.gi []) [] [⟨100,76,0,(jx (iq cf) l).map aG.enc,none⟩] []:=by
 refine kz 1 Tryz.func26 rfl (enters_of Tryz.func26 (by kernel_rfl) rfl) tabOk (by kernel_rfl) rfl rfl rfl rfl rfl fun w0 O _=>aEk [] ?_;refine cM [] [(0,0)] (GS g cf hg l (l.map aG.enc).length (Lm ..) hl) ?_ ?_ ?_
 ·repeat' constructor
 ·exact rfl
 have he:jx (iq cf) l=jx (iq cf) l:=rfl;refine Ei [(0,0)] (Ai (Ai rfl (Ai ?_ (Ai ?_ ?_))) ?_)
 ·repeat' constructor
  all_goals exact congrArg (List.map aG.enc) he
 repeat' constructor
end
section
open Go Cg
def lX (x y:aG):Bool:=decide (x.id < y.id)||(x.id==y.id&&decide (x.index<=y.index))
def Gv (x y:aG):Prop:=x.id < y.id\/(x.id=y.id/\x.index<=y.index)
theorem rV (x y:aG):lX x y=true↔Gv x y:=by
 unfold lX Gv;simp
theorem tW (x y z:aG)(h1:Gv x y)(h2:Gv y z):Gv x z:=by
 unfold Gv at *;omega
theorem Ae (x y:aG):Gv x y\/Gv y x:=by
 unfold Gv;omega
theorem Kf (x y:aG):iq sH y x=true↔¬ Gv x y:=by
 unfold iq sH CW Gv;simp only[decide_eq_true_eq]
 repeat' split
 all_goals omega
theorem zz (l:List aG):jx (iq sH) l=jn lX [] l:=OE rV tW Ae (fun x y=>Kf x y) l
theorem qf (l:List aG):(jx (iq sH) l).Perm l:=(Jn tW Ae l (List.pairwise_of_forall fun x y=>Kf x y)).1
end
section
open Go Cg Go.RowKit Go.Sort
def toR (w:aG):bq:=⟨w.id,w.index,w.you,w.aj⟩
theorem vS (id you:Int)(e:Bool):∀ (l m:List bJ) (k:Nat),jr id you e k (l++m)=jr id you e k l++jr id you e (k+l.length) m
 | [],m,k=>rfl
 | a :: r,m,k=>by
  rw[List.cons_append,jr,jr,vS id you e r m (k+1),b9,aZ,show k+1+r.length=k+(r.length+1) by omega]
theorem vR (all:List aD)(e:Bool):∀ (l m:List az) (i:Nat),et all e i (l++m)=et all e i l++et all e (i+l.length) m
 | [],m,i=>rfl
 | o :: r,m,i=>by
  rw[List.cons_append,et,et,vR all e r m (i+1),b9,aZ,show i+1+r.length=i+(r.length+1) by omega]
theorem Lp (all:List aD)(e:Bool)(l:List az)(k:Nat)(hk:k < l.length):et all e 0 (l.take (k+1))=et all e 0 (l.take k)++tj all e k l[k]:=by
 rw[aS hk,vR,au,Nat.min_eq_left (by omega),bw];show _++(tj all e k l[k]++[])=_;rw[aW]
theorem Lq (id you:Int)(e:Bool)(l:List bJ)(k:Nat)(hk:k < l.length):jr id you e 0 (l.take (k+1))=jr id you e 0 (l.take k)++(if l[k].kind==4&&tX l[k].aF.when==e then [⟨id,k,you,l[k],e⟩] else []):=by
 rw[aS hk,vS,au,Nat.min_eq_left (by omega),bw];show _++((if l[k].kind==4&&tX l[k].aF.when==e then [_] else [])++[])=_;rw[aW]
theorem N9 (all:List aD)(e:Bool)(l:List az)(k:Nat):(et all e 0 (l.take k)).length<=(et all e 0 l).length:=by
 have:=vR all e (l.take k) (l.drop k) 0;rw[List.take_append_drop] at this;rw[this,al];omega
theorem Oa (id you:Int)(e:Bool)(l:List bJ)(k:Nat):(jr id you e 0 (l.take k)).length<=(jr id you e 0 l).length:=by
 have:=vS id you e (l.take k) (l.drop k) 0;rw[List.take_append_drop] at this;rw[this,al];omega
theorem apR {X:List bq}{y:bq}:X.map bq.enc++[y.enc]=(X++[y]).map bq.enc:=by rw[aQ];rfl
theorem EJ (s:aq)(all:List aD)(e:Bool)(hs:s.aa.length*128<=aV)(iN:all.length*176<=aV)(tT:∀ y∈all,aD.ok y)(hn:(et all e 0 s.aa).length<=100000):Ct ae 33 [.agg (s.enc.map .t),.c (.t (.sl 17 (all.map aD.enc))),.c (.t (bv e))] (.c (.t (.sl 75 (((et all e 0 s.aa).map toR).map bq.enc)))) [] false:=by
 refine cT Tryz.func33 rfl (by kernel_rfl) rfl fun w0 O _=>aEk [] ?_;refine aEm (fun k:Nat=>⟨[(1,.c (.t (.sl 17 (all.map aD.enc)))),(2,.c (.t (bv e))),(3,.ptr 0 0),(7,.c (.row 9000 0)),(8,aEn k)],[(0,s.enc.map .t)],[(9000,⟨115,75,0,((et all e 0 (s.aa.take k)).map toR).map bq.enc,none⟩)],10000⟩) (fun k=>k<=s.aa.length) (fun k=>s.aa.length - k) 0 ?_ (aA _) ?_
 ·refine ba [] rfl rfl ?_ ⟨aC _ rfl,ea⟩ ?_
  repeat' constructor
 rintro k hk;refine aEk [5,7,9,10,11,4] (cS (fun h=>?_) fun h=>?_)
 ·have aU:=cJ h;have Aq:=tu tT k;have fu:=Lp all e s.aa k aU;have Ir:=N9 all e s.aa (k+1);refine aEk [] (cR (zM all k iN) ⟨rfl,rfl,ea⟩ ?_);refine aEm (fun j:Nat=>⟨[(1,.c (.t (.sl 17 (all.map aD.enc)))),(2,.c (.t (bv e))),(3,.ptr 0 0),(7,.c (.row 9000 0)),(8,aEn k),(9,.ptr 11024 0),(10,aEn j)],[(0,s.enc.map .t),(11024,(eP all k).enc.map .t)],[(9000,⟨115,75,0,((et all e 0 (s.aa.take k)++(if s.aa[k].cn==0 then jr s.aa[k].id (eP all k).dB e 0 ((eP all k).aI.take j) else [])).map toR).map bq.enc,none⟩)],20000⟩) (fun j=>j<=(eP all k).aI.length) (fun j=>(eP all k).aI.length - j) 0 ?_ (aA _) ?_
  ·refine ba [(9000,9000)] rfl rfl ?_ ⟨aC _ rfl,aC _ rfl,ea⟩ ?_
   repeat' constructor
   rw[List.take_zero];split
   ·exact congrArg (fun x=>List.map bq.enc (List.map toR x)) (aW _).symm
   ·exact congrArg (fun x=>List.map bq.enc (List.map toR x)) (aW _).symm
  have hex:∀ j,(j=(eP all k).aI.length\/(s.aa[k].cn==0)=false)->et all e 0 (s.aa.take k)++(if s.aa[k].cn==0 then jr s.aa[k].id (eP all k).dB e 0 ((eP all k).aI.take j) else [])=et all e 0 (s.aa.take (k+1)):=fun j hj=>by
   rw[fu];unfold tj;rcases hj with rfl|hj
   ·rw[bj]
   ·rw[hj];rfl
  rintro j hj;refine aEk [9] (cS (fun h1=>?_) fun h1=>?_)
  ·have NT:=cJ h1;have Di:=Lq s.aa[k].id (eP all k).dB e (eP all k).aI j NT;refine Ei k (Ei (s.aa[k].enc) (Ai rfl (Ai (aK _ _ k aU) ?_)));refine cS (fun hz=>?_) fun hz=>?_
   ·have hz:(s.aa[k].cn==0)=true:=hz;refine aEk [10] (Ei j (Ei ((eP all k).aI[j].enc) (Ai rfl (Ai (aK _ _ j NT) ?_))))
    have hkp:(if (eP all k).aI[j].kind==4&&tX (eP all k).aI[j].aF.when==e then [(⟨s.aa[k].id,j,(eP all k).dB,(eP all k).aI[j],e⟩:aG)] else [])=[]->et all e 0 (s.aa.take k)++(if s.aa[k].cn==0 then jr s.aa[k].id (eP all k).dB e 0 ((eP all k).aI.take j) else [])=et all e 0 (s.aa.take k)++(if s.aa[k].cn==0 then jr s.aa[k].id (eP all k).dB e 0 ((eP all k).aI.take (j+1)) else []):=fun h=>by
     rw[Di,h,aW]
    refine cS (fun h2=>?_) fun h2=>?_
    ·have h2:((eP all k).aI[j].kind==4)=true:=h2;refine cF (O5 (eP all k).aI[j].aF.when) ⟨rfl,ea⟩ ?_;refine cS (fun h3=>?_) fun h3=>?_
     ·have h3:(tX (eP all k).aI[j].aF.when==e)=true:=h3;rw[h2,h3,cq,if_pos rfl] at Di
      have NU:(et all e 0 (s.aa.take k)++(if s.aa[k].cn==0 then jr s.aa[k].id (eP all k).dB e 0 ((eP all k).aI.take j) else []))++[⟨s.aa[k].id,j,(eP all k).dB,(eP all k).aI[j],e⟩]=et all e 0 (s.aa.take k)++(if s.aa[k].cn==0 then jr s.aa[k].id (eP all k).dB e 0 ((eP all k).aI.take (j+1)) else []):=by
       rw[if_pos hz,if_pos hz,Di,b9]
      have hle:(et all e 0 (s.aa.take k)++(if s.aa[k].cn==0 then jr s.aa[k].id (eP all k).dB e 0 ((eP all k).aI.take j) else [])).length<=100000:=by
       have h1:=Oa s.aa[k].id (eP all k).dB e (eP all k).aI j;rw[fu] at Ir;unfold tj at Ir;rw[if_pos hz] at Ir;rw[if_pos hz];simp only[al] at Ir ⊢;omega
      generalize hX:et all e 0 (s.aa.take k)++(if s.aa[k].cn==0 then jr s.aa[k].id (eP all k).dB e 0 ((eP all k).aI.take j) else [])=X at *
      have oX:(X.map toR).map bq.enc++[(toR ⟨s.aa[k].id,j,(eP all k).dB,(eP all k).aI[j],e⟩).enc]=((et all e 0 (s.aa.take k)++(if s.aa[k].cn==0 then jr s.aa[k].id (eP all k).dB e 0 ((eP all k).aI.take (j+1)) else [])).map toR).map bq.enc:=by
       rw[<- NU,aQ (l₁:=X),aQ];rfl
      have gP:((((X.map toR).map bq.enc).length+1)*664<=140737488355328)/\((X.map toR).map bq.enc).length+1 < 140737488355328:=by
       rw[Lm,Lm];omega
      refine Ei k (Ei (s.aa[k].enc) (Ai rfl (Ai (aK _ _ k aU) ?_)));refine Ai (.inl rfl) (Ai gP.1 (Ai gP.2 ?_));refine Ei (j+1) (Ai (show j+1<=_ by omega) (Ai (show(eP all k).aI.length - (j+1) < (eP all k).aI.length - j by omega) ?_));refine ba [(9000,9000)] rfl rfl ?_ ⟨aC _ rfl,aC _ rfl,ea⟩ ?_
      repeat' constructor
      exact cZ j NT 640 (by decide) Aq.2.2.1;exact oX
     ·have h3:(tX (eP all k).aI[j].aF.when==e)=false:=h3;have oX:=hkp (by rw[h3,Bool.and_false];rfl);refine Ei (j+1) (Ai (show j+1<=_ by omega) (Ai (show(eP all k).aI.length - (j+1) < (eP all k).aI.length - j by omega) ?_));refine ba [(9000,9000)] rfl rfl ?_ ⟨aC _ rfl,aC _ rfl,ea⟩ ?_
      repeat' constructor
      exact cZ j NT 640 (by decide) Aq.2.2.1;exact congrArg (fun x=>List.map bq.enc (List.map toR x)) oX
    ·have h2:((eP all k).aI[j].kind==4)=false:=h2;have oX:=hkp (by rw[h2,cm];rfl);refine Ei (j+1) (Ai (show j+1<=_ by omega) (Ai (show(eP all k).aI.length - (j+1) < (eP all k).aI.length - j by omega) ?_));refine ba [(9000,9000)] rfl rfl ?_ ⟨aC _ rfl,aC _ rfl,ea⟩ ?_
     repeat' constructor
     exact cZ j NT 640 (by decide) Aq.2.2.1;exact congrArg (fun x=>List.map bq.enc (List.map toR x)) oX
   ·have hz:(s.aa[k].cn==0)=false:=hz;refine aEk [] (Ei (k+1) (Ai (show k+1<=_ by omega) (Ai (show s.aa.length - (k+1) < s.aa.length - k by omega) ?_)));refine ba [(9000,9000)] rfl rfl ?_ ⟨aC _ rfl,ea⟩ ?_
    repeat' constructor
    exact cZ k aU 128 (by decide) hs;exact congrArg (fun x=>List.map bq.enc (List.map toR x)) (hex j (.inr hz))
  ·have Q9:=dM h1 hj;refine aEk [] (Ei (k+1) (Ai (show k+1<=_ by omega) (Ai (show s.aa.length - (k+1) < s.aa.length - k by omega) ?_)));refine ba [(9000,9000)] rfl rfl ?_ ⟨aC _ rfl,ea⟩ ?_
   repeat' constructor
   exact cZ k aU 128 (by decide) hs;exact congrArg (fun x=>List.map bq.enc (List.map toR x)) (hex j (.inl Q9))
 ·have fp:=dM h hk;subst fp;refine Ei [] ?_
  repeat' constructor
  rw[bj];exact rfl
def Ic (x y:bq):Bool:=decide (x.id < y.id)||(x.id==y.id&&decide (x.index<=y.index))
def iG:List bq->List bq->List bq
 | a,[]=>a
 | a,y :: b=>a.takeWhile (fun x=>Ic x y)++y :: iG (a.dropWhile fun x=>Ic x y) b
theorem B3 (a:List bq):iG a []=a:=by
 unfold iG;rfl
theorem U6 {x y:bq}{a b:List bq}(h:Ic x y=true):iG (x :: a) (y :: b)=x :: iG a (y :: b):=by
 rw[iG,iG,List.takeWhile_cons,List.dropWhile_cons,h];rfl
theorem Zp {x y:bq}{a b:List bq}(h:Ic x y=false):iG (x :: a) (y :: b)=y :: iG (x :: a) b:=by
 rw[iG,List.takeWhile_cons,List.dropWhile_cons,h];rfl
theorem Qd {y:bq}{b:List bq}:iG [] (y :: b)=y :: iG [] b:=by
 rw[iG];rfl
theorem B5:∀ (b a:List bq),(iG a b).length=a.length+b.length
 | [],a=>by rw[B3];rfl
 | y :: b,a=>by
  rw[iG,al,aZ,B5 b,aZ];have:=congrArg List.length (List.takeWhile_append_dropWhile (p:=fun x=>Ic x y) (l:=a));rw[al] at this;omega
theorem Mt (a b:List bq)(ha:a.length*664<=aV)(hb:b.length*664<=aV)(hn:a.length+b.length<=200000):Ct ae 32 [.c (.t (.sl 75 (a.map bq.enc))),.c (.t (.sl 75 (b.map bq.enc)))] (.c (.t (.sl 75 ((iG a b).map bq.enc)))) [] false:=by
 have uS:=B5 b a;refine cT Tryz.func32 rfl (by kernel_rfl) rfl fun w0 O _=>aEk [] ?_;refine aEm (fun x:Nat × Nat × List bq=>⟨[(0,.c (.t (.sl 75 (a.map bq.enc)))),(1,.c (.t (.sl 75 (b.map bq.enc)))),(5,.c (.row 9000 0)),(6,aEn x.2.1),(7,aEn x.1)],[],[(9000,⟨115,75,0,x.2.2.map bq.enc,none⟩)],10000⟩) (fun x=>x.1<=b.length/\x.2.1<=a.length/\x.2.2++iG (a.drop x.2.1) (b.drop x.1)=iG a b) (fun x=>b.length - x.1) (0,0,[]) ?_ ⟨aA _,aA _,rfl⟩ ?_
 ·refine ba [] rfl rfl ?_ ?_ ?_
  repeat' constructor
 rintro⟨k,i,q⟩ ⟨hk,hi,he⟩;refine aEk [] (cS (fun h=>?_) fun h=>?_)
 ·have fp:k < b.length:=cJ h;have he:q++iG (a.drop i) (b.drop k)=iG a b:=he;refine aEm (fun x:Nat × List bq=>⟨[(0,.c (.t (.sl 75 (a.map bq.enc)))),(1,.c (.t (.sl 75 (b.map bq.enc)))),(5,.c (.row 9000 0)),(6,aEn x.1),(7,aEn k)],[],[(9000,⟨115,75,0,x.2.map bq.enc,none⟩)],20000⟩) (fun x=>x.1<=a.length/\x.2++iG (a.drop x.1) (b.drop k)=iG a b) (fun x=>a.length - x.1) (i,q) ?_ ⟨hi,he⟩ ?_
  ·refine ba [(9000,9000)] rfl rfl ?_ ?_ ?_
   repeat' constructor
  rintro⟨i,q⟩ ⟨hi,he⟩;have he:q++iG (a.drop i) (b.drop k)=iG a b:=he;have hi:i<=a.length:=hi
  have hql:q.length<=200000:=by
   have:=congrArg List.length he;rw[al] at this;omega
  have gP:((q.map bq.enc).length+1)*664<=140737488355328/\(q.map bq.enc).length+1 < 140737488355328:=by
   rw[Lm];omega
  have fu:(∀ hi:i < a.length,Ic a[i] b[k]=false)->(q++[b[k]])++iG (a.drop i) (b.drop (k+1))=iG a b:=fun h=>by
   rw[<- he,cd fp,b9];congr 1
   by_cases qy:i < a.length
   ·rw[cd qy,Zp (h qy)];rfl
   ·rw[List.drop_eq_nil_of_le (by omega),Qd];rfl
  refine aEk [] (cS (fun h1=>?_) fun h1=>?_)
  ·have qy:i < a.length:=cJ h1
   have NU:Ic a[i] b[k]=true->(q++[a[i]])++iG (a.drop (i+1)) (b.drop k)=iG a b:=fun h=>by
    rw[<- he,cd fp,cd qy,U6 h,b9];rfl
   refine Ei i (Ei (a[i].enc) (Ai rfl (Ai (aK _ _ i qy) ?_)));refine Ei k (Ei (b[k].enc) (Ai rfl (Ai (aK _ _ k fp) ?_)));refine cS (fun h2=>?_) fun h2=>?_
   ·have hle:Ic a[i] b[k]=true:=by
     unfold Ic;rw[show decide (a[i].id < b[k].id)=true from h2];rfl
    refine Ei i (Ei (a[i].enc) (Ai rfl (Ai (aK _ _ i qy) ?_)));refine Ai (.inl rfl) (Ai gP.1 (Ai gP.2 ?_));refine Ei (i+1,q++[a[i]]) (Ai ⟨show i+1<=_ by omega,NU hle⟩ (Ai (show a.length - (i+1) < a.length - i by omega) ?_));refine ba [(9000,9000)] rfl rfl ?_ ?_ ?_
    repeat' constructor
    exact cZ i qy 664 (by decide) ha;exact apR
   ·refine Ei i (Ei (a[i].enc) (Ai rfl (Ai (aK _ _ i qy) ?_)));refine Ei k (Ei (b[k].enc) (Ai rfl (Ai (aK _ _ k fp) ?_)));refine cS (fun h3=>?_) fun h3=>?_
    ·refine Ei i (Ei (a[i].enc) (Ai rfl (Ai (aK _ _ i qy) ?_)));refine Ei k (Ei (b[k].enc) (Ai rfl (Ai (aK _ _ k fp) ?_)));refine cS (fun h4=>?_) fun h4=>?_
     ·have hle:Ic a[i] b[k]=true:=by
       unfold Ic;rw[show(a[i].id==b[k].id)=true from h3,show decide (a[i].index<=b[k].index)=true from h4];exact Bool.or_true _
      refine Ei i (Ei (a[i].enc) (Ai rfl (Ai (aK _ _ i qy) ?_)));refine Ai (.inl rfl) (Ai gP.1 (Ai gP.2 ?_));refine Ei (i+1,q++[a[i]]) (Ai ⟨show i+1<=_ by omega,NU hle⟩ (Ai (show a.length - (i+1) < a.length - i by omega) ?_));refine ba [(9000,9000)] rfl rfl ?_ ?_ ?_
      repeat' constructor
      exact cZ i qy 664 (by decide) ha;exact apR
     ·have hle:Ic a[i] b[k]=false:=by
       unfold Ic;rw[show decide (a[i].id < b[k].id)=false from h2,show decide (a[i].index<=b[k].index)=false from h4,Bool.and_false];rfl
      refine Ei k (Ei (b[k].enc) (Ai rfl (Ai (aK _ _ k fp) ?_)));refine Ai (.inl rfl) (Ai gP.1 (Ai gP.2 ?_));refine Ei (k+1,i,q++[b[k]]) (Ai ⟨show k+1<=_ by omega,hi,fu fun _=>hle⟩ (Ai (show b.length - (k+1) < b.length - k by omega) ?_));refine ba [(9000,9000)] rfl rfl ?_ ?_ ?_
      repeat' constructor
      exact cZ k fp 664 (by decide) hb;exact apR
    ·have hle:Ic a[i] b[k]=false:=by
      unfold Ic;rw[show decide (a[i].id < b[k].id)=false from h2,show(a[i].id==b[k].id)=false from h3];rfl
     refine Ei k (Ei (b[k].enc) (Ai rfl (Ai (aK _ _ k fp) ?_)));refine Ai (.inl rfl) (Ai gP.1 (Ai gP.2 ?_));refine Ei (k+1,i,q++[b[k]]) (Ai ⟨show k+1<=_ by omega,hi,fu fun _=>hle⟩ (Ai (show b.length - (k+1) < b.length - k by omega) ?_));refine ba [(9000,9000)] rfl rfl ?_ ?_ ?_
     repeat' constructor
     exact cZ k fp 664 (by decide) hb;exact apR
  ·have qy:=dM h1 hi;refine Ei k (Ei (b[k].enc) (Ai rfl (Ai (aK _ _ k fp) ?_)));refine Ai (.inl rfl) (Ai gP.1 (Ai gP.2 ?_));refine Ei (k+1,i,q++[b[k]]) (Ai ⟨show k+1<=_ by omega,hi,fu fun h=>absurd h (by omega)⟩ (Ai (show b.length - (k+1) < b.length - k by omega) ?_));refine ba [(9000,9000)] rfl rfl ?_ ?_ ?_
   repeat' constructor
   exact cZ k fp 664 (by decide) hb;exact apR
 ·have fp:k=b.length:=dM h hk;have he:q++iG (a.drop i) (b.drop k)=iG a b:=he;rw[fp,List.drop_eq_nil_of_le (ak _),B3] at he;have hi:i<=a.length:=hi
  have hys:((a.map bq.enc).take (a.map bq.enc).length).drop i=(a.drop i).map bq.enc:=by
   rw[bj,List.map_drop]
  have hql:q.length<=200000/\(a.drop i).length<=200000:=by
   have:=congrArg List.length he;rw[al] at this;omega
  have gP:((q.map bq.enc).length+(((a.map bq.enc).take (a.map bq.enc).length).drop i).length)*664<=140737488355328/\(q.map bq.enc).length+(((a.map bq.enc).take (a.map bq.enc).length).drop i).length < 140737488355328:=by
   rw[hys,Lm,Lm];omega
  refine Ei i (Ei (a.map bq.enc).length (Ai rfl (Ai rfl (Ai (by rw[Lm];exact hi) (Ai (ak _) ?_)))));refine Ai (.inl rfl) (Ai gP.1 (Ai gP.2 ?_));refine Ei [] ?_
  repeat' constructor
  show Tr.sl 75 _=Tr.sl 75 (q.map bq.enc++((a.map bq.enc).take (a.map bq.enc).length).drop i);rw[hys,<- he,aQ]
theorem nZ (xs ys:List Int):(gQ xs ys).length<=xs.length:=by
 unfold gQ;refine aX (xt z8 _ []) ?_;rw[bM,bw];exact cE _ _
theorem DJ (c:fZ)(w:aG)(b1:c.before.aa.length<=1000000)(b2:c.after.aa.length<=1000000)(h3:c.ca.length*176<=aV)(h4:c.cg.length*176<=aV)(m3:∀ y∈c.ca,aD.ok y)(m4:∀ y∈c.cg,aD.ok y):Ct ae 71 [.agg (c.enc.map .t),.agg (w.enc.map .t)] (.c (.t (.sl 1 ((gj c w).map eI)))) [] false:=by
 have h1:c.before.aa.length*128<=aV:=by unfold aV;omega
 have h2:c.after.aa.length*128<=aV:=by unfold aV;omega
 have hlen:=jz c.after.aa;generalize hM:gj c w=M;unfold gj at hM;refine cT Tryz.func71 rfl (by kernel_rfl) rfl fun w0 O _=>aEk [4,5,6,7,8,9,10,11,12,13,14,15,16,17,18,19,20,21,22,23,24] ?_;refine cS (fun e=>?_) fun e=>?_
 ·have e:w.aj.aF.when=1:=by simpa using e
  rw[if_pos e] at hM;refine aEk [5,6] (cS (fun e2=>?_) fun e2=>?_)
  ·have e2:(c.e.kind != 2)=true:=e2;rw[e2,cq] at hM;refine cS (fun e3=>?_) fun e3=>?_
   ·have e3:(c.e.kind != 10)=true:=e3;rw[if_pos e3] at hM;subst hM;refine aEk [] (Ei [] ?_)
    repeat' constructor
   ·have e3:(c.e.kind != 10)=false:=e3;rw[e3,if_neg Bool.false_ne_true] at hM;subst hM;refine aEk [] (cF (uZ c.before c.after b1 b2) ⟨fL c.before.enc,fL c.after.enc,ea⟩ ?_);refine cM [0,128] [(3200,0)] (FM (gQ (eN c.after.aa) (eN c.before.aa)) (fun id=>!iP c.after.aa c.cg id w.you w.id w.aj.aF.filter) 132 c w (fun id=>Jk c w h2 h4 m4 id) (by have:=nZ (eN c.after.aa) (eN c.before.aa);unfold aV;omega)) ?_ ?_ ?_
    ·repeat' constructor
    ·repeat' constructor
    refine Ei [] ?_
    repeat' constructor
  ·have e2:(c.e.kind != 2)=false:=e2;rw[e2,cm,if_neg Bool.false_ne_true] at hM;subst hM;refine aEk [] (cF (uZ c.before c.after b1 b2) ⟨fL c.before.enc,fL c.after.enc,ea⟩ ?_);refine cM [0,128] [(3200,0)] (FM (gQ (eN c.after.aa) (eN c.before.aa)) (fun id=>!iP c.after.aa c.cg id w.you w.id w.aj.aF.filter) 132 c w (fun id=>Jk c w h2 h4 m4 id) (by have:=nZ (eN c.after.aa) (eN c.before.aa);unfold aV;omega)) ?_ ?_ ?_
   ·repeat' constructor
   ·repeat' constructor
   refine Ei [] ?_
   repeat' constructor
 have e:¬ w.aj.aF.when=1:=by simpa using e
 rw[if_neg e] at hM;clear e;refine aEk [8,9,10] (cS (fun e=>?_) fun e=>?_)
 ·have e:w.aj.aF.when=2:=by simpa using e
  rw[if_pos e] at hM;refine aEk [9] (cF (Kq c h1 h2) ⟨fL c.enc,ea⟩ ?_);refine cS (fun e2=>?_) fun e2=>?_
  ·rw[if_pos e2] at hM;subst hM;refine aEk [] (cF (qo 2 c.e.aL c.before c.ca c w h1 h3 m3) ⟨rfl,rfl,fL c.before.enc,rfl,⟨⟨rfl,rfl⟩,ea⟩,⟨⟨rfl,rfl⟩,ea⟩,ea⟩ ?_);refine Ei [] ?_
   repeat' constructor
  ·rw[if_neg (by rw[e2];exact Bool.false_ne_true)] at hM;subst hM;refine aEk [] (Ei [] ?_)
   repeat' constructor
 have e:¬ w.aj.aF.when=2:=by simpa using e
 rw[if_neg e] at hM;clear e;refine aEk [11,12,13] (cS (fun e=>?_) fun e=>?_)
 ·have e:w.aj.aF.when=3:=by simpa using e
  rw[if_pos e] at hM;refine aEk [12] (cF (Kq c h1 h2) ⟨fL c.enc,ea⟩ ?_);refine cS (fun e2=>?_) fun e2=>?_
  ·rw[e2,cq] at hM;refine cS (fun e3=>?_) fun e3=>?_
   ·rw[if_pos e3] at hM;subst hM;refine aEk [] (cF (qo 2 c.e.aL c.before c.ca c w h1 h3 m3) ⟨rfl,rfl,fL c.before.enc,rfl,⟨⟨rfl,rfl⟩,ea⟩,⟨⟨rfl,rfl⟩,ea⟩,ea⟩ ?_);refine Ei [] ?_
    repeat' constructor
   ·rw[if_neg (by rw[show(c.e.nk==3)=false from e3];exact Bool.false_ne_true)] at hM;subst hM;refine aEk [] (Ei [] ?_)
    repeat' constructor
  ·rw[e2,cm,if_neg Bool.false_ne_true] at hM;subst hM;refine aEk [] (Ei [] ?_)
   repeat' constructor
 have e:¬ w.aj.aF.when=3:=by simpa using e
 rw[if_neg e] at hM;clear e;refine aEk [14,15] (cS (fun e=>?_) fun e=>?_)
 ·have e:w.aj.aF.when=4:=by simpa using e
  rw[if_pos e] at hM;subst hM;refine aEk [] (cF (qo 12 c.e.aL c.after c.cg c w h2 h4 m4) ⟨rfl,rfl,fL c.after.enc,rfl,⟨⟨rfl,rfl⟩,ea⟩,⟨⟨rfl,rfl⟩,ea⟩,ea⟩ ?_);refine Ei [] ?_
  repeat' constructor
 have e:¬ w.aj.aF.when=4:=by simpa using e
 rw[if_neg e] at hM;clear e;refine aEk [16,17] (cS (fun e=>?_) fun e=>?_)
 ·have e:w.aj.aF.when=5:=by simpa using e
  rw[if_pos e] at hM;subst hM;refine aEk [] (cF (qo 13 c.e.aL c.after c.cg c w h2 h4 m4) ⟨rfl,rfl,fL c.after.enc,rfl,⟨⟨rfl,rfl⟩,ea⟩,⟨⟨rfl,rfl⟩,ea⟩,ea⟩ ?_);refine Ei [] ?_
  repeat' constructor
 have e:¬ w.aj.aF.when=5:=by simpa using e
 rw[if_neg e] at hM;clear e;refine aEk [18,19] (cS (fun e=>?_) fun e=>?_)
 ·have e:w.aj.aF.when=14:=by simpa using e
  rw[if_pos e] at hM;subst hM;refine aEk [] (cF (qo 8 c.e.aL c.after c.cg c w h2 h4 m4) ⟨rfl,rfl,fL c.after.enc,rfl,⟨⟨rfl,rfl⟩,ea⟩,⟨⟨rfl,rfl⟩,ea⟩,ea⟩ ?_);refine Ei [] ?_
  repeat' constructor
 have e:¬ w.aj.aF.when=14:=by simpa using e
 rw[if_neg e] at hM;clear e;refine aEk [20,21] (cS (fun e=>?_) fun e=>?_)
 ·have e:w.aj.aF.when=6:=by simpa using e
  rw[if_pos e] at hM;subst hM;refine aEk [] (cF (qo 1 c.e.dC c.before c.ca c w h1 h3 m3) ⟨rfl,rfl,fL c.before.enc,rfl,⟨⟨rfl,rfl⟩,ea⟩,⟨⟨rfl,rfl⟩,ea⟩,ea⟩ ?_);refine Ei [] ?_
  repeat' constructor
 have e:¬ w.aj.aF.when=6:=by simpa using e
 rw[if_neg e] at hM;clear e;refine aEk [22,23] (cS (fun e=>?_) fun e=>?_)
 ·have e:w.aj.aF.when=7:=by simpa using e
  rw[if_pos e] at hM;refine aEk [23] (cS (fun e2=>?_) fun e2=>?_)
  ·rw[if_pos e2] at hM;subst hM;refine aEk [] (cF (qo 1 c.e.aL c.before c.ca c w h1 h3 m3) ⟨rfl,rfl,fL c.before.enc,rfl,⟨⟨rfl,rfl⟩,ea⟩,⟨⟨rfl,rfl⟩,ea⟩,ea⟩ ?_);refine Ei [] ?_
   repeat' constructor
  ·rw[if_neg (by rw[show(c.e.aL != 0)=false from e2];exact Bool.false_ne_true)] at hM;subst hM;refine aEk [] (Ei [] ?_)
   repeat' constructor
 have e:¬ w.aj.aF.when=7:=by simpa using e
 rw[if_neg e] at hM;subst hM;refine aEk [] (Ei [] ?_)
 repeat' constructor
def l8 (c:eB)(w:bq)(l:List Int):List aP:=(l.filter fun id=>sC c id w).map fun id=>⟨w.id,w.you,w.a,{ c.e with aL:=id }⟩
def ky (c:eB):Bool:=c.e.kind==2||c.e.kind==10
def js (c:eB)(w:bq):List aP:=
 if w.a.aF.when=1 then(if ky c=true then l8 c w c.cG else [])
 else if tM c w||tK c w then [⟨w.id,w.you,w.a,vk c.e (w.a.aF.when==6) c.e.dC⟩] else []
def H7 (c:eB):List bq:=iG ((et c.ca true 0 c.before.aa).map toR) ((et c.cg false 0 c.after.aa).map toR)
def Wg (c:eB):List aP:=(H7 c).flatMap (js c)
theorem FH (c:eB)(w:bq)(l:List Int)(i:Nat)(hi:i < l.length):l8 c w (l.take (i+1))=l8 c w (l.take i)++(if sC c l[i] w=true then [⟨w.id,w.you,w.a,{ c.e with aL:=l[i] }⟩] else []):=by
 unfold l8;rw[aS hi,List.filter_append,aQ];congr 1
 by_cases h:sC c l[i] w=true
 ·rw[if_pos h,show([l[i]].filter fun id=>sC c id w)=[l[i]] by simp[h]];rfl
 ·rw[if_neg h,show([l[i]].filter fun id=>sC c id w)=[] by simp[h]];rfl
theorem CM (c:eB)(w:bq)(l:List Int):(l8 c w l).length<=l.length:=by
 unfold l8;rw[Lm];exact cE _ _
theorem Lr (c:eB)(w:bq):(js c w).length<=c.cG.length+1:=by
 have:=CM c w c.cG;unfold js
 repeat' split
 ·omega
 ·exact aA _
 ·exact Nat.le_add_left _ _
 ·exact aA _
theorem Bv {α:Type}(f:α->Nat)(n:Nat)(h:∀ x,f x<=n):∀ l:List α,(l.map f).sum<=l.length*n
 | []=>aA _
 | x :: r=>by
  rw[bW,List.sum_cons,aZ,Nat.add_mul,Nat.one_mul];have:=Bv f n h r;have:=h x;omega
theorem Sr {X:List aP}{y:aP}:X.map aP.enc++[y.enc]=(X++[y]).map aP.enc:=by rw[aQ];rfl
theorem M7 (c:eB)(hc:c.cG=gQ (eN c.after.aa) (eN c.before.aa))(b1:c.before.aa.length<=4000)(b2:c.after.aa.length<=4000)(hp:c.after.ok)(S5:c.ca.length*176<=aV)(uj:c.cg.length*176<=aV)(Xo:∀ y∈c.ca,aD.ok y)(Qj:∀ y∈c.cg,aD.ok y)(n1:(et c.ca true 0 c.before.aa).length<=100000)(n2:(et c.cg false 0 c.after.aa).length<=100000):Ct ae 14 [.agg (c.before.enc.map .t),.c (.t (.sl 17 (c.ca.map aD.enc))),.agg (c.after.enc.map .t),.c (.t (.sl 17 (c.cg.map aD.enc))),.agg (c.e.enc.map .t)] (.c (.t (.sl 89 ((Wg c).map aP.enc)))) [] false:=by
 have qL:c.before.aa.length*128<=aV:=by unfold aV;omega
 have mX:c.after.aa.length*128<=aV:=by unfold aV;omega
 have hen:Ct ae 31 [.agg (c.before.enc.map .t),.agg (c.after.enc.map .t)] (.c (.t (.sl 1 (c.cG.map eI)))) [] true:=by
  rw[hc];exact sF (Wm c.before c.after (by omega) (by omega))
 have Ra:c.cG.length<=4000:=by
  rw[hc];exact aX (nZ _ _) (aX (jz _) b2)
 have y8:=EJ c.before c.ca true qL S5 Xo n1;have qO:=EJ c.after c.cg false mX uj Qj n2;have hmg:=Mt ((et c.ca true 0 c.before.aa).map toR) ((et c.cg false 0 c.after.aa).map toR) (by rw[Lm];unfold aV;omega) (by rw[Lm];unfold aV;omega) (by rw[Lm,Lm];omega)
 have hLl:(H7 c).length<=200000:=by
  unfold H7;rw[B5,Lm,Lm];omega
 unfold Wg;generalize hLL:H7 c=L at *;unfold H7 at hLL;have NX:L.length*664<=aV:=by unfold aV;omega
 have si:∀ k,((L.take k).flatMap (js c)).length<=200000*4001:=fun k=>by
  rw[List.length_flatMap];refine aX (Bv (fun w=>(js c w).length) 4001 (fun w=>?_) (L.take k)) (cy _ (by rw[au];omega));exact aX (Lr c w) (by omega)
 refine cT Tryz.func14 rfl (by kernel_rfl) rfl fun w0 O _=>aEk [2] ?_;refine cF hen ⟨fL c.before.enc,fL c.after.enc,ea⟩ ?_
 (try refine aEk [] ?_)
 refine cR y8 ⟨fL c.before.enc,rfl,rfl,ea⟩ ?_;refine cR qO ⟨fL c.after.enc,rfl,rfl,ea⟩ ?_;refine cR hmg ⟨rfl,rfl,ea⟩ ?_;rw[hLL];refine aEm (fun k:Nat=>⟨[(1,.c (.t (.sl 17 (c.ca.map aD.enc)))),(3,.c (.t (.sl 17 (c.cg.map aD.enc)))),(5,.ptr 0 0),(7,.ptr 128 0),(9,.ptr 256 0),(11,.ptr 1664 0),(12,.c (.t (.sl 75 (L.map bq.enc)))),(13,.c (.row 9000 0)),(14,aEn k)],[(0,c.before.enc.map .t),(128,c.after.enc.map .t),(256,c.e.enc.map .t),(1664,c.enc.map .t)],[(9000,⟨72,89,0,((L.take k).flatMap (js c)).map aP.enc,none⟩)],10000⟩) (fun k=>k<=L.length) (fun k=>L.length - k) 0 ?_ (aA _) ?_
 ·refine ba [] rfl rfl ?_ ⟨aC _ rfl,aC _ rfl,aC _ rfl,aC _ rfl,ea⟩ ?_
  repeat' constructor
 rintro k hk;refine aEk [7,10,16,17,6] (cS (fun h=>?_) fun h=>?_)
 ·have aU:=cJ h;have hfk:=si k
  have fu:(L.take (k+1)).flatMap (js c)=(L.take k).flatMap (js c)++js c L[k]:=by
   rw[aS aU,List.flatMap_append,List.flatMap_singleton]
  generalize hP:(L.take k).flatMap (js c)=P at *;generalize hw:L[k]=w at *
  (try refine aEk [] ?_)
  refine Ei k (Ei (w.enc) (Ai rfl (Ai (by rw[<- hw];exact aK _ _ k aU) ?_)));refine cS (fun h1=>?_) fun h1=>?_
  ·have h1:w.a.aF.when=1:=by
    have h1:(w.a.aF.when==1)=true:=h1;simpa using h1
   have hW:js c w=if ky c=true then l8 c w c.cG else []:=by
    unfold js;rw[if_pos h1]
   rw[hW] at fu
   (try refine aEk [] ?_)
   have alS:∀ i:Nat,(i=c.cG.length\/ky c=false)->P++(if ky c=true then l8 c w (c.cG.take i) else [])=(L.take (k+1)).flatMap (js c):=fun i hi=>by
    rw[fu];rcases hi with rfl|hi
    ·rw[bj]
    ·rw[hi];rfl
   have uT:=alS 0;refine aEm (fun x:Nat × Int=>⟨[(1,.c (.t (.sl 17 (c.ca.map aD.enc)))),(3,.c (.t (.sl 17 (c.cg.map aD.enc)))),(5,.ptr 0 0),(7,.ptr 128 0),(9,.ptr 256 0),(11,.ptr 1664 0),(12,.c (.t (.sl 75 (L.map bq.enc)))),(13,.c (.row 9000 0)),(14,aEn k),(15,.ptr 11024 0),(16,.ptr 12304 0),(17,aEn x.1)],[(0,c.before.enc.map .t),(128,c.after.enc.map .t),(256,c.e.enc.map .t),(1664,c.enc.map .t),(11024,w.enc.map .t),(12304,(aP.mk w.id w.you w.a { c.e with aL:=x.2 }).enc.map .t)],[(9000,⟨72,89,0,(P++(if ky c=true then l8 c w (c.cG.take x.1) else [])).map aP.enc,none⟩)],20000⟩) (fun x=>x.1<=c.cG.length) (fun x=>c.cG.length - x.1) (0,c.e.aL) ?_ (aA _) ?_
   ·refine ba [(9000,9000)] rfl rfl ?_ ?_ ?_
    ·repeat' constructor
    ·refine⟨aC _ rfl,aC _ rfl,aC _ rfl,aC _ rfl,aC _ rfl,?_,ea⟩
     repeat' constructor
    ·repeat' constructor
     rw[List.take_zero];split
     ·exact congrArg (List.map aP.enc) (aW P).symm
     ·exact congrArg (List.map aP.enc) (aW P).symm
   clear uT;rintro⟨i,o⟩ hi;have hi:i<=c.cG.length:=hi;refine aEk [13] (cS (fun h2=>?_) fun h2=>?_)
   ·have qy:i < c.cG.length:=cJ h2;refine cS (fun h3=>?_) fun h3=>?_
    ·(try refine aEk [] ?_)
     have mI:ky c=true:=by unfold ky;rw[show(c.e.kind==2)=true from h3];rfl
     have xz:=FH c w c.cG i qy;refine Ei i (Ei (eI c.cG[i]) (Ai rfl (Ai (aK _ _ i qy) ?_)));refine cF (j5 c.after c.cg c.cG[i] w mX uj Qj) ⟨fL c.after.enc,rfl,rfl,fL w.enc,ea⟩ ?_;refine cS (fun hf=>?_) fun hf=>?_
     ·have hf:sC c c.cG[i] w=true:=hf;rw[if_pos hf] at xz
      have gP:(((P++(if ky c=true then l8 c w (c.cG.take i) else [])).map aP.enc).length+1)*768<=140737488355328/\((P++(if ky c=true then l8 c w (c.cG.take i) else [])).map aP.enc).length+1 < 140737488355328:=by
       have h1:=CM c w (c.cG.take i);rw[au] at h1;rw[Lm,al,if_pos mI];omega
      have pQ:(P++(if ky c=true then l8 c w (c.cG.take i) else [])).map aP.enc++[(aP.mk w.id w.you w.a { c.e with aL:=c.cG[i] }).enc]=(P++(if ky c=true then l8 c w (c.cG.take (i+1)) else [])).map aP.enc:=by
       rw[if_pos mI,if_pos mI,xz];exact Sr.trans (congrArg (List.map aP.enc) (b9 _ _ _))
      have pQ:(P++(if ky c=true then l8 c w (c.cG.take i) else [])).map aP.enc++[(aP.mk w.id w.you w.a { c.e with aL:=c.cG[i] }).enc]=(P++(if ky c=true then l8 c w (c.cG.take (i+1)) else [])).map aP.enc:=by
       rw[if_pos mI,if_pos mI,xz];exact Sr.trans (congrArg (List.map aP.enc) (b9 _ _ _))
      (try refine aEk [] ?_)
      refine Ei i (Ei (eI c.cG[i]) (Ai rfl (Ai (aK _ _ i qy) ?_)));refine Ai (.inl rfl) (Ai gP.1 (Ai gP.2 ?_));refine Ei (i+1,c.cG[i]) (Ai (show i+1<=_ by omega) (Ai (show c.cG.length - (i+1) < c.cG.length - i by omega) ?_));refine ba [(9000,9000)] rfl rfl ?_ ⟨aC _ rfl,aC _ rfl,aC _ rfl,aC _ rfl,aC _ rfl,aC _ rfl,ea⟩ ?_
      repeat' constructor
      exact cZ i qy 8 (by decide) (by unfold aV;omega);exact pQ
     ·have hf:sC c c.cG[i] w=false:=hf;rw[if_neg (by rw[hf];decide),aW] at xz
      (try refine aEk [] ?_)
      refine Ei (i+1,o) (Ai (show i+1<=_ by omega) (Ai (show c.cG.length - (i+1) < c.cG.length - i by omega) ?_));refine ba [(9000,9000)] rfl rfl ?_ ⟨aC _ rfl,aC _ rfl,aC _ rfl,aC _ rfl,aC _ rfl,aC _ rfl,ea⟩ ?_
      repeat' first|refine Ai ?_ ?_|exact rfl|exact⟨⟩|exact Ei _ rfl|refine cL ?_|refine bS ?_
      exact cZ i qy 8 (by decide) (by unfold aV;omega);rw[if_pos mI,if_pos mI,xz]
    ·refine cS (fun h4=>?_) fun h4=>?_
     ·(try refine aEk [] ?_)
      have mI:ky c=true:=by unfold ky;rw[show(c.e.kind==10)=true from h4];exact Bool.or_true _
      have xz:=FH c w c.cG i qy;refine Ei i (Ei (eI c.cG[i]) (Ai rfl (Ai (aK _ _ i qy) ?_)));refine cF (j5 c.after c.cg c.cG[i] w mX uj Qj) ⟨fL c.after.enc,rfl,rfl,fL w.enc,ea⟩ ?_;refine cS (fun hf=>?_) fun hf=>?_
      ·have hf:sC c c.cG[i] w=true:=hf;rw[if_pos hf] at xz
       have gP:(((P++(if ky c=true then l8 c w (c.cG.take i) else [])).map aP.enc).length+1)*768<=140737488355328/\((P++(if ky c=true then l8 c w (c.cG.take i) else [])).map aP.enc).length+1 < 140737488355328:=by
        have h1:=CM c w (c.cG.take i);rw[au] at h1;rw[Lm,al,if_pos mI];omega
       have pQ:(P++(if ky c=true then l8 c w (c.cG.take i) else [])).map aP.enc++[(aP.mk w.id w.you w.a { c.e with aL:=c.cG[i] }).enc]=(P++(if ky c=true then l8 c w (c.cG.take (i+1)) else [])).map aP.enc:=by
        rw[if_pos mI,if_pos mI,xz];exact Sr.trans (congrArg (List.map aP.enc) (b9 _ _ _))
       have pQ:(P++(if ky c=true then l8 c w (c.cG.take i) else [])).map aP.enc++[(aP.mk w.id w.you w.a { c.e with aL:=c.cG[i] }).enc]=(P++(if ky c=true then l8 c w (c.cG.take (i+1)) else [])).map aP.enc:=by
        rw[if_pos mI,if_pos mI,xz];exact Sr.trans (congrArg (List.map aP.enc) (b9 _ _ _))
       (try refine aEk [] ?_)
       refine Ei i (Ei (eI c.cG[i]) (Ai rfl (Ai (aK _ _ i qy) ?_)));refine Ai (.inl rfl) (Ai gP.1 (Ai gP.2 ?_));refine Ei (i+1,c.cG[i]) (Ai (show i+1<=_ by omega) (Ai (show c.cG.length - (i+1) < c.cG.length - i by omega) ?_));refine ba [(9000,9000)] rfl rfl ?_ ⟨aC _ rfl,aC _ rfl,aC _ rfl,aC _ rfl,aC _ rfl,aC _ rfl,ea⟩ ?_
       repeat' constructor
       exact cZ i qy 8 (by decide) (by unfold aV;omega);exact pQ
      ·have hf:sC c c.cG[i] w=false:=hf;rw[if_neg (by rw[hf];decide),aW] at xz
       (try refine aEk [] ?_)
       refine Ei (i+1,o) (Ai (show i+1<=_ by omega) (Ai (show c.cG.length - (i+1) < c.cG.length - i by omega) ?_));refine ba [(9000,9000)] rfl rfl ?_ ⟨aC _ rfl,aC _ rfl,aC _ rfl,aC _ rfl,aC _ rfl,aC _ rfl,ea⟩ ?_
       repeat' first|refine Ai ?_ ?_|exact rfl|exact⟨⟩|exact Ei _ rfl|refine cL ?_|refine bS ?_
       exact cZ i qy 8 (by decide) (by unfold aV;omega);rw[if_pos mI,if_pos mI,xz]
     ·have HX:i=c.cG.length\/ky c=false:=.inr (by
       unfold ky;rw[show(c.e.kind==2)=false from h3,show(c.e.kind==10)=false from h4];rfl)
      (try refine aEk [] ?_)
      refine Ei (k+1) (Ai (show k+1<=_ by omega) (Ai (show L.length - (k+1) < L.length - k by omega) ?_));refine ba [(9000,9000)] rfl rfl ?_ ⟨aC _ rfl,aC _ rfl,aC _ rfl,aC _ rfl,ea⟩ ?_
      repeat' constructor
      exact cZ k aU 664 (by decide) NX;exact congrArg (List.map aP.enc) (alS i HX)
   ·have HX:i=c.cG.length\/ky c=false:=.inl (dM h2 hi)
    (try refine aEk [] ?_)
    refine Ei (k+1) (Ai (show k+1<=_ by omega) (Ai (show L.length - (k+1) < L.length - k by omega) ?_));refine ba [(9000,9000)] rfl rfl ?_ ⟨aC _ rfl,aC _ rfl,aC _ rfl,aC _ rfl,ea⟩ ?_
    repeat' constructor
    exact cZ k aU 664 (by decide) NX;exact congrArg (List.map aP.enc) (alS i HX)
  ·have h1:¬ w.a.aF.when=1:=by
    have h1:(w.a.aF.when==1)=false:=h1;simpa using h1
   have hW:js c w=if tM c w||tK c w then [⟨w.id,w.you,w.a,vk c.e (w.a.aF.when==6) c.e.dC⟩] else []:=by
    unfold js;rw[if_neg h1]
   rw[hW] at fu
   (try refine aEk [] ?_)
   refine cF (LI c w qL mX S5 uj Xo Qj) ⟨fL c.enc,fL w.enc,ea⟩ ?_
   have gP:((P.map aP.enc).length+1)*768<=140737488355328/\(P.map aP.enc).length+1 < 140737488355328:=by
    rw[Lm];omega
   have VX:∀ b:Bool,(w.a.aF.when==6)=b->(tM c w||tK c w)=true->P.map aP.enc++[(aP.mk w.id w.you w.a (vk c.e b c.e.dC)).enc]=((L.take (k+1)).flatMap (js c)).map aP.enc:=fun b hb ho=>by
    rw[fu,if_pos ho,hb];exact Sr
   have fk:(tM c w||tK c w)=false->P.map aP.enc=((L.take (k+1)).flatMap (js c)).map aP.enc:=fun ho=>by
    rw[fu,ho,if_neg (by decide),aW]
   refine cj (cS (fun ho=>?_) fun ho=>?_)
   ·have Q3:(tM c w||tK c w)=true:=by rw[show tM c w=true from ho];rfl
    (try refine aEk [] ?_)
    refine cS (fun h6=>?_) fun h6=>?_
    ·(try refine aEk [] ?_)
     refine Ai (.inl rfl) (Ai gP.1 (Ai gP.2 ?_))
     (try refine aEk [] ?_)
     refine Ei (k+1) (Ai (show k+1<=_ by omega) (Ai (show L.length - (k+1) < L.length - k by omega) ?_));refine ba [(9000,9000)] rfl rfl ?_ ⟨aC _ rfl,aC _ rfl,aC _ rfl,aC _ rfl,ea⟩ ?_
     repeat' constructor
     exact cZ k aU 664 (by decide) NX;exact VX true h6 Q3
    ·refine Ai (.inl rfl) (Ai gP.1 (Ai gP.2 ?_))
     (try refine aEk [] ?_)
     refine Ei (k+1) (Ai (show k+1<=_ by omega) (Ai (show L.length - (k+1) < L.length - k by omega) ?_));refine ba [(9000,9000)] rfl rfl ?_ ⟨aC _ rfl,aC _ rfl,aC _ rfl,aC _ rfl,ea⟩ ?_
     repeat' constructor
     exact cZ k aU 664 (by decide) NX;exact VX false h6 Q3
   ·refine cF (O4 c w qL mX S5 uj Xo Qj hp) ⟨fL c.enc,fL w.enc,ea⟩ ?_;refine cj (cS (fun ht=>?_) fun ht=>?_)
    ·have Q3:(tM c w||tK c w)=true:=by rw[show tK c w=true from ht];exact Bool.or_true _
     (try refine aEk [] ?_)
     refine cS (fun h6=>?_) fun h6=>?_
     ·(try refine aEk [] ?_)
      refine Ai (.inl rfl) (Ai gP.1 (Ai gP.2 ?_))
      (try refine aEk [] ?_)
      refine Ei (k+1) (Ai (show k+1<=_ by omega) (Ai (show L.length - (k+1) < L.length - k by omega) ?_));refine ba [(9000,9000)] rfl rfl ?_ ⟨aC _ rfl,aC _ rfl,aC _ rfl,aC _ rfl,ea⟩ ?_
      repeat' constructor
      exact cZ k aU 664 (by decide) NX;exact VX true h6 Q3
     ·refine Ai (.inl rfl) (Ai gP.1 (Ai gP.2 ?_))
      (try refine aEk [] ?_)
      refine Ei (k+1) (Ai (show k+1<=_ by omega) (Ai (show L.length - (k+1) < L.length - k by omega) ?_));refine ba [(9000,9000)] rfl rfl ?_ ⟨aC _ rfl,aC _ rfl,aC _ rfl,aC _ rfl,ea⟩ ?_
      repeat' constructor
      exact cZ k aU 664 (by decide) NX;exact VX false h6 Q3
    ·have Q3:(tM c w||tK c w)=false:=by rw[show tM c w=false from ho,show tK c w=false from ht];rfl
     (try refine aEk [] ?_)
     refine Ei (k+1) (Ai (show k+1<=_ by omega) (Ai (show L.length - (k+1) < L.length - k by omega) ?_));refine ba [(9000,9000)] rfl rfl ?_ ⟨aC _ rfl,aC _ rfl,aC _ rfl,aC _ rfl,ea⟩ ?_
     repeat' constructor
     exact cZ k aU 664 (by decide) NX;exact fk Q3
 ·have fp:=dM h hk;subst fp;refine Ei [] ?_
  repeat' constructor
  rw[bj];exact rfl
theorem DK (c:fZ)(w:aG):(gj c w).length<=c.after.aa.length+1:=by
 have h1:∀ k kk id s all,(qp k kk id s all w).length<=1:=fun k kk id s all=>by
  unfold qp;split
  ·exact ak _
  ·exact aA _
 unfold gj
 repeat' split
 all_goals first
  | exact aA _
  | exact aX (h1 _ _ _ _ _) (Nat.le_add_left _ _)
  | (refine aX (cE _ _) (aX (nZ _ _) (aX (jz _) (Nat.le_succ _))))
theorem apW {X:List aP}{y:aP}:X.map aP.enc++[y.enc]=(X++[y]).map aP.enc:=by rw[aQ];rfl
theorem GF (c:fZ)(w:aG)(hw:w.aj.ok)(b1:c.before.aa.length<=1000000)(b2:c.after.aa.length<=1000000)(hp:c.after.ok)(h3:c.ca.length*176<=aV)(h4:c.cg.length*176<=aV)(m3:∀ y∈c.ca,aD.ok y)(m4:∀ y∈c.cg,aD.ok y):Ct ae 30 [.agg (c.enc.map .t),.agg (w.enc.map .t)] (.c (.t (.sl 89 ((gz c w).map aP.enc)))) [] false:=by
 have h2:c.after.aa.length*128<=aV:=by unfold aV;omega
 have hcp:=xO w.aj hw;have Z8:=DK c w;have Z6:=DJ c w b1 b2 h3 h4 m3 m4;generalize hM:gz c w=M;unfold gz at hM;have hbx:∀ b:Bool,(aEo b:AV)=aEo b:=fun _=>rfl;refine cT Tryz.func30 rfl (by kernel_rfl) rfl fun w0 O _=>aEk [4,5,6,7,8,9,10,11,12,13,14,15,16,17,19] ?_;refine cR hcp ⟨fL w.aj.enc,ea⟩ ?_;refine cF (ZB w.aj.aF.when) ⟨rfl,ea⟩ ?_;refine aEk [5,6,9] (cS (fun e=>?_) fun e=>?_)
 ·have e:vi w.aj.aF.when≠0:=by simpa using e
  rw[if_pos e] at hM;refine aEk [6] ?_;have fin:∀ (p:Bool),p=(c.e.kind==vi w.aj.aF.when&&kD c.after.aw c.e.bK w.you w.aj.aF.j7)->M=(if p&&!(w.aj.aF.when==9&&!iP c.after.aa c.cg c.e.aL w.you w.id w.aj.aF.filter) then [⟨w.id,w.you,w.aj,c.e⟩] else []):=fun p h=>by rw[h];exact hM.symm
  refine cS (fun e1=>?_) fun e1=>?_
  ·refine cF (U7 c.after c.e.bK w.you w.aj.aF.j7 hp) ⟨fL c.after.enc,rfl,rfl,rfl,ea⟩ ?_;have e1:(c.e.kind==vi w.aj.aF.when)=true:=e1;rw[e1,cq] at fin;refine aEk [7,8] (cj (cS (fun e2=>?_) fun e2=>?_))
   ·have fin:=fin _ rfl;rw[e2,cq] at fin;refine cS (fun e3=>?_) fun e3=>?_
    ·have e3:(w.aj.aF.when==9)=true:=e3;rw[e3,cq] at fin;refine cF (CF c.after c.cg w c.e.aL h2 h4 m4) ⟨fL c.after.enc,rfl,fL w.enc,rfl,ea⟩ ?_;refine cj (cS (fun e4=>?_) fun e4=>?_)
     ·rw[e4] at fin;have fin:M=[⟨w.id,w.you,w.aj,c.e⟩]:=fin;subst fin;refine aEk [] (Ei [] ?_)
      repeat' constructor
     ·rw[e4] at fin;have fin:M=[]:=fin;subst fin;refine aEk [] (Ei [] ?_)
      repeat' constructor
    ·have e3:(w.aj.aF.when==9)=false:=e3;rw[e3] at fin;have fin:M=[⟨w.id,w.you,w.aj,c.e⟩]:=fin;subst fin;refine aEk [] (Ei [] ?_)
     repeat' constructor
   ·have fin:=fin _ rfl;rw[e2] at fin;have fin:M=[]:=fin;subst fin;refine aEk [] (Ei [] ?_)
    repeat' constructor
  ·have e1:(c.e.kind==vi w.aj.aF.when)=false:=e1;rw[e1] at fin;have fin:=fin _ rfl;have fin:M=[]:=fin;subst fin;refine aEk [7,8] (aEk [] (Ei [] ?_))
   repeat' constructor
 have e:¬ vi w.aj.aF.when≠0:=by simpa using e
 rw[if_neg e] at hM;clear e;subst hM;refine aEk [] (aEk [] (cR Z6 ⟨fL c.enc,fL w.enc,ea⟩ ?_));refine aEm (fun k:Nat=>⟨[(3,.ptr 128 0),(5,.ptr 1664 0),(6,.ptr 2304 0),(9,.c (.row 9000 0)),(71,.c (.t (.sl 1 ((gj c w).map eI)))),(72,aEn ((gj c w).map eI).length),(73,aEn k)],[(128,w.enc.map .t),(1664,(aP.mk w.id w.you w.aj c.e).enc.map .t),(2304,w.aj.aF.enc.map .t)],[(9000,⟨72,89,0,(((gj c w).take k).map fun id=>aP.mk w.id w.you w.aj (vk c.e (w.aj.aF.when==1||w.aj.aF.when==6) id)).map aP.enc,none⟩)],10000⟩) (fun k=>k<=(gj c w).length) (fun k=>(gj c w).length - k) 0 ?_ (aA _) ?_
 ·refine ba [] rfl rfl ?_ ⟨aC _ rfl,aC _ rfl,aC _ rfl,ea⟩ ?_
  repeat' constructor
 rintro k hk;refine aEk [16,17,18] (cS (fun h=>?_) fun h=>?_)
 ·have aU:=cJ h
  have gP:(((((gj c w).take k).map fun id=>aP.mk w.id w.you w.aj (vk c.e (w.aj.aF.when==1||w.aj.aF.when==6) id)).map aP.enc).length+1)*768<=140737488355328/\((((gj c w).take k).map fun id=>aP.mk w.id w.you w.aj (vk c.e (w.aj.aF.when==1||w.aj.aF.when==6) id)).map aP.enc).length+1 < 140737488355328:=by
   rw[Lm,Lm,au];omega
  have hsu:(gj c w).length*8<=aV:=by unfold aV;omega
  have fu:∀ b,b=(w.aj.aF.when==1||w.aj.aF.when==6)->(((gj c w).take k).map fun id=>aP.mk w.id w.you w.aj (vk c.e (w.aj.aF.when==1||w.aj.aF.when==6) id)).map aP.enc++[(aP.mk w.id w.you w.aj (vk c.e b (gj c w)[k])).enc]=(((gj c w).take (k+1)).map fun id=>aP.mk w.id w.you w.aj (vk c.e (w.aj.aF.when==1||w.aj.aF.when==6) id)).map aP.enc:=fun b hb=>by
   rw[apW,hb,aS aU,aQ (l₁:=List.take k (gj c w))];rfl
  refine Ei k (Ei (eI (gj c w)[k]) (Ai rfl (Ai (aK _ _ k aU) ?_)));refine cR hcp ⟨fL w.aj.enc,ea⟩ ?_;refine cS (fun e1=>?_) fun e1=>?_
  ·have fu:=fu true (by rw[show(w.aj.aF.when==1)=true from e1];rfl);refine aEk [] (aEk [] (Ai (.inl rfl) (Ai gP.1 (Ai gP.2 ?_))));refine aEk [] (Ei (k+1) (Ai (show k+1<=_ by omega) (Ai (show(gj c w).length - (k+1) < (gj c w).length - k by omega) ?_)));refine ba [(9000,9000)] rfl rfl ?_ ⟨aC _ rfl,aC _ rfl,aC _ rfl,ea⟩ ?_
   repeat' constructor
   exact cZ k aU 8 (by decide) hsu;exact fu
  ·have e1:(w.aj.aF.when==1)=false:=e1;refine cS (fun e2=>?_) fun e2=>?_
   ·have fu:=fu true (by rw[e1,show(w.aj.aF.when==6)=true from e2];rfl);refine aEk [] (aEk [] (Ai (.inl rfl) (Ai gP.1 (Ai gP.2 ?_))));refine aEk [] (Ei (k+1) (Ai (show k+1<=_ by omega) (Ai (show(gj c w).length - (k+1) < (gj c w).length - k by omega) ?_)));refine ba [(9000,9000)] rfl rfl ?_ ⟨aC _ rfl,aC _ rfl,aC _ rfl,ea⟩ ?_
    repeat' constructor
    exact cZ k aU 8 (by decide) hsu;exact fu
   ·have fu:=fu false (by rw[e1,show(w.aj.aF.when==6)=false from e2];rfl);refine aEk [] (Ai (.inl rfl) (Ai gP.1 (Ai gP.2 ?_)));refine aEk [] (Ei (k+1) (Ai (show k+1<=_ by omega) (Ai (show(gj c w).length - (k+1) < (gj c w).length - k by omega) ?_)));refine ba [(9000,9000)] rfl rfl ?_ ⟨aC _ rfl,aC _ rfl,aC _ rfl,ea⟩ ?_
    repeat' constructor
    exact cZ k aU 8 (by decide) hsu;exact fu
 ·have fp:=dM h hk;subst fp;refine aEk [] (Ei [] ?_)
  repeat' constructor
  rw[bj];exact rfl
attribute [local irreducible] gg
theorem K2 {α:Type}{l:List α}{x:α}{r:List α}{k:Nat}(h:l.drop k=x :: r):∃ hk:k < l.length,l[k]=x/\l.drop (k+1)=r:=by
 have hk:k < l.length:=by
  by_cases hk:k < l.length
  ·exact hk
  ·rw[List.drop_eq_nil_of_le (by omega)] at h
   cases h
 refine⟨hk,?_⟩;rw[cd hk] at h;injection h with h1 h2;exact⟨h1,h2⟩
theorem drop_nil {α:Type}{l:List α}{k:Nat}(h:l.drop k=[])(hk:k<=l.length):k=l.length:=by
 have:=List.drop_eq_nil_iff.1 h;omega
theorem Dn (s:aq)(all:List aD)(e:Bool)(hs:s.aa.length*128<=aV)(iN:all.length*176<=aV)(tT:∀ y∈all,aD.ok y):Sq ae 62 [.dL s.enc 0,.dL [.sl 17 (all.map aD.enc)] 0,.dL [bv e] 0] ((et all e 0 s.aa).map fun w=>.agg (w.enc.map .t)):=by
 generalize hW:et all e 0 s.aa=ws;refine afN Tryz.func62 rfl (enters_of Tryz.func62 (by kernel_rfl) rfl) tabOk (by kernel_rfl) rfl rfl fun l J n0 E0 hJ hR=>?_
 have XP:∀ (k:Nat) (w:aG) (r:List aG),ws.drop k=w :: r->NI ae l J n0 E0 k (.agg (w.enc.map .t))/\ws.drop (k+1)=r:=fun k w r h=>by
  obtain⟨hk,h1,h2⟩:=K2 h;have:=hR k (by rw[Lm];exact hk);rw[List.getElem_map,h1] at this;exact⟨this,h2⟩
 refine gg.seq (gg.zE hJ fun w0 O _=>aEk [] ?_);refine gg.block (gg.loop (α:=Nat × Nat) hJ (fun x=>⟨[(0,.c (.t (.lit (.func (.yield l) #[] #[])))),(1,.dL s.enc 0),(2,.dL [.sl 17 (all.map aD.enc)] 0),(3,.dL [bv e] 0),(11,.c (.t (.sl 19 (s.aa.map az.enc)))),(12,aEn (s.aa.map az.enc).length),(13,aEn x.1)],[],[],10000⟩) (fun x=>x.2) (fun x=>x.1<=s.aa.length/\x.2<=ws.length/\ws.drop x.2=et all e x.1 (s.aa.drop x.1)) (fun x=>s.aa.length - x.1) (0,0) ?_ rfl ⟨aA _,aA _,hW.symm⟩ ?_)
 ·refine ba [] rfl rfl ?_ ?_ ?_
  repeat' constructor
 rintro⟨i,c⟩ ⟨hi,hc,hd⟩;refine gg.seq (gg.zE hJ fun w0 O _=>aEk [] ?_);refine gg.seq (gg.cond (t:=decide ((i:Int) < ((s.aa.map az.enc).length:Int))) rfl (fun h=>gg.skip ?_) fun h=>gg.exit ?_)
 ·have aU:=cJ h;have Iv:i < s.aa.length:=aU;rw[cd aU] at hd;have hd:ws.drop c=tj all e i s.aa[i]++et all e (i+1) (s.aa.drop (i+1)):=hd;unfold tj at hd;have Aq:=tu tT i;refine gg.seq (gg.block (gg.seq (gg.zE hJ fun w0 O _=>aEk [] ?_)));refine Ei i (Ei (s.aa[i].enc) (Ai rfl (Ai (aK _ _ i aU) ?_)));refine gg.seq (gg.seq (gg.zE hJ fun w0 O _=>aEk [] ?_));refine gg.cond (t:=s.aa[i].cn != 0) rfl (fun h=>gg.exit ?_) fun h=>gg.skip ?_
  ·have hz:(s.aa[i].cn==0)=false:=by simpa using h
   rw[hz,if_neg (by decide),bE] at hd;refine gg.zE hJ fun w0 O _=>aEk [] ?_;refine Ei (i+1,c) (Ai ⟨Iv,hc,hd⟩ (Ai rfl (Ai (show s.aa.length - (i+1) < s.aa.length - i by omega) ?_)));refine ba [] rfl rfl ?_ ?_ ?_
   ·repeat' constructor
    exact cZ i aU 128 (by decide) hs
   repeat' constructor
  ·have hz:(s.aa[i].cn==0)=true:=by simpa using h
   rw[hz,if_pos rfl] at hd;refine gg.seq (gg.zE hJ fun w0 O _=>aEk [] ?_);refine cR (zn all i iN) ⟨rfl,rfl,ea⟩ ?_;refine gg.seq (gg.zE hJ fun w0 O _=>aEk [] ?_);refine gg.block (gg.loop (α:=Nat × Nat) hJ (fun x=>⟨[(0,.c (.t (.lit (.func (.yield l) #[] #[])))),(1,.dL s.enc 0),(2,.dL [.sl 17 (all.map aD.enc)] 0),(3,.dL [bv e] 0),(11,.c (.t (.sl 19 (s.aa.map az.enc)))),(12,aEn (s.aa.map az.enc).length),(13,aEn i),(6,.ptr 10512 0),(7,.ptr 11664 0),(25,.c (.t (.sl 72 ((eP all i).aI.map bJ.enc)))),(26,aEn ((eP all i).aI.map bJ.enc).length),(27,aEn x.1)],[(10512,s.aa[i].enc.map .t),(11664,(eP all i).enc.map .t)],[],20000⟩) (fun x=>x.2) (fun x=>x.1<=(eP all i).aI.length/\x.2<=ws.length/\ws.drop x.2=jr s.aa[i].id (eP all i).dB e x.1 ((eP all i).aI.drop x.1)++et all e (i+1) (s.aa.drop (i+1))) (fun x=>(eP all i).aI.length - x.1) (0,c) ?_ rfl ⟨aA _,hc,hd⟩ ?_)
   ·refine ba [] rfl rfl ?_ ?_ ?_
    repeat' constructor
   rintro⟨j,c2⟩ ⟨hj,nv,xA⟩;refine gg.seq (gg.zE hJ fun w0 O _=>aEk [] ?_);refine gg.seq (gg.cond (t:=decide ((j:Int) < (((eP all i).aI.map bJ.enc).length:Int))) rfl (fun h=>gg.skip ?_) fun h=>gg.exit ?_)
   ·have NT:=cJ h;have aaN:j < (eP all i).aI.length:=NT;rw[cd NT] at xA;have xA:ws.drop c2=((if (eP all i).aI[j].kind==4&&tX (eP all i).aI[j].aF.when==e then [⟨s.aa[i].id,j,(eP all i).dB,(eP all i).aI[j],e⟩] else [])++jr s.aa[i].id (eP all i).dB e (j+1) ((eP all i).aI.drop (j+1)))++et all e (i+1) (s.aa.drop (i+1)):=xA;refine gg.seq (gg.block (gg.seq (gg.zE hJ fun w0 O _=>aEk [] ?_)));refine Ei j (Ei ((eP all i).aI[j].enc) (Ai rfl (Ai (aK _ _ j NT) ?_)));refine gg.seq (gg.seq (gg.zE hJ fun w0 O _=>aEk [] ?_));have nx:∀ {st:St},True:=trivial;refine cS (fun h1=>?_) fun h1=>?_
    ·have hk:((eP all i).aI[j].kind==4)=false:=by simpa using h1
     rw[hk,cm,if_neg (by decide),bE] at xA;refine gg.cond (t:=true) rfl (fun h=>gg.exit ?_) (fun h=>by cases h);refine gg.zE hJ fun w0 O _=>aEk [] ?_;refine Ei (j+1,c2) (Ai ⟨aaN,nv,xA⟩ (Ai rfl (Ai (show(eP all i).aI.length - (j+1) < (eP all i).aI.length - j by omega) ?_)));refine ba [] rfl rfl ?_ ?_ ?_
     ·repeat' constructor
      exact cZ j NT 640 (by decide) Aq.2.2.1
     repeat' constructor
    ·have hk:((eP all i).aI[j].kind==4)=true:=by simpa using h1
     rw[hk,cq] at xA;refine cF (My (eP all i).aI[j].aF.when) ⟨rfl,ea⟩ ?_;refine gg.cond (t:=tX (eP all i).aI[j].aF.when != e) rfl (fun h=>gg.exit ?_) fun h=>gg.skip ?_
     ·have hk:(tX (eP all i).aI[j].aF.when==e)=false:=by simpa using h
      rw[hk,if_neg (by decide),bE] at xA;refine gg.zE hJ fun w0 O _=>aEk [] ?_;refine Ei (j+1,c2) (Ai ⟨aaN,nv,xA⟩ (Ai rfl (Ai (show(eP all i).aI.length - (j+1) < (eP all i).aI.length - j by omega) ?_)));refine ba [] rfl rfl ?_ ?_ ?_
      ·repeat' constructor
       exact cZ j NT 640 (by decide) Aq.2.2.1
      repeat' constructor
     ·have hk:(tX (eP all i).aI[j].aF.when==e)=true:=by simpa using h
      rw[hk,if_pos rfl,b9] at xA;obtain⟨hy,hd3⟩:=XP c2 _ _ xA
      have VV:c2+1<=ws.length:=by
       obtain⟨hk,_⟩:=K2 xA;exact hk
      refine gg.seq (gg.X8 9 hJ hy rfl ?_);refine Ai rfl (Ai (Ai rfl (Ai rfl ?_)) ?_)
      ·repeat' constructor
      refine gg.cond (t:=false) rfl (fun h=>by cases h) fun _=>gg.skip ?_;refine gg.zE hJ fun w0 O _=>aEk [] ?_;refine Ei (j+1,c2+1) (Ai ⟨aaN,VV,hd3⟩ (Ai rfl (Ai (show(eP all i).aI.length - (j+1) < (eP all i).aI.length - j by omega) ?_)));refine ba [] rfl rfl ?_ ?_ ?_
      ·repeat' constructor
       exact cZ j NT 640 (by decide) Aq.2.2.1
      repeat' constructor
   ·have ui:=dM h hj;subst ui;rw[List.drop_eq_nil_of_le (ak _)] at xA;have xA:ws.drop c2=et all e (i+1) (s.aa.drop (i+1)):=xA;refine gg.zE hJ fun w0 O _=>aEk [] ?_;refine Ei (i+1,c2) (Ai ⟨Iv,nv,xA⟩ (Ai rfl (Ai (show s.aa.length - (i+1) < s.aa.length - i by omega) ?_)));refine ba [] rfl rfl ?_ ?_ ?_
    ·repeat' constructor
     exact cZ i aU 128 (by decide) hs
    repeat' constructor
 ·have ui:=dM h hi;subst ui;rw[List.drop_eq_nil_of_le (ak _)] at hd;have nv:=drop_nil (show ws.drop c=[] from hd) hc;refine Ai (Ei [] (Ai rfl (Ai ea ?_))) (by rw[Lm];exact nv)
  repeat' constructor
theorem sX (s:aq)(all:List aD)(e:Bool):Ct ae 25 [.agg (s.enc.map .t),.c (.t (.sl 17 (all.map aD.enc))),.c (.t (bv e))] (.lL 62 [(s.enc,0),([.sl 17 (all.map aD.enc)],0),([bv e],0)]) [] false:=by
 refine acG Tryz.func25 rfl (enters_of Tryz.func25 (by kernel_rfl) rfl) tabOk (by kernel_rfl) rfl rfl rfl fun w0 O _=>aEk [] ?_;refine Ai rfl ?_;exact⟨⟨rfl,wN s.enc⟩,⟨rfl,rfl⟩,⟨rfl,rfl⟩,ea⟩
theorem ET (a:Int):Ct ae 66 [.c (.t (iv a))] (aEo false) [] true:=by
 have key:Ct ae 66 [.c (.t (iv a))] (aEo (a != a)) [] true:=by
  refine aEs (b:=false) ?_ rfl;refine cT Tryz.func66 rfl (by kernel_rfl) rfl fun w0 O _=>aEk [] ?_;refine Ei [] (Ai rfl (Ai ea ?_));exact rfl
 rw[show(a != a)=false by simp] at key;exact key
theorem xS (a b:Int):Ct ae 29 [.c (.t (iv a)),.c (.t (iv b))] (aEn (CW a b)) [] true:=by
 refine aEs (b:=false) ?_ rfl;have h1:=ET a;have h2:=ET b;generalize hz:CW a b=z;unfold CW at hz;refine cT Tryz.func29 rfl (by kernel_rfl) rfl fun w0 O _=>aEk [] ?_;refine cF h1 ⟨rfl,ea⟩ ?_;refine cF h2 ⟨rfl,ea⟩ ?_;refine cS (fun h=>?_) fun h=>?_
 ·rw[if_pos (of_decide_eq_true h)] at hz;subst hz;refine Ei [] ?_
  repeat' constructor
 ·rw[if_neg (of_decide_eq_false h)] at hz;refine cS (fun h=>?_) fun h=>?_
  ·rw[if_pos (of_decide_eq_true h)] at hz;subst hz;refine Ei [] ?_
   repeat' constructor
  ·rw[if_neg (of_decide_eq_false h)] at hz;subst hz;refine Ei [] ?_
   repeat' constructor
def UI:List Int->Int
 | []=>0
 | x :: r=>if x≠0 then x else UI r
theorem ahB (l:List Int)(hl:l.length*8<=aV):Ct ae 28 [.c (.t (.sl 1 (l.map eI)))] (aEn (UI l)) [] true:=by
 refine aEs (b:=false) ?_ rfl;refine cT Tryz.func28 rfl (by kernel_rfl) rfl fun w0 O _=>aEk [] ?_;refine aEm (fun k:Nat=>⟨[(3,aEn 0),(6,.c (.t (.sl 1 (l.map eI)))),(7,aEn (l.map eI).length),(8,aEn k)],[],[],10000⟩) (fun k=>k<=l.length/\UI (l.drop k)=UI l) (fun k=>l.length - k) 0 ?_ ⟨aA _,rfl⟩ ?_
 ·refine ba [] rfl rfl ?_ ?_ ?_
  repeat' constructor
 rintro k ⟨hk,fk⟩;refine aEk [] (cS (fun h=>?_) fun h=>?_)
 ·have aU:=cJ h;rw[cd aU] at fk;have fk:(if l[k]≠0 then l[k] else UI (l.drop (k+1)))=UI l:=fk;refine Ei k (Ei (eI l[k]) (Ai rfl (Ai (aK _ _ k aU) ?_)));refine cS (fun h=>?_) fun h=>?_
  ·rw[if_pos (by simpa using h)] at fk;refine Ei [] (Ai rfl (Ai ea ?_));rw[<- fk];exact rfl
  ·rw[if_neg (by simpa using h)] at fk;refine Ei (k+1) (Ai ⟨by omega,fk⟩ (Ai (show l.length - (k+1) < l.length - k by omega) ?_));refine ba [] rfl rfl ?_ ?_ ?_
   ·repeat' constructor
    exact cZ k aU 8 (by decide) hl
   repeat' constructor
 ·have fp:=dM h hk;subst fp;rw[List.drop_eq_nil_of_le (ak _)] at fk;rw[<- fk];refine Ei [] (Ai rfl (Ai ea ?_));exact rfl
theorem or2 (a b:Int):Ct ae 28 [.c (.t (.sl 1 [eI a,eI b]))] (aEn (if a≠0 then a else b)) [] true:=by
 have h:=ahB [a,b] (by unfold aV;exact Nb rfl)
 have e:UI [a,b]=if a≠0 then a else b:=by
  unfold UI;split
  ·rfl
  ·unfold UI;split
   ·rfl
   ·rename_i h;have:b=0:=by simpa using h
    rw[this];rfl
 rw[e] at h;exact h
theorem Ww:SN 27 sH:=fun x y=>by
 refine aEs (b:=false) ?_ rfl;have h1:=xS x.id y.id;have h2:=xS x.index y.index;have h3:=or2 (CW x.id y.id) (CW x.index y.index);refine cT Tryz.func27 rfl (by kernel_rfl) rfl fun w0 O _=>aEk [] ?_;refine cF h1 ⟨rfl,rfl,ea⟩ ?_;refine cF h2 ⟨rfl,rfl,ea⟩ ?_;refine cF h3 ⟨?_,ea⟩ ?_
 ·repeat' constructor
 refine Ei [] ?_
 repeat' constructor
attribute [local irreducible] pW
theorem DA (id you:Int)(e:Bool):∀ (k:Nat) (l:List bJ),(jr id you e k l).length<=l.length
 | _,[]=>ak _
 | k,a :: r=>by
  unfold jr;rw[al,aZ];have:=DA id you e (k+1) r;split <;> simp <;> omega
theorem GN {α:Type}(f:α->Nat)(n:Nat)(h:∀ x,f x<=n):∀ l:List α,(l.map f).sum<=l.length*n
 | []=>aA _
 | x :: r=>by
  rw[bW,List.sum_cons,aZ,Nat.add_mul,Nat.one_mul];have:=GN f n h r;have:=h x;omega
theorem vT (c:fZ)(w:aG):(gz c w).length<=c.after.aa.length+1:=by
 have:=DK c w;unfold gz
 repeat' split
 ·exact Nat.le_add_left _ _
 ·exact aA _
 ·rw[Lm];exact this
def o5 (c:fZ):List aP:=(jx (iq sH) (et c.ca true 0 c.before.aa++et c.cg false 0 c.after.aa)).flatMap (gz c)
theorem Ry (c:fZ)(b1:c.before.aa.length<=4000)(b2:c.after.aa.length<=4000)(hp:c.after.ok)(h3:c.ca.length*176<=aV)(h4:c.cg.length*176<=aV)(m3:∀ y∈c.ca,aD.ok y)(m4:∀ y∈c.cg,aD.ok y)(n3:(et c.ca true 0 c.before.aa).length<=100000)(n4:(et c.cg false 0 c.after.aa).length<=100000)(hw:∀ w∈et c.ca true 0 c.before.aa++et c.cg false 0 c.after.aa,w.aj.ok):Ct ae 13 [.agg (c.before.enc.map .t),.c (.t (.sl 17 (c.ca.map aD.enc))),.agg (c.after.enc.map .t),.c (.t (.sl 17 (c.cg.map aD.enc))),.agg (c.e.enc.map .t)] (.c (.t (.sl 89 ((o5 c).map aP.enc)))) [] false:=by
 have qL:=Dn c.before c.ca true (by unfold aV;omega) h3 m3;have mX:=Dn c.after c.cg false (by unfold aV;omega) h4 m4;generalize hX:et c.ca true 0 c.before.aa=xs at *;generalize hY:et c.cg false 0 c.after.aa=ys at *;have aqD:=we 27 sH Ww (xs++ys) (by rw[al];unfold aV;omega);generalize hM:o5 c=M;unfold o5 at hM;rw[hX,hY] at hM;refine acF Tryz.func13 rfl (enters_of Tryz.func13 (by kernel_rfl) rfl) tabOk rfl rfl rfl rfl fun w0=>?_;refine pW.seq (pW.zE rfl fun O _=>aEk [] ?_);refine pW.seq (pW.zE rfl fun O _=>aEk [] ?_);refine pW.seq (pW.seq (pW.zE rfl fun O _=>aEk [] ?_));refine cR (sX c.before c.ca true) ⟨fL c.before.enc,rfl,rfl,ea⟩ ?_;refine pW.block ?_;have hxl:∀ (zs:List aG) (k:Nat) (hk:k < (zs.map fun w:aG=>(AV.agg (w.enc.map .t))).length),(zs.map fun w:aG=>(AV.agg (w.enc.map .t)))[k]=.agg ((zs[k]'(by rw[Lm] at hk;exact hk)).enc.map .t):=fun zs k hk=>List.getElem_map ..
 have om:∀ (zs:List aG),∀ x∈(zs.map fun w:aG=>(AV.agg (w.enc.map .t))),x.plain=true:=fun zs x hx=>by
  obtain⟨w,_,rfl⟩:=bL.1 hx;exact rfl
 refine pW.wk (dc:=⟨[(1,.c (.t (.sl 17 (c.ca.map aD.enc)))),(3,.c (.t (.sl 17 (c.cg.map aD.enc)))),(5,.ptr 0 0),(7,.ptr 128 0),(9,.ptr 256 0),(11,.ptr 512 0),(20,.lL 62 [(c.before.enc,0),([Tr.sl 17 (List.map aD.enc c.ca)],0),([bv true],0)])],[(0,c.before.enc.map .t),(128,c.after.enc.map .t),(256,c.e.enc.map .t),(512,[.row 9000 0])],[(9000,⟨100,76,0,([]:List aG).map aG.enc,none⟩)],10000⟩) ?_ ?_
 ·refine ba [] rfl rfl ?_ ?_ ?_
  repeat' constructor
 refine pW.O3 (bx:=fun _=>[(0,c.before.enc.map .t),(128,c.after.enc.map .t),(256,c.e.enc.map .t),(512,[.row 9000 0])]) (rw:=fun k=>[(9000,⟨100,76,0,(xs.take k).map aG.enc,none⟩)]) (pins:=[0,128,256,512]) (xs:=xs.map fun w:aG=>(AV.agg (w.enc.map .t))) (caps:=[(c.before.enc,0),([Tr.sl 17 (List.map aD.enc c.ca)],0),([bv true],0)]) rfl qL rfl ?_ rfl rfl rfl (om xs) ?_ ?_
 ·intro k j hj;rcases List.mem_cons.1 hj with rfl|hj
  ·exact⟨_,rfl⟩
  rcases List.mem_cons.1 hj with rfl|hj
  ·exact⟨_,rfl⟩
  rcases List.mem_cons.1 hj with rfl|hj
  ·exact⟨_,rfl⟩
  rcases List.mem_cons.1 hj with rfl|hj
  ·exact⟨_,rfl⟩
  cases hj
 ·intro l k hk;rw[hxl xs k hk];rw[Lm] at hk;intro O mY hv hb
  haveI:=mY
  refine NH.region 3 _ _ _ rfl (Ai rfl fun O2 MT xv dK=>?_)
  haveI:=MT
  refine NH.block (NH.region 4 _ _ _ rfl ?_)
  have gP:(((xs.take k).map aG.enc).length+1)*672<=140737488355328/\((xs.take k).map aG.enc).length+1 < 140737488355328:=by
   rw[Lm,au];omega
  have fu:(xs.take k).map aG.enc++[xs[k].enc]=(xs.take (k+1)).map aG.enc:=by
   rw[aS hk,aQ];rfl
  refine Ai (.inl rfl) (Ai gP.1 (Ai gP.2 ?_));refine Ai rfl (N8 [(9000,9000)] ?_ rfl rfl ?_ ?_ ?_)
  ·intro j hj;rcases List.mem_cons.1 hj with rfl|hj
   ·exact⟨_,rfl⟩
   rcases List.mem_cons.1 hj with rfl|hj
   ·exact⟨_,rfl⟩
   rcases List.mem_cons.1 hj with rfl|hj
   ·exact⟨_,rfl⟩
   rcases List.mem_cons.1 hj with rfl|hj
   ·exact⟨_,rfl⟩
   cases hj
  ·repeat' constructor
  ·repeat' constructor
  ·repeat' constructor
   exact fu
 rw[Lm,bj];refine pW.seq (pW.seq (pW.zE rfl fun O _=>aEk [] ?_));refine cR (sX c.after c.cg false) ⟨fL c.after.enc,rfl,rfl,ea⟩ ?_;refine pW.block (pW.wk (dc:=⟨[(1,.c (.t (.sl 17 (c.ca.map aD.enc)))),(3,.c (.t (.sl 17 (c.cg.map aD.enc)))),(5,.ptr 0 0),(7,.ptr 128 0),(9,.ptr 256 0),(11,.ptr 512 0),(28,.lL 62 [(c.after.enc,0),([Tr.sl 17 (List.map aD.enc c.cg)],0),([bv false],0)])],[(0,c.before.enc.map .t),(128,c.after.enc.map .t),(256,c.e.enc.map .t),(512,[.row 9000 0])],[(9000,⟨100,76,0,(xs++ys.take 0).map aG.enc,none⟩)],10000⟩) ?_ ?_)
 ·refine ba [(9000,9000)] rfl rfl ?_ ?_ ?_
  repeat' first|refine Ai ?_ ?_|exact rfl|exact⟨⟩|exact Ei _ rfl|refine cL ?_|refine bS ?_
  rw[List.take_zero,aW]
 refine pW.O3 (bx:=fun _=>[(0,c.before.enc.map .t),(128,c.after.enc.map .t),(256,c.e.enc.map .t),(512,[.row 9000 0])]) (rw:=fun k=>[(9000,⟨100,76,0,(xs++ys.take k).map aG.enc,none⟩)]) (pins:=[0,128,256,512]) (xs:=ys.map fun w:aG=>(AV.agg (w.enc.map .t))) (caps:=[(c.after.enc,0),([Tr.sl 17 (List.map aD.enc c.cg)],0),([bv false],0)]) rfl mX rfl ?_ rfl rfl rfl (om ys) ?_ ?_
 ·intro k j hj;rcases List.mem_cons.1 hj with rfl|hj
  ·exact⟨_,rfl⟩
  rcases List.mem_cons.1 hj with rfl|hj
  ·exact⟨_,rfl⟩
  rcases List.mem_cons.1 hj with rfl|hj
  ·exact⟨_,rfl⟩
  rcases List.mem_cons.1 hj with rfl|hj
  ·exact⟨_,rfl⟩
  cases hj
 ·intro l k hk;rw[hxl ys k hk];rw[Lm] at hk;intro O mY hv hb
  haveI:=mY
  refine NH.region 6 _ _ _ rfl (Ai rfl fun O2 MT xv dK=>?_)
  haveI:=MT
  refine NH.block (NH.region 7 _ _ _ rfl ?_)
  have gP:(((xs++ys.take k).map aG.enc).length+1)*672<=140737488355328/\((xs++ys.take k).map aG.enc).length+1 < 140737488355328:=by
   rw[Lm,al,au];omega
  have fu:(xs++ys.take k).map aG.enc++[ys[k].enc]=(xs++ys.take (k+1)).map aG.enc:=by
   rw[aS hk,<- b9,aQ (l₁:=xs++ys.take k)];rfl
  refine Ai (.inl rfl) (Ai gP.1 (Ai gP.2 ?_));refine Ai rfl (N8 [(9000,9000)] ?_ rfl rfl ?_ ?_ ?_)
  ·intro j hj;rcases List.mem_cons.1 hj with rfl|hj
   ·exact⟨_,rfl⟩
   rcases List.mem_cons.1 hj with rfl|hj
   ·exact⟨_,rfl⟩
   rcases List.mem_cons.1 hj with rfl|hj
   ·exact⟨_,rfl⟩
   rcases List.mem_cons.1 hj with rfl|hj
   ·exact⟨_,rfl⟩
   cases hj
  ·repeat' constructor
  ·repeat' constructor
  ·repeat' constructor
   exact fu
 rw[Lm,bj];refine pW.zE rfl fun O _=>aEk [9] ?_;refine cM [] [(9000,0)] aqD ?_ ?_ ?_
 ·repeat' constructor
 ·exact rfl
 have hlen:(jx (iq sH) (xs++ys)).length<=200000:=by
  rw[OD,al];omega
 have mI:∀ w∈jx (iq sH) (xs++ys),w.aj.ok:=fun w h=>hw w ((qf _).mem_iff.1 h);generalize hL:jx (iq sH) (xs++ys)=L at *;refine aEk [] ?_
 have si:∀ k,((L.take k).flatMap (gz c)).length<=L.length*4001:=fun k=>by
  rw[List.length_flatMap];refine aX (GN (fun w=>(gz c w).length) 4001 (fun w=>?_) (L.take k)) (cy _ (by rw[au];omega));exact aX (vT c w) (by omega)
 refine aEm (fun k:Nat=>⟨[(14,.ptr 11024 0),(15,.c (.row 9100 0)),(42,.c (.row 9000 0)),(43,aEn (L.map aG.enc).length),(44,aEn k)],[(11024,c.enc.map .t)],[(9000,⟨100,76,0,L.map aG.enc,none⟩),(9100,⟨72,89,0,((L.take k).flatMap (gz c)).map aP.enc,none⟩)],20000⟩) (fun k=>k<=L.length) (fun k=>L.length - k) 0 ?_ (aA _) ?_
 ·refine ba [(9000,9000)] rfl rfl ?_ ?_ ?_
  repeat' constructor
 rintro k hk;refine aEk [14] (cS (fun h=>?_) fun h=>?_)
 ·have aU:=cJ h;have hw2:=GF c L[k] (mI _ (aH aU)) (by omega) (by omega) hp h3 h4 m3 m4;refine Ei k (Ai rfl (Ai (by rw[Lm];exact aU) ?_));refine Ei (L[k].enc) (Ei _ (Ai (aK _ _ k aU) (Ai rfl ?_)));refine aEk [] (cR hw2 ⟨fL c.enc,fL L[k].enc,ea⟩ ?_)
  have gP:((((L.take k).flatMap (gz c)).map aP.enc).length+((gz c L[k]).map aP.enc).length)*768<=140737488355328/\(((L.take k).flatMap (gz c)).map aP.enc).length+((gz c L[k]).map aP.enc).length < 140737488355328:=by
   rw[Lm,Lm];have h1:=si k;have h2:=vT c L[k];omega
  have fu:((L.take k).flatMap (gz c)).map aP.enc++(gz c L[k]).map aP.enc=((L.take (k+1)).flatMap (gz c)).map aP.enc:=by
   rw[aS aU,List.flatMap_append,aQ,List.flatMap_singleton]
  refine Ai (.inl rfl) (Ai gP.1 (Ai gP.2 ?_));refine Ei (k+1) (Ai (show k+1<=_ by omega) (Ai (show L.length - (k+1) < L.length - k by omega) ?_));refine ba [(9000,9000),(9100,9100)] rfl rfl ?_ ?_ ?_
  repeat' constructor
  exact cZ k aU 672 (by decide) (by unfold aV;omega);exact fu
 ·have fp:=dM h hk;subst fp;subst hM;refine Ei [] ?_
  repeat' constructor
  rw[bj];exact rfl
end
section
open Go Cg
theorem Oo {α:Type}{p:α->Bool}:∀ {l:List α} {x:α},x∈l.takeWhile p->p x=true
 | [],_,h=>by cases h
 | y :: r,x,h=>by
  rw[List.takeWhile_cons] at h;split at h
  ·rename_i hy;rcases List.mem_cons.1 h with rfl|h
   ·exact hy
   ·exact Oo h
  ·cases h
theorem Kx {A:List aG}(B:List aG){x:aG}(h:∀ a∈A,lX a x=true):uc lX x (A++B)=A++uc lX x B:=by
 unfold uc;rw[List.takeWhile_append_of_pos h,List.dropWhile_append_of_pos h,b9]
theorem EZ {A:List aG}:∀ (b B:List aG),(∀ a∈A,∀ z∈b,lX a z=true)->jn lX (A++B) b=A++jn lX B b
 | [],B,_=>rfl
 | x :: b,B,h=>by
  rw[jn,jn,Kx B fun a ha=>h a ha x aB];exact EZ b _ fun a ha z hz=>h a ha z (aM _ hz)
theorem xr:∀ (b A:List aG),(A++b).Pairwise Gv->jn lX A b=A++b
 | [],A,_=>by rw[jn,aW]
 | x :: b,A,h=>by
  have h2:∀ a∈A,lX a x=true:=fun a ha=>(rV a x).2 ((List.pairwise_append.1 h).2.2 a ha x aB);have:=Kx (x:=x) [] h2;rw[aW] at this;rw[jn,this];have e:uc lX x []=[x]:=rfl;rw[e,xr b (A++[x]) (by rw[b9];exact h),b9];rfl
theorem Ka:∀ (b out:List aG),b.Pairwise Gv->(jn lX out b).map toR=iG (out.map toR) (b.map toR)
 | [],out,_=>by rw[jn,List.map_nil,B3]
 | y :: b,out,h=>by
  obtain⟨h1,h2⟩:=List.pairwise_cons.1 h;rw[jn,bW,iG]
  have e:uc lX y out=(out.takeWhile (fun x=>lX x y)++[y])++out.dropWhile (fun x=>lX x y):=by
   unfold uc;rw[b9];rfl
  rw[e,EZ b _ fun a ha z hz=>?_]
  ·rw[aQ,Ka b _ h2,aQ,b9,List.takeWhile_map,List.dropWhile_map];rfl
  ·rw[rV];rcases bh.1 ha with ha|ha
   ·exact tW _ _ _ ((rV _ _).1 (Oo (p:=fun x=>lX x y) ha)) (h1 z hz)
   ·rw[aJ.1 ha];exact h1 z hz
theorem qV (id you:Int)(e:Bool):∀ (l:List bJ) (k:Nat),∀ w∈jr id you e k l,w.id=id/\(k:Int)<=w.index/\w.you=you/\w.aj∈l/\w.aj.kind=4/\tX w.aj.aF.when=e
 | [],_,_,h=>by cases h
 | a :: r,k,w,h=>by
  rcases bh.1 h with h|h
  ·split at h
   ·rename_i hc;rw[aJ.1 h];simp at hc;exact⟨rfl,Int.le_refl _,rfl,aB,hc.1,hc.2⟩
   ·cases h
  ·obtain⟨h1,h2,h3,h4,h5⟩:=qV id you e r (k+1) w h;exact⟨h1,by omega,h3,aM _ h4,h5⟩
theorem Dz (id you:Int)(e:Bool):∀ (l:List bJ) (k:Nat),(jr id you e k l).Pairwise Gv
 | [],_=>List.Pairwise.nil
 | a :: r,k=>by
  rw[jr];refine List.pairwise_append.2 ⟨by split <;> simp,Dz id you e r (k+1),fun x hx y hy=>?_⟩;split at hx
  ·rw[aJ.1 hx];obtain⟨h1,h2,_⟩:=qV id you e r (k+1) y hy;refine .inr ⟨h1.symm,?_⟩;show(k:Int)<=_;omega
  ·cases hx
theorem qU (all:List aD)(e:Bool):∀ (l:List az) (i:Nat),∀ w∈et all e i l,(∃ (j:Nat) (hj:j < l.length),w.id=l[j].id/\l[j].cn=0/\w.you=(eP all (i+j)).dB/\w.aj∈(eP all (i+j)).aI)/\w.aj.kind=4/\tX w.aj.aF.when=e
 | [],_,_,h=>by cases h
 | o :: r,i,w,h=>by
  rcases bh.1 h with h|h
  ·unfold tj at h;split at h
   ·rename_i hz;obtain⟨h1,_,h3,h4,h5⟩:=qV _ _ _ _ _ w h;exact⟨⟨0,Nat.zero_lt_succ _,h1,by simpa using hz,h3,h4⟩,h5⟩
   ·cases h
  ·obtain⟨⟨j,hj,h1,h2,h3,h4⟩,h5⟩:=qU all e r (i+1) w h;refine⟨⟨j+1,Nat.succ_lt_succ hj,h1,h2,?_,?_⟩,h5⟩
   ·rw[h3,show i+1+j=i+(j+1) by omega]
   ·rw[show i+(j+1)=i+1+j by omega];exact h4
theorem qT (all:List aD)(e:Bool):∀ (l:List az) (i:Nat),(l.Pairwise fun a b=>a.id < b.id)->(et all e i l).Pairwise Gv
 | [],_,_=>List.Pairwise.nil
 | o :: r,i,h=>by
  obtain⟨h1,h2⟩:=List.pairwise_cons.1 h;rw[et];refine List.pairwise_append.2 ⟨?_,qT all e r (i+1) h2,fun x hx y hy=>?_⟩
  ·unfold tj;split
   ·exact Dz _ _ _ _ _
   ·exact List.Pairwise.nil
  ·unfold tj at hx;split at hx
   ·obtain⟨g1,_⟩:=qV _ _ _ _ _ x hx;obtain⟨⟨j,hj,g2,_⟩,_⟩:=qU all e r (i+1) y hy;exact .inl (by rw[g1,g2];exact h1 _ (aH hj))
   ·cases hx
theorem Qp (c:eB)(h1:c.before.aa.Pairwise fun a b=>a.id < b.id)(h2:c.after.aa.Pairwise fun a b=>a.id < b.id):(jx (iq sH) (et c.ca true 0 c.before.aa++et c.cg false 0 c.after.aa)).map toR=H7 c:=by
 unfold H7;rw[zz]
 have e:jn lX [] (et c.ca true 0 c.before.aa++et c.cg false 0 c.after.aa)=jn lX (et c.ca true 0 c.before.aa) (et c.cg false 0 c.after.aa):=by
  have key:∀ (a b o:List aG),jn lX o (a++b)=jn lX (jn lX o a) b:=by
   intro a
   induction a with
   | nil=>intro b o;rfl
   | cons x a ih=>intro b o;rw[List.cons_append,jn,jn,ih]
  rw[key,xr _ [] (by rw[bE];exact qT _ _ _ _ h1),bE]
 rw[e];exact Ka _ _ (qT _ _ _ _ h2)
theorem Wi {p:az->Bool}{l:List az}:decide (kQ p l>=0)=l.any p:=by
 rcases jb p l with⟨h,h2,h3⟩|⟨i,hi,h,h2⟩
 ·rw[h]
  have:l.any p=false:=by
   rw[List.any_eq_false];intro x hx;have:=List.find?_eq_none.1 h3 x hx;simpa using this
  rw[this];rfl
 ·rw[h]
  have:l.any p=true:=by
   rw[List.any_eq_true]
   exact⟨l[i],aH hi,by
    have:=h2
    grind [List.findIdx?_eq_some_iff_getElem]⟩
  rw[this];simp
theorem VW (l:List az)(id:Int):eh l id=l.any fun o=>o.id==id:=by
 unfold eh;rw[Bool.eq_iff_iff,List.find?_isSome,List.any_eq_true]
theorem Yc {l:List az}(h:l.Pairwise fun a b=>a.id < b.id)(id:Int):(l.any fun o=>o.id==id&&o.cn==0)=(eh l id&&(cb l id).cn==0):=by
 induction l with
 | nil=>rfl
 | cons o r ih=>
  obtain⟨h1,h2⟩:=List.pairwise_cons.1 h;rw[List.any_cons]
  by_cases e:o.id=id
  ·subst e;have e1:eh (o :: r) o.id=true:=by unfold eh;simp
   have e2:cb (o :: r) o.id=o:=by unfold cb;simp
   rw[e1,e2]
   have:(r.any fun o'=>o'.id==o.id&&o'.cn==0)=false:=by
    rw[List.any_eq_false];intro x hx;have:=h1 x hx;simp;omega
   rw[this];simp
  ·have e1:eh (o :: r) id=eh r id:=by unfold eh;rw[List.find?_cons_of_neg (by simpa using e)]
   have e2:cb (o :: r) id=cb r id:=by unfold cb;rw[List.find?_cons_of_neg (by simpa using e)]
   rw[e1,e2,ih h2];simp[e]
def toP (c:eB):fZ:=⟨c.before,c.after,c.ca,c.cg,c.e⟩
theorem left_eq (c:eB)(h1:c.before.aa.Pairwise fun a b=>a.id < b.id):oh (toP c)=rU c:=by
 unfold oh rU toP;rw[Wi,Wi,Yc h1,<- VW];simp only[Bool.and_assoc]
theorem Tg (c:eB)(hc:c.cG=gQ (eN c.after.aa) (eN c.before.aa))(h1:c.before.aa.Pairwise fun a b=>a.id < b.id)(w:aG):gz (toP c) w=js c (toR w):=by
 have hl:=left_eq c h1;have w1:(toR w).a=w.aj:=rfl;have w2:(toR w).id=w.id:=rfl;have w3:(toR w).you=w.you:=rfl;have p1:(toP c).e=c.e:=rfl;have p2:(toP c).before=c.before:=rfl;have p3:(toP c).after=c.after:=rfl;have p4:(toP c).ca=c.ca:=rfl;have p5:(toP c).cg=c.cg:=rfl;unfold gz js gj vi tM tK l8 ky qp RA sC wQ;rw[hl,hc,w1,w2,w3,p1,p2,p3,p4,p5];generalize w.aj.aF.when=k;generalize iP c.before.aa c.ca c.e.aL w.you w.id w.aj.aF.filter=f1;generalize iP c.before.aa c.ca c.e.dC w.you w.id w.aj.aF.filter=f2;generalize iP c.after.aa c.cg c.e.aL w.you w.id w.aj.aF.filter=f3;generalize kD c.after.aw c.e.bK w.you w.aj.aF.j7=pl
 have uh:rU c=true->(c.e.kind==2)=true:=fun h=>by
  unfold rU at h;rw[ah] at h;exact h.1
 generalize rU c=lf at uh;clear hl w1 w2 w3 p1 p2 p3 p4 p5
 by_cases k1:k=1
 ·subst k1
  cases h2:(c.e.kind==2) <;> cases mZ:(c.e.kind==10) <;> simp[vk,h2,mZ,bne]
 by_cases k2:k=2
 ·subst k2
  cases NW:(c.e.kind==2) <;> cases lf <;> cases f1 <;> simp_all[vk]
 by_cases k3:k=3
 ·subst k3
  cases NW:(c.e.kind==2) <;> cases lf <;> cases h_t:(c.e.nk==3) <;> cases f1 <;> simp_all[vk]
 by_cases k4:k=4
 ·subst k4
  cases NW:(c.e.kind==12) <;> cases f3 <;> simp_all[vk]
 by_cases k5:k=5
 ·subst k5
  cases NW:(c.e.kind==13) <;> cases f3 <;> simp_all[vk]
 by_cases k14:k=14
 ·subst k14
  cases NW:(c.e.kind==8) <;> cases f3 <;> simp_all[vk]
 by_cases k6:k=6
 ·subst k6
  cases NW:(c.e.kind==1) <;> cases f2 <;> simp_all[vk]
 by_cases k7:k=7
 ·subst k7
  cases NW:(c.e.kind==1) <;> cases h_o:(c.e.aL != 0) <;> cases f1 <;> simp_all[vk]
 by_cases k8:k=8
 ·subst k8
  cases NW:(c.e.kind==3) <;> cases pl <;> simp_all[vk]
 by_cases ZF:k=10
 ·subst ZF
  cases NW:(c.e.kind==14) <;> cases pl <;> simp_all[vk]
 by_cases Xx:k=11
 ·subst Xx
  cases NW:(c.e.kind==15) <;> cases pl <;> simp_all[vk]
 by_cases VD:k=12
 ·subst VD
  cases NW:(c.e.kind==4) <;> cases pl <;> simp_all[vk]
 by_cases VC:k=13
 ·subst VC
  cases NW:(c.e.kind==5) <;> cases pl <;> simp_all[vk]
 by_cases k9:k=9
 ·subst k9
  cases NW:(c.e.kind==11) <;> cases f3 <;> cases pl <;> simp_all[vk]
 simp_all
theorem Rx (c:eB)(hc:c.cG=gQ (eN c.after.aa) (eN c.before.aa))(h1:c.before.aa.Pairwise fun a b=>a.id < b.id)(h2:c.after.aa.Pairwise fun a b=>a.id < b.id):o5 (toP c)=Wg c:=by
 have e:=Qp c h1 h2;unfold o5 Wg;rw[<- e,List.flatMap_map];show(jx (iq sH) (et c.ca true 0 c.before.aa++et c.cg false 0 c.after.aa)).flatMap (gz (toP c))=_;congr 1
 funext w
 exact Tg c hc h1 w
theorem Lf {s:aq}{L:List bV}:∀ (f k:Nat) (w:Wd),qJ s L w->qJ s L (C9 s L f k w)
 | 0,_,_,h=>h
 | f+1,k,w,h=>by
  unfold C9;exact Lf f _ _ (Jl h _)
theorem WN {aE:List bd}{s:aq}(mc:∀ y∈aE,bd.ok y)(hs:s.ok)(ho:s.aa.length<=4000)(hn:(amP aE s).length<=1000000):(alY aE s).length=s.aa.length/\∀ y∈alY aE s,aD.ok y:=by
 have h:=Lf 8 1 _ (KU mc hs ho hn);exact⟨h.all,h.ok⟩
def SQ (a b:aD):Prop:=b.aI=[]\/b.aI=a.aI
theorem SQ.trans {a b c:aD}(h1:SQ a b)(h2:SQ b c):SQ a c:=by
 rcases h2 with h|h
 ·exact .inl h
 ·rcases h1 with h1|h1
  ·exact .inl (h.trans h1)
  ·exact .inr (h.trans h1)
theorem iY {c:Prop}[Decidable c]{a x y:aD}(h1:SQ a x)(h2:SQ a y):SQ a (if c then x else y):=by
 split
 ·exact h1
 ·exact h2
theorem WI {t:aD}{m:dR}{you n:Int}:SQ t (C7 t m you n):=by
 have r:∀ {x:aD},x.aI=t.aI->SQ t x:=fun h=>.inr h;unfold C7;exact iY (r rfl) (iY (r rfl) (iY (r rfl) (iY (r rfl) (iY (r rfl) (iY (r rfl) (iY (r rfl) (iY (r rfl) (iY (r rfl) (iY (r rfl) (iY (.inl rfl) (iY (r rfl) (iY (r rfl) (iY (r rfl) (iY (r rfl) (r rfl)))))))))))))))
theorem B8 {aR you:Int}{kO:List Int}:∀ {l:List dR} {t:aD} {n:Nat},SQ t (tS aR you kO t l n)
 | [],_,_=>.inr rfl
 | m :: r,t,n=>by
  unfold tS;split
  ·exact WI.trans B8
  ·exact B8
def W0 (aE:List bd)(s:aq)(l:List aD):Prop:=∀ (k:Nat) t,l[k]? = some t->∃ o,s.aa[k]? = some o/\SQ (ofM aE o) t
theorem acX {aE:List bd}{s:aq}{w:Wd}(h:W0 aE s w.all)(f:bV)(i:Nat)(aR:Int):W0 aE s (sQ s f w i aR).all:=by
 unfold sQ;split
 ·intro k t ht;have ht:(mu (Dj s f w i aR) s.aa.length w.all)[k]? = some t:=ht;rw[qb] at ht
  cases hq:w.all[k]? with
  | none=>rw[hq] at ht;cases ht
  | some t0=>
   rw[hq] at ht;have ht:(if k < s.aa.length then Dj s f w i aR k t0 else t0)=t:=aY ht;obtain⟨o,h1,h2⟩:=h k t0 hq;refine⟨o,h1,h2.trans ?_⟩;rw[<- ht];split
   ·unfold Dj;split
    ·exact B8
    ·exact .inr rfl
   ·exact .inr rfl
 ·exact h
theorem acW {aE:List bd}{s:aq}{w:Wd}(h:W0 aE s w.all):W0 aE s (Sa s w).all:=fun k t ht=>by
 have ht:((s.aa.zip w.all).map fun p=>kR p.1 p.2)[k]? = some t:=ht;rw[bI] at ht
 cases hq:(s.aa.zip w.all)[k]? with
 | none=>rw[hq] at ht;cases ht
 | some p=>
  rw[hq] at ht;have ht:kR p.1 p.2=t:=aY ht;obtain⟨h1,h2⟩:=List.getElem?_zip_eq_some.1 hq;obtain⟨o,h3,h4⟩:=h k p.2 h2;refine⟨o,h3,h4.trans ?_⟩;rw[<- ht];unfold kR;split
  ·exact .inr rfl
  ·exact .inr rfl
theorem Sz {aE:List bd}{s:aq}{L:List bV}{aR:Int}:∀ (f:Nat) (w:Wd) (m o:List Int),W0 aE s w.all->W0 aE s (yR s L aR f w m o).1.all
 | 0,_,_,_,h=>h
 | f+1,w,m,o,h=>by
  unfold yR;exact Sz f _ _ _ (acX h _ _ _)
theorem SA {aE:List bd}{s:aq}{L:List bV}:∀ (f k:Nat) (w:Wd),W0 aE s w.all->W0 aE s (C9 s L f k w).all
 | 0,_,_,h=>h
 | f+1,k,w,h=>by
  unfold C9;refine SA f _ _ ?_;unfold Bw;refine Sz _ _ _ _ ?_;split
  ·exact acW h
  ·exact h
theorem Le (aE:List bd)(s:aq):W0 aE s (alY aE s):=by
 refine SA 8 1 _ fun k t ht=>?_;have ht:(s.aa.map (ofM aE))[k]? = some t:=ht;rw[bI] at ht
 cases hq:s.aa[k]? with
 | none=>rw[hq] at ht;cases ht
 | some o=>
  rw[hq] at ht;exact⟨o,rfl,.inr (by rw[<- aY ht])⟩
theorem allM_nil {aE:List bd}{s:aq}(h:amP aE s=[]):alY aE s=(s.aa.zip (s.aa.map (ofM aE))).map fun p=>kR p.1 p.2:=by
 unfold alY;rw[h];rfl
theorem JY {aE:List bd}{n:Nat}(h:∀ c∈aE,c.aI.length<=n)(o:az):(ofM aE o).aI.length<=n:=by
 have key:∀ (t:aD) (c:Int),t.aI.length<=n->({ t with dB:=c }:aD).aI.length<=n:=fun _ _ h=>h;unfold ofM;refine key _ _ ?_;generalize (if o.copy < 0 then o.ee else o.copy)=i;split
 ·rename_i c hc;split at hc
  ·cases hc
  ·exact h c (bc hc)
 ·exact aA _
theorem Ss {aE:List bd}{s:aq}{n:Nat}(h:∀ c∈aE,c.aI.length<=n):∀ t∈alY aE s,t.aI.length<=n:=fun t ht=>by
 obtain⟨k,hk,rfl⟩:=bD.1 ht;obtain⟨o,_,h2|h2⟩:=Le aE s k _ (ag hk)
 ·rw[h2];exact aA _
 ·rw[h2];exact JY h o
theorem Tf (id you:Int)(e:Bool):∀ (k:Nat) (l:List bJ),(jr id you e k l).length<=l.length:=DA id you e
theorem Dy {all:List aD}{e:Bool}{n:Nat}(h:∀ t∈all,t.aI.length<=n):∀ (l:List az) (i:Nat),(et all e i l).length<=l.length*n
 | [],_=>aA _
 | o :: r,i=>by
  rw[et,al,aZ,Nat.add_mul,Nat.one_mul];have h1:=Dy h r (i+1) (e:=e)
  have h2:(tj all e i o).length<=n:=by
   unfold tj;split
   ·refine aX (Tf _ _ _ _ _) ?_;unfold eP
    cases hq:all[i]? with
    | none=>exact aA _
    | some t=>exact h t (bc hq)
   ·exact aA _
  omega
theorem Fs (o:az):∀ (l:List bJ) (k:Nat),(amQ o k l).length<=l.length
 | [],_=>ak _
 | a :: r,k=>by
  rw[amQ,al,aZ];have:=Fs o r (k+1);split <;> simp <;> omega
theorem Rr {aE:List bd}{s:aq}{n:Nat}(h:∀ c∈aE,c.aI.length<=n):(amP aE s).length<=s.aa.length*n+s.dD.length:=by
 unfold amP;rw[al,Lm,List.length_flatMap];refine Nat.add_le_add_right (Bv (fun o=>(l0 aE o).length) n (fun o=>?_) s.aa) _;unfold l0;split
 ·exact aX (Fs o _ 0) (JY h o)
 ·exact aA _
end
section
open Go Cg Go.RowKit Go.Sort
theorem LW (a:List dR)(ha:a.length*176<=aV):∃ r:Bool,(r=true)/\Ct ae 60 [.c (.t (.sl 20 (a.map dR.enc))),.c (.t (.sl 20 (a.map dR.enc)))] (aEo r) [] true:=by
 refine cU (Φ:=fun (r:Bool)=>r=true) cO (cX Tryz.func60 rfl (by kernel_rfl) rfl (aEl [] [] ?_))
 repeat' (first|(apply eA;(focus (simp[eV,rR];done)))|(apply eX;(focus (simp;done)))|(apply pP;(iterate 2 first|assumption|omega|(simp only[bp,cK,aZ,bM];omega)|(simp only[Lm] at *;omega)|decide);intro _)|exact bo true (Ei [] (Ai rfl (Ai ea rfl))) rfl rfl|(apply bo;exact Ei [] (Ai rfl (Ai ea rfl));(focus (simp[eV,rR];done));rfl)|(apply bN <;> intro _)|(apply ej <;> intro _)|(apply cQ <;> intro _)|apply cj|(apply cS <;> intro _)|(exact bo _ (Ei [] (Ai rfl (Ai ea rfl))) (trivial) rfl)|(apply dV 4 rfl;refine fM.up (β:=Unit) 4 5 ((((a.map dR.enc).length:Nat):Int)) (by first|omega|exact eO ‹_› rfl) (by omega) (fun _=>[]) (fun _ _=>True) [0,1] [] 200000 rfl ?_;refine Ai ?_ fun _ _ _ _ _=>aEl [] [] ?_)|exact Ei () (Ai (trivial) (bX rfl rfl rfl rfl))|exact Ai (by first|assumption|omega) (Ei () (Ai (trivial) (bX rfl rfl rfl rfl)))|(apply fV;(iterate 2 first|assumption|omega|(simp only[bp,cK,aZ,bM];omega)|(simp only[Lm] at *;omega)|decide);intro _ _))
theorem D3 (a:List dR)(ha:a.length*176<=aV):Ct ae 60 [.c (.t (.sl 20 (a.map dR.enc))),.c (.t (.sl 20 (a.map dR.enc)))] (aEo true) [] true:=by
 obtain⟨r,rfl,h⟩:=LW a ha;exact h
theorem BN (a:cN)(ha:a.ok):∃ r:Bool,(r=true)/\Ct ae 61 [.agg (a.enc.map .t),.agg (a.enc.map .t)] (aEo r) [] true:=by
 have lZ:=ha;obtain⟨w7,yk,yj,yi,Et⟩:=lZ;refine cU (Φ:=fun (r:Bool)=>r=true) cO (cX Tryz.func61 rfl (by kernel_rfl) rfl (aEl [] [] ?_))
 repeat' (first|(apply eA;(focus (simp[eV,rR];done)))|(apply eX;(focus (simp[eV,rR];done)))|(apply pP;(iterate 2 first|assumption|omega|(simp only[bp,cK,aZ,bM];omega)|(simp only[Lm] at *;omega)|decide);intro _)|exact bo true (Ei [] (Ai rfl (Ai ea rfl))) rfl rfl|(apply bo;exact Ei [] (Ai rfl (Ai ea rfl));(focus (simp[eV,rR];done));rfl)|(apply bN <;> intro _)|(apply ej <;> intro _)|(apply cQ <;> intro _)|apply cj|(apply cS <;> intro _)|(exact bo _ (Ei [] (Ai rfl (Ai ea rfl))) (trivial) rfl)|(apply aT 60;refine cF (D3 _ ‹_›) ⟨rfl,rfl,ea⟩ ?_))
theorem D4 (a:cN)(ha:a.ok):Ct ae 61 [.agg (a.enc.map .t),.agg (a.enc.map .t)] (aEo true) [] true:=by
 obtain⟨r,rfl,h⟩:=BN a ha;exact h
theorem TY (a:bJ)(ha:a.ok):∃ r:Bool,(r=true)/\Ct ae 24 [.agg (a.enc.map .t),.agg (a.enc.map .t)] (aEo r) [] true:=by
 have lZ:=ha;obtain⟨w7,yk,yj,yi,Et,J3,Es,J2,J1,J0⟩:=lZ;refine cU (Φ:=fun (r:Bool)=>r=true) cO (cX Tryz.func24 rfl (by kernel_rfl) rfl (aEl [] [] ?_))
 repeat' (first|(apply eA;(focus (simp[eV,rR];done)))|(apply eX;(focus (simp;done)))|(apply pP;(iterate 2 first|assumption|omega|(simp only[bp,cK,aZ,bM];omega)|(simp only[Lm] at *;omega)|decide);intro _)|exact bo true (Ei [] (Ai rfl (Ai ea rfl))) rfl rfl|(apply bo;exact Ei [] (Ai rfl (Ai ea rfl));(focus (simp[eV,rR];done));rfl)|(apply bN <;> intro _)|(apply ej <;> intro _)|(apply cQ <;> intro _)|apply cj|(apply cS <;> intro _)|(exact bo _ (Ei [] (Ai rfl (Ai ea rfl))) (trivial) rfl)|(apply dV 6 rfl;refine fM.up (β:=Unit) 6 5 ((((a.specs.map gJ.enc).length:Nat):Int)) (by first|omega|exact eO ‹_› rfl) (by omega) (fun _=>[]) (fun _ _=>True) [2,3] [0,128] 200000 rfl ?_;refine Ai ?_ fun _ _ _ _ _=>aEl [] [] ?_)|(apply dV 11 rfl;refine fM.up (β:=Unit) 11 6 ((((a.dv.map cN.enc).length:Nat):Int)) (by first|omega|exact eO ‹_› rfl) (by omega) (fun _=>[]) (fun _ _=>True) [2,3] [0,128] 300000 rfl ?_;refine Ai ?_ fun _ _ _ _ _=>aEl [] [] ?_)|exact Ei () (Ai (trivial) (bX rfl rfl rfl rfl))|exact Ai (by first|assumption|omega) (Ei () (Ai (trivial) (bX rfl rfl rfl rfl)))|(apply fV;(iterate 2 first|assumption|omega|(simp only[bp,cK,aZ,bM];omega)|(simp only[Lm] at *;omega)|decide);intro _ _)|(apply aT 60;refine cF (D3 _ ‹_›) ⟨rfl,rfl,ea⟩ ?_)|(apply aT 61;refine cF (D4 _ (by exact J1 _ (List.getElem_mem _))) ⟨fL (cN.enc _),fL (cN.enc _),ea⟩ ?_))
theorem YG (a:bJ)(ha:a.ok):Ct ae 24 [.agg (a.enc.map .t),.agg (a.enc.map .t)] (aEo true) [] true:=by
 obtain⟨r,rfl,h⟩:=TY a ha;exact h
theorem Yw (l:List aP)(hl:l.length*768<=aV)(ml:∀ y∈l,y.aj.ok):Ct ae 12 [.c (.t (.sl 89 (l.map aP.enc))),.c (.t (.sl 89 (l.map aP.enc)))] (aEo true) [] true:=by
 refine aEs (b:=false) ?_ rfl;refine cT Tryz.func12 rfl (by kernel_rfl) rfl fun w0 O _=>aEk [3] ?_;refine cS (fun h=>absurd h (by simp)) fun _=>?_;refine aEk [] (aEm (fun k:Nat=>⟨[(0,.c (.t (.sl 89 (l.map aP.enc)))),(1,.c (.t (.sl 89 (l.map aP.enc)))),(12,aEn (l.map aP.enc).length),(13,aEn k)],[],[],10000⟩) (fun k=>k<=l.length) (fun k=>l.length - k) 0 ?_ (aA _) ?_)
 ·refine ba [] rfl rfl ?_ ?_ ?_
  repeat' constructor
 rintro k hk;refine aEk [] (cS (fun h=>?_) fun h=>?_)
 ·have aU:=cJ h;have vI:=YG l[k].aj (ml _ (aH aU));refine Ei k (Ei (l[k].enc) (Ai rfl (Ai (aK _ _ k aU) ?_)));refine Ei k (Ei (l[k].enc) (Ai rfl (Ai (aK _ _ k aU) ?_)));refine cS (fun h=>absurd h (by simp)) fun _=>?_;refine Ei k (Ei (l[k].enc) (Ai rfl (Ai (aK _ _ k aU) ?_)));refine Ei k (Ei (l[k].enc) (Ai rfl (Ai (aK _ _ k aU) ?_)));refine cS (fun h=>absurd h (by simp)) fun _=>?_;refine Ei k (Ei (l[k].enc) (Ai rfl (Ai (aK _ _ k aU) ?_)));refine Ei k (Ei (l[k].enc) (Ai rfl (Ai (aK _ _ k aU) ?_)));refine cS (fun h=>absurd h (by simp[eV,rR])) fun _=>?_;refine Ei k (Ei (l[k].enc) (Ai rfl (Ai (aK _ _ k aU) ?_)));refine Ei k (Ei (l[k].enc) (Ai rfl (Ai (aK _ _ k aU) ?_)));refine cF vI ⟨fL l[k].aj.enc,fL l[k].aj.enc,ea⟩ ?_
  (try refine aEk [] ?_)
  refine Ei (k+1) (Ai (show k+1<=_ by omega) (Ai (show l.length - (k+1) < l.length - k by omega) ?_));refine ba [] rfl rfl ?_ ?_ ?_
  ·repeat' constructor
   exact cZ k aU 768 (by decide) hl
  repeat' constructor
 ·refine Ei [] ?_
  repeat' constructor
theorem YK (a:bd)(ha:a.ok)(XL:8 < a.aI.length):∃ r:Bool,r=false/\Ct ae 38 [.agg (a.enc.map .t)] (aEo r) [] true:=by
 have lZ:=ha;obtain⟨w7,yk,yj,yi⟩:=lZ;refine cU (Φ:=fun (r:Bool)=>r=false) cO (cX Tryz.func38 rfl (by kernel_rfl) rfl (aEl [] [1002,3] ?_))
 repeat' (first|(exfalso;(simp only[Lm] at *);omega)|(apply bN <;> intro _)|(apply cQ <;> intro _)|apply cj|(apply cS <;> intro _)|(exact bo _ (Ei [] (Ai rfl (Ai ea rfl))) (rfl) rfl)|(apply dY 1002 rfl;refine aEr (α:=Bool) 1002 (fun p=>[(36,aEo p)]) (fun _=>True) [1] [0] 200000 rfl (Ai (aEl [] [1002,3] ?_) fun _ _=>aEl [] [1002,3] ?_))|(apply dY 3 rfl;refine aEr (α:=Unit) 3 (fun _=>[]) (fun _=>True) [1] [0] 300000 rfl (Ai (aEl [] [1002,3] ?_) fun _ _=>aEl [] [1002,3] ?_))|(apply dY 1004 rfl;refine aEr (α:=Bool) 1004 (fun p=>[(75,aEo p)]) (fun _=>True) [1] [0] 400000 rfl (Ai (aEl [] [1002,3] ?_) fun _ _=>aEl [] [1002,3] ?_))|(apply dY 5 rfl;refine aEr (α:=Unit) 5 (fun _=>[]) (fun _=>True) [1] [0] 500000 rfl (Ai (aEl [] [1002,3] ?_) fun _ _=>aEl [] [1002,3] ?_))|(apply dY 8 rfl;refine aEr (α:=Int) 8 (fun p=>[(3,aEn p)]) (fun _=>True) [1,4] [0] 600000 rfl (Ai (aEl [] [1002,3] ?_) fun _ _=>aEl [] [1002,3] ?_))|(apply dV 7 rfl;refine fM.up (β:=Int) 7 4 ((((a.aI.map bJ.enc).length:Nat):Int)) (by first|omega|exact eO ‹_› rfl) (by omega) (fun p=>[(3,aEn p)]) (fun _ _=>True) [1] [0] 700000 rfl ?_;refine Ai ?_ fun _ _ _ _ _=>aEl [] [1002,3] ?_)|exact Ei () (Ai (trivial) (bX rfl rfl rfl rfl))|exact Ei _ (Ai (trivial) (bX rfl rfl rfl rfl))|exact Ai (by first|assumption|omega) (Ei _ (Ai (trivial) (bX rfl rfl rfl rfl)))|(apply fV;(iterate 2 first|assumption|omega|(simp only[bp,cK,aZ,bM];omega)|(simp only[Lm] at *;omega)|decide);intro _ _)|(apply aT 79;refine cY (JM _) ⟨rfl,ea⟩ fun _ _=>?_)|(apply aT 80;refine cY (JL _) ⟨fL (er.enc _),ea⟩ fun _ _=>?_)|(apply aT 81;refine cY (Xa _ ‹_›) ⟨fL (gw.enc _),ea⟩ fun _ _=>?_)|(apply aT 82;refine cY (Px _) ⟨rfl,ea⟩ fun _ _=>?_)|(apply aT 83;refine cY (uH _ ‹_›) ⟨fL (bd.enc _),ea⟩ fun _ _=>?_)|(apply aT 84;refine cY (Pp _ ‹_›) ⟨fL (bJ.enc _),ea⟩ fun _ _=>?_)|(apply aT 85;refine cY (JB _ ‹_›) ⟨fL (bd.enc _),ea⟩ fun _ _=>?_))
theorem QQ (c:bd)(h:c.ok):∃ r:Bool,(r=true->c.aI.length<=8)/\Ct ae 38 [.agg (c.enc.map .t)] (aEo r) [] true:=by
 by_cases hb:8 < c.aI.length
 ·obtain⟨r,hr,vI⟩:=YK c h hb;exact⟨r,(fun e=>by rw[hr] at e;cases e),vI⟩
 ·obtain⟨r,_,vI⟩:=agM c h;exact⟨r,(fun _=>by omega),vI⟩
open Classical in
noncomputable def uR (c:bd):Bool:=if h:c.ok then Classical.choose (QQ c h) else false
theorem ZX (c:bd)(h:c.ok):Ct ae 38 [.agg (c.enc.map .t)] (aEo (uR c)) [] true:=by
 unfold uR;rw[dif_pos h];exact(Classical.choose_spec (QQ c h)).2
theorem VK {c:bd}(h:uR c=true):c.aI.length<=8:=by
 unfold uR at h;split at h
 ·rename_i hc;exact(Classical.choose_spec (QQ c hc)).1 h
 ·cases h
open Classical in
noncomputable def fiI (l:List bd)(n:ByteArray):Int:=if h:l.length*176<=aV/\∀ y∈l,bd.ok y then Classical.choose (JA l n h.1 h.2) else 0
theorem abZ (l:List bd)(n:ByteArray)(h1:l.length*176<=aV)(h2:∀ y∈l,bd.ok y):Ct ae 39 [.c (.t (.sl 17 (l.map bd.enc))),AV.s n] (aEn (fiI l n)) [] true:=by
 unfold fiI;rw[dif_pos ⟨h1,h2⟩];exact(Classical.choose_spec (JA l n h1 h2)).2
open Classical in
noncomputable def crB (l:List bd)(c:bd):Bool:=if h:(l.length*176<=aV/\∀ y∈l,bd.ok y)/\c.ok then Classical.choose (wB l c h.1.1 h.1.2 h.2) else false
theorem acI (l:List bd)(c:bd)(h1:l.length*176<=aV)(h2:∀ y∈l,bd.ok y)(h3:c.ok):Ct ae 40 [.c (.t (.sl 17 (l.map bd.enc))),.agg (c.enc.map .t)] (aEo (crB l c)) [] true:=by
 unfold crB;rw[dif_pos ⟨⟨h1,h2⟩,h3⟩];exact(Classical.choose_spec (wB l c h1 h2 h3)).2
noncomputable def Nv (l:List bd):Nat->List bd->Int × Int
 | _,[]=>(-1,0)
 | k,c :: r=>if uR c=false then((k:Int),9) else if fiI l c.name < (k:Int) then((k:Int),6) else if crB l c=false then((k:Int),7) else Nv l (k+1) r
noncomputable def CY (l:List bd):Int × Int:=if 256 < l.length then(-1,5) else Nv l 0 l
theorem FX {l:List bd}:∀ (r:List bd) (k:Nat),(Nv l k r).2=0->∀ c∈r,c.aI.length<=8
 | [],_,_,_,h=>by cases h
 | x :: r,k,h,c,hc=>by
  unfold Nv at h;split at h
  ·cases h
  ·rename_i hb;split at h
   ·cases h
   ·split at h
    ·cases h
    ·rcases List.mem_cons.1 hc with rfl|hc
     ·exact VK (by simpa using hb)
     ·exact FX r (k+1) h c hc
theorem Se {l:List bd}(h:(CY l).2=0):l.length<=256/\∀ c∈l,c.aI.length<=8:=by
 unfold CY at h;split at h
 ·cases h
 ·exact⟨by omega,FX l 0 h⟩
theorem Wx (l:List bd)(hl:l.length*176<=aV)(ml:∀ y∈l,bd.ok y):Ct ae 19 [.c (.t (.sl 17 (l.map bd.enc)))] (.gi [aEn (CY l).1,aEn (CY l).2]) [] true:=by
 refine aEs (b:=false) ?_ rfl;generalize hM:CY l=M;unfold CY at hM;refine cT Tryz.func19 rfl (by kernel_rfl) rfl fun w0 O _=>aEk [] ?_;refine cS (fun h=>?_) fun h=>?_
 ·have h:256 < l.length:=by
   have:=of_decide_eq_true h;rw[Lm] at this;omega
  rw[if_pos h] at hM;subst hM;refine Ei [] ?_
  repeat' constructor
 ·have h:¬ 256 < l.length:=by
   have:=of_decide_eq_false h;rw[Lm] at this;omega
  rw[if_neg h] at hM;refine aEm (fun k:Nat=>⟨[(0,.c (.t (.sl 17 (l.map bd.enc)))),(4,aEn k)],[],[],10000⟩) (fun k=>k<=l.length/\Nv l k (l.drop k)=M) (fun k=>l.length - k) 0 ?_ ⟨aA _,hM⟩ ?_
  ·refine ba [] rfl rfl ?_ ?_ ?_
   repeat' constructor
  rintro k ⟨hk,he⟩;refine aEk [] (cS (fun h=>?_) fun h=>?_)
  ·have aU:k < l.length:=cJ h;have hco:=ml _ (aH aU);rw[cd aU,Nv] at he;refine Ei k (Ei (l[k].enc) (Ai rfl (Ai (aK _ _ k aU) ?_)));refine cF (ZX l[k] hco) ⟨fL l[k].enc,ea⟩ ?_;refine cj (cS (fun h1=>?_) fun h1=>?_)
   ·rw[if_neg (by rw[show uR l[k]=true from h1];decide)] at he;refine Ei k (Ei (l[k].enc) (Ai rfl (Ai (aK _ _ k aU) ?_)));refine cF (abZ l l[k].name hl ml) ⟨rfl,rfl,ea⟩ ?_;refine cS (fun h2=>?_) fun h2=>?_
    ·rw[if_pos (of_decide_eq_true h2)] at he;subst he;refine Ei [] ?_
     repeat' constructor
    ·rw[if_neg (of_decide_eq_false h2)] at he;refine Ei k (Ei (l[k].enc) (Ai rfl (Ai (aK _ _ k aU) ?_)));refine cF (acI l l[k] hl ml hco) ⟨rfl,fL l[k].enc,ea⟩ ?_;refine cj (cS (fun h3=>?_) fun h3=>?_)
     ·rw[if_neg (by rw[show crB l l[k]=true from h3];decide)] at he
      (try refine aEk [] ?_)
      refine Ei (k+1) (Ai ⟨aU,he⟩ (Ai (show l.length - (k+1) < l.length - k by omega) ?_));refine ba [] rfl rfl ?_ ?_ ?_
      ·repeat' constructor
       exact cZ k aU 176 (by decide) hl
      repeat' constructor
     ·rw[if_pos (show crB l l[k]=false from h3)] at he;subst he;refine Ei [] ?_
      repeat' constructor
   ·rw[if_pos (show uR l[k]=false from h1)] at he;subst he;refine Ei [] ?_
    repeat' constructor
  ·have fp:k=l.length:=dM h hk;rw[fp,List.drop_eq_nil_of_le (ak _)] at he;have he:((-1:Int),(0:Int))=M:=he;subst he;refine Ei [] ?_
   repeat' constructor
noncomputable def Bh (l:List bd)(s:aq):Bool:=(CY l).2==0&&iQ tL ((l.length:Nat):Int) s
theorem Bi (l:List bd)(s:aq)(hl:l.length*176<=aV)(ml:∀ y∈l,bd.ok y)(hs:s.ok):Ct ae 8 [.c (.t (.sl 17 (l.map bd.enc))),.agg (s.enc.map .t)] (aEo (Bh l s)) [] true:=by
 refine aEs (b:=false) ?_ rfl;generalize hM:Bh l s=M;unfold Bh at hM;refine cT Tryz.func8 rfl (by kernel_rfl) rfl fun w0 O _=>aEk [] ?_;refine cF (Wx l hl ml) ⟨rfl,ea⟩ ?_;refine cS (fun h=>?_) fun h=>?_
 ·rw[show((CY l).2==0)=true from h,cq] at hM;refine cF (agK l s hl ml hs) ⟨rfl,fL s.enc,ea⟩ ?_;subst hM;refine Ei [] ?_
  repeat' constructor
 ·rw[show((CY l).2==0)=false from h,cm] at hM;subst hM;refine Ei [] ?_
  repeat' constructor
theorem Ti {l:List bd}{s:aq}(h:Bh l s=true):(l.length<=256/\∀ c∈l,c.aI.length<=8)/\iQ tL ((l.length:Nat):Int) s=true:=by
 unfold Bh at h;rw[ah] at h;exact⟨Se (by simpa using h.1),h.2⟩
structure pf (aE:List bd)(s:aq):Prop where
 hc:aE.length*176<=aV
 mc:∀ y∈aE,bd.ok y
 h:s.ok
 uX:∀ c∈aE,c.aI.length<=8
 len:s.aa.length<=2048
 ct:s.dD.length<=64
 s8:s.aa.Pairwise fun a b=>a.id < b.id
theorem VJ {q:uA}{c:Int}{s:aq}(h:iQ q c s=true):s.bC<=1000000/\s.bF<=1000000:=by
 unfold iQ EU at h;simp only[ah,cu,decide_eq_false_iff_not] at h;obtain⟨⟨a1,a2,_⟩,_⟩:=h;rw[py] at a1 a2;exact⟨a1.2,a2.2⟩
theorem pf.Hy {l:List bd}{s:aq}(h:Bh l s=true)(hl:l.length*176<=aV)(ml:∀ y∈l,bd.ok y)(hs:s.ok):pf l s/\kj tL l.length s/\(s.bC<=1000000/\s.bF<=1000000):=by
 obtain⟨⟨_,h2⟩,h3⟩:=Ti h;have V:=Oc h3;have a1:=V.Ez;have a2:=V.XW.1;exact⟨⟨hl,ml,hs,h2,by omega,by omega,V.s8⟩,V,VJ h3⟩
theorem pf.many {aE:List bd}{s:aq}(H:pf aE s):(amP aE s).length<=1000000:=by
 have:=Rr (s:=s) H.uX;have h1:=H.len;have h2:=H.ct;omega
theorem pf.yc {aE:List bd}{s:aq}(H:pf aE s):(alY aE s).length=s.aa.length/\∀ y∈alY aE s,aD.ok y:=WN H.mc H.h (aX H.len (by decide)) H.many
theorem pf.Su {aE:List bd}{s:aq}(H:pf aE s):(alY aE s).length*176<=aV:=by
 rw[H.yc.1];have h1:=H.len;unfold aV;omega
theorem pf.all {aE:List bd}{s:aq}(H:pf aE s):Ct ae 11 [.c (.t (.sl 17 (aE.map bd.enc))),.agg (s.enc.map .t)] (.c (.t (.sl 17 ((alY aE s).map aD.enc)))) [] false:=alJ aE s H.hc H.mc H.h (aX H.len (by decide)) H.many
theorem pf.W7 {aE:List bd}{s:aq}(H:pf aE s)(e:Bool):(et (alY aE s) e 0 s.aa).length<=20000:=by
 have:=Dy (all:=alY aE s) (e:=e) (n:=8) (Ss H.uX) s.aa 0;have h1:=H.len;omega
theorem pf.Jd {aE:List bd}{s:aq}(H:pf aE s)(e:Bool):∀ w∈et (alY aE s) e 0 s.aa,w.aj.ok:=fun w hw=>by
 obtain⟨⟨j,hj,_,_,_,h4⟩,_⟩:=qU _ _ _ _ w hw;exact(tu H.yc.2 _).2.2.2 _ h4
noncomputable def TH (aE:List bd)(s t:aq)(e:bG):fZ:=⟨s,t,alY aE s,alY aE t,e⟩
noncomputable def afW (aE:List bd)(s t:aq)(e:bG):eB:=⟨s,t,alY aE s,alY aE t,e,gQ (eN t.aa) (eN s.aa)⟩
noncomputable def CA (aE:List bd)(s t:aq)(e:bG):List aP:=o5 (TH aE s t e)
theorem CI {aE:List bd}{s t:aq}(e:bG)(H:pf aE s)(K:pf aE t):Ct ae 13 [.agg (s.enc.map .t),.c (.t (.sl 17 ((alY aE s).map aD.enc))),.agg (t.enc.map .t),.c (.t (.sl 17 ((alY aE t).map aD.enc))),.agg (e.enc.map .t)] (.c (.t (.sl 89 ((CA aE s t e).map aP.enc)))) [] false:=
 Ry (TH aE s t e) (aX H.len (by decide)) (aX K.len (by decide)) K.h H.Su K.Su H.yc.2 K.yc.2 (aX (H.W7 true) (by decide)) (aX (K.W7 false) (by decide)) fun w hw=>by
  rcases bh.1 hw with hw|hw
  ·exact H.Jd true w hw
  ·exact K.Jd false w hw
theorem FC {aE:List bd}{s t:aq}(e:bG)(H:pf aE s)(K:pf aE t):Ct ae 14 [.agg (s.enc.map .t),.c (.t (.sl 17 ((alY aE s).map aD.enc))),.agg (t.enc.map .t),.c (.t (.sl 17 ((alY aE t).map aD.enc))),.agg (e.enc.map .t)] (.c (.t (.sl 89 ((CA aE s t e).map aP.enc)))) [] false:=by
 have h:=M7 (afW aE s t e) rfl (aX H.len (by decide)) (aX K.len (by decide)) K.h H.Su K.Su H.yc.2 K.yc.2 (aX (H.W7 true) (by decide)) (aX (K.W7 false) (by decide));rw[<- Rx (afW aE s t e) rfl H.s8 K.s8] at h;exact h
theorem abO {aE:List bd}{s t:aq}{e:bG}{x:aP}(h:x∈CA aE s t e):∃ w,(w∈et (alY aE s) true 0 s.aa\/w∈et (alY aE t) false 0 t.aa)/\x∈gz (TH aE s t e) w:=by
 obtain⟨w,hw,hx⟩:=List.mem_flatMap.1 h;exact⟨w,bh.1 ((qf _).mem_iff.1 hw),hx⟩
theorem Th {c:fZ}{w:aG}{x:aP}(h:x∈gz c w):x.dC=w.id/\x.dB=w.you/\x.aj=w.aj:=by
 unfold gz at h;split at h
 ·split at h
  ·rw[aJ.1 h];exact⟨rfl,rfl,rfl⟩
  ·cases h
 ·obtain⟨i,_,rfl⟩:=bL.1 h;exact⟨rfl,rfl,rfl⟩
theorem akH {aE:List bd}{s t:aq}{e:bG}(H:pf aE s)(K:pf aE t):∀ y∈CA aE s t e,y.aj.ok:=fun y hy=>by
 obtain⟨w,hw,hx⟩:=abO hy;rw[(Th hx).2.2];rcases hw with hw|hw
 ·exact H.Jd true w hw
 ·exact K.Jd false w hw
theorem abP {aE:List bd}{s t:aq}{e:bG}(H:pf aE s)(K:pf aE t):(CA aE s t e).length*768<=aV:=by
 have h1:=H.W7 true;have h2:=K.W7 false;have h3:=K.len
 have h4:(CA aE s t e).length<=40000*2049:=by
  unfold CA o5;rw[List.length_flatMap];refine aX (GN (fun w=>(gz (TH aE s t e) w).length) 2049 (fun w=>aX (vT _ w) (by show t.aa.length+1<=2049;omega)) _) ?_;refine cy _ ?_;rw[(qf _).length_eq,al];show(et (alY aE s) true 0 s.aa).length+(et (alY aE t) false 0 t.aa).length<=_;omega
 unfold aV;omega
theorem Js {aE:List bd}{s t:aq}{e:bG}(H:pf aE s)(K:pf aE t):Ct ae 12 [.c (.t (.sl 89 ((CA aE s t e).map aP.enc))),.c (.t (.sl 89 ((CA aE s t e).map aP.enc)))] (aEo true) [] true:=Yw _ (abP H K) (akH H K)
noncomputable def zf (aE:List bd)(s:aq)(e:bG):aq:=ym aE s (alY aE s) e
theorem pf.doh {aE:List bd}{s:aq}(H:pf aE s)(V:kj tL aE.length s)(hn:s.bC<=1000000/\s.bF<=1000000):Tb tL aE s (alY aE s):=⟨H.hc,H.mc,H.h,H.Su,H.yc.2,V,hn⟩
theorem pf.N2 {aE:List bd}{s:aq}(H:pf aE s)(D:Tb tL aE s (alY aE s))(e:bG):pf aE (zf aE s e):=by
 have R:=D.res e;exact⟨H.hc,H.mc,R.ok,H.uX,R.len,by show(ym aE s (alY aE s) e).dD.length<=64;rw[R.ct];exact H.ct,R.s8⟩
theorem Gh {aE:List bd}{s:aq}(H:pf aE s)(D:Tb tL aE s (alY aE s))(e:bG):Ct ae 10 [.c (.t (.sl 17 (aE.map bd.enc))),.agg (s.enc.map .t),.agg (e.enc.map .t)] (.agg ((zf aE s e).enc.map .t)) [] false:=by
 have h1:=H.all;have h2:=agI D (e:=e);generalize hM:zf aE s e=M;unfold zf at hM;rw[hM] at h2;generalize alY aE s=L at *;refine cT Tryz.func10 rfl (by kernel_rfl) rfl fun w0 O _=>aEk [] ?_;refine cR h1 ⟨rfl,fL s.enc,ea⟩ ?_;refine cR h2 ⟨rfl,fL s.enc,rfl,fL e.enc,ea⟩ ?_;refine Ei [] ?_
 repeat' constructor
theorem Au {aE:List bd}{s:aq}(H:pf aE s)(D:Tb tL aE s (alY aE s))(e:bG):Ct ae 15 [.c (.t (.sl 17 (aE.map bd.enc))),.agg (s.enc.map .t),.agg (e.enc.map .t)] (.c (.t (.sl 89 ((CA aE s (zf aE s e) e).map aP.enc)))) [] false:=by
 have h1:=Gh H D e;have K:=H.N2 D e;generalize zf aE s e=t at *;have h2:=H.all;have h3:=K.all;have h4:=CI e H K;generalize CA aE s t e=M at *;generalize alY aE s=L1 at *;generalize alY aE t=L2 at *;refine cT Tryz.func15 rfl (by kernel_rfl) rfl fun w0 O _=>aEk [] ?_;refine cR h1 ⟨rfl,fL s.enc,fL e.enc,ea⟩ ?_;refine cR h2 ⟨rfl,fL s.enc,ea⟩ ?_;refine cR h3 ⟨rfl,fL t.enc,ea⟩ ?_;refine cR h4 ⟨fL s.enc,rfl,fL t.enc,rfl,fL e.enc,ea⟩ ?_;refine Ei [] ?_
 repeat' constructor
end
section
open Go Cg Go.RowKit
def p20:bO:=⟨20,0,0,0,0,0,0,0,0,false,false,[],[],[]⟩
def Qb (gy:Int):aq:=⟨[p20,p20],[],[],[],[],[],[],0,0,0,false,0,0,1,1,gy,[],0,-1⟩
def wu:List Tr:=[iv 20,iv 0,iv 0,iv 0,iv 0,iv 0,iv 0,iv 0,iv 0,bv false,bv false,.sl 0 [],.sl 0 [],.sl 0 []]
theorem Jv:S8 wu p20.enc:=by repeat' constructor
def akM (you:Int)(i:Nat):az:={ id:=(i+1:Nat),ee:=0,dq:=you,dB:=you,cn:=0,token:=false,fe:=false,qh:=false,jH:=false,fX:=0,de:=0,dd:=0,dA:=0,dG:=(i+1:Nat),copy:=-1,j3:=-1,blocked:=false,blocks:=0,nD:=0 }
def xD (you:Int)(k:Nat):List az:=(List.range k).map (akM you)
def zb (k:Nat):List Int:=(List.range k).map fun i=>((i+1:Nat):Int)
def jZ (you:Int)(k:Nat):aq:={ Qb 1 with aa:=xD you k,bu:=zb k,bC:=(k+1:Nat),bF:=(k+1:Nat) }
theorem M0 (you:Int)(k:Nat):xD you (k+1)=xD you k++[akM you k]:=by
 unfold xD;rw[List.range_succ,aQ];rfl
theorem M3 (k:Nat):zb (k+1)=zb k++[((k+1:Nat):Int)]:=by
 unfold zb;rw[List.range_succ,aQ];rfl
theorem su (you:Int)(k:Nat):(xD you k).length=k:=by simp[xD]
theorem xE (k:Nat):(zb k).length=k:=by simp[zb]
def jq:ck:=⟨0,0,0,0,0,0,0,⟨#[]⟩,0,0,⟨0,0⟩,⟨0,0⟩,⟨0,0⟩⟩
def wm:ck:={ jq with self:=1 }
def abW:cN:=⟨4,⟨1,0,jq⟩,⟨0,1,0,jq⟩,0,0,⟨#[]⟩,jq,0,0,0,0,0,0,[]⟩
def W3:er:=⟨0,0,0,0,0,0,0⟩
def qB (t:eb):bJ:=⟨4,jq,[],⟨W3,false,false,0⟩,false,t,false,[],[abW],⟨0,0,jq,0,0,0,0⟩⟩
def gE (t:eb):bd:=⟨⟨#[102,111,120]⟩,false,W3,0,⟨0,1,[]⟩,1,1,0,[qB t]⟩
theorem kU:jq.ok:=⟨ea,ea,ea⟩
theorem Wa:abW.ok:=⟨kU,kU,kU,aA _,fun _ h=>by cases h⟩
theorem Wc (t:eb)(h:t.ok):(qB t).ok:=by
 refine⟨kU,aA _,(fun _ h=>by cases h),ea,h,aA _,(fun _ h=>by cases h),?_,fun y hy=>?_,kU⟩
 ·show 1*560<=aV;unfold aV;omega
 ·rw[aJ.1 hy];exact Wa
theorem Wb (t:eb)(h:t.ok):(gE t).ok:=by
 refine⟨ea,aA _,?_,fun y hy=>?_⟩
 ·show 1*640<=aV;unfold aV;omega
 ·rw[aJ.1 hy];exact Wc t h
theorem abT:∀ n:Fin 21,iQ tL 1 (jZ 0 n.val)=true/\iQ tL 1 (jZ 1 n.val)=true:=by decide +kernel
end
end Go.Proofs.YtbmdcnkidjlbbaaGreat
namespace Cg
section
open Go Go.RowKit Go.Sort Go.Lib
section
variable {P:Program}{T:Nat->Option Ty}{O:iy}[GlC O]{N:Nat}{w0:World}
def yp (P:Program)(T:Nat->Option Ty)(N:Nat)(w0:World)(O:iy)(ops:Array Oper)(j:Nat)(st:St)(Q:Ex->St->Prop):Prop:=
 dz P T->kC N ops false=true->∀ E a w,iE O E w w0.heap.size N st a->Below w0.heap.size w0 w->wpOpsIn (wid none) 0 P ops (mq w0 N O Q) (List.range' j (ops.size - j)) a w
omit [GlC O] in
theorem yp.start {id:Nat}{ops:Array Oper}{st:St}{Q:Ex->St->Prop}(h:yp P T N w0 O ops 0 st Q):Tp P T N w0 O (.region id ops false) st Q:=fun hT hc E a w r hb=>by
 refine(wpIn_wide (n:=0)).1 (wpIn_region ?_);rw[List.range_eq_range'];exact h hT hc E a w r hb
omit [GlC O] in
theorem yp.wk [eQ O]{ops:Array Oper}{j:Nat}{st dc:St}{Q:Ex->St->Prop}(hw:Wk st dc)(h:yp P T N w0 O ops j dc Q):yp P T N w0 O ops j st Q:=fun hT hc E a w r hb=>by
 obtain⟨E',r'⟩:=hw O E w _ N a r;exact h hT hc E' a w r' hb
omit [GlC O] in
theorem yp.nW [eQ O](ms:List Nat){ops:Array Oper}{j:Nat}{st:St}{Q:Ex->St->Prop}(h:yp P T N w0 O ops j (Cg.nW ms st) Q):yp P T N w0 O ops j st Q:=yp.wk (Wk.nW ms st) h
omit [GlC O] in
theorem yp.done {ops:Array Oper}{j:Nat}{st:St}{Q:Ex->St->Prop}(hj:Nat.ble ops.size j=true)(h:Q .iV st):yp P T N w0 O ops j st Q:=fun _ _ E a w r hb=>by
 have:=Nb hj;rw[show ops.size - j=0 by omega];exact⟨st,E,h,r,hb⟩
theorem yp.run (n:Nat){ops:Array Oper}{j:Nat}{st:St}{Q:Ex->St->Prop}(pA:ops.toList.all w9=true)(hn:Nat.ble (j+n) ops.size=true)(h:kg P T ops st.nx 0 ((ops.toList.drop j).take n) st fun od=>match od with
  | ⟨sl,bx,rw,_⟩=>nY (st.nx+128*n) fun nx=>yp P T N w0 O ops (j+n) ⟨sl,bx,rw,nx⟩ Q):yp P T N w0 O ops j st Q:=fun hT hc E a w r hb=>by
 have hn:=Nb hn;obtain⟨L,hL,hp,dc,hK,he⟩:=jA ((ops.toList.drop j).take n) [] st _ (kT.refl _) (fun j o d hj=>by simp at hj) h;rw[bE] at hp he
 have hlen:L.length=n:=by
  rw[<- Lm (f:=(·.1)),hL,au,aO,bP];omega
 have k0:=r.kb;have r0:cx O E w w0.heap.size N (st.nx+128*n) st a:=r.mono (by omega)
 rw[show List.range' j (ops.size - j)=List.range' (j+0) n++List.range' (j+n) (ops.size - (j+n)) by
  have:=List.range'_append_1 (s:=j) (m:=n) (n:=ops.size - (j+n));rw[dm,this,show n+(ops.size - (j+n))=ops.size - j by omega]]
 refine lF (ro:=none) hT hc pA (fun i o d hi=>?_) hp k0 (m:=st.nx+128*n) (by rw[hlen];omega) n 0 E w a (by omega) (by simpa [bU] using r0) fun E1 w1 a1 r1 pS=>?_
 ·have:((ops.toList.drop j).take n)[i]? = some o:=by rw[<- hL,bI,hi];rfl
  rw[List.getElem?_take] at this;split at this
  ·rw[List.getElem?_drop,dF] at this;exact this
  ·cases this
 ·obtain⟨sl,bx,dU,nx⟩:=dc;simp only[la] at hK;have he':kT (bU st L) ⟨sl,bx,dU,st.nx+128*n⟩:=⟨he.sl,he.bx,he.rw⟩
  exact hK hT hc E1 a1 w1 (he'.rep r1) (hb.trans pS)
end
end
end Cg
namespace Go.Proofs.YtbmdcnkidjlbbaaGreat
section
open Go Cg Go.RowKit
def ahK (gy:Int):List Ce:=((((Qb gy).enc.map Ce.t).set 0 (.t (.sl 14 [wu,wu]))).set 1 .nil).set 2 .nil
theorem TZ (gy:Int):Ct ae 37 [.c (.t (iv 2)),.c (.t (iv 0)),Gu gy] (.agg (ahK gy)) [] false:=by
 refine cT Tryz.func37 rfl (by kernel_rfl) rfl fun w0 O _=>aEk [7,8,10] ?_;refine aEm (fun k:Nat=>⟨[(1,.c (.t (iv 0))),(6,.ptr 0 0),(7,.c (.t (iv 2))),(8,.ptr 896 0),(9,aEn k)],[(0,List.replicate 19 .bot),(896,((ahK gy).set 0 (.row 9000 0)))],[(9000,⟨163,14,0,List.replicate k wu,none⟩)],10000⟩) (fun k=>k<=2) (fun k=>2 - k) 0 ?_ (aA _) ?_
 ·refine ba [] rfl rfl ?_ ?_ ?_
  repeat' constructor
 rintro k hk;refine aEk [5,6,7] (cS (fun hc=>?_) fun hc=>?_)
 ·have aU:k < 2:=by have:=of_decide_eq_true hc;omega
  refine aEk [] (Ai (.inl rfl) (Ai ?_ (Ai ?_ ?_)))
  ·rw[cz];show(k+1)*152<=_;omega
  ·rw[cz];show k+1 < _;omega
  refine aEk [] (Ei (k+1) (Ai (show k+1<=2 by omega) (Ai (show 2 - (k+1) < 2 - k by omega) ?_)));refine ba [(9000,9000)] rfl rfl ?_ ?_ ?_
  repeat' constructor
  exact congrArg iv (jQ k (by omega));exact(List.replicate_succ' (n:=k) (a:=wu)).symm
 ·have:k=2:=by have:=of_decide_eq_false hc;omega
  subst this;refine aEk [] (aEk [] (aEk [] (Ei [] ?_)))
  repeat' constructor
attribute [local irreducible] yp
theorem Bo {α:Type}(f:α->List Tr)(h:∀ x,S8 (f x) (f x)):∀ l:List α,WU (l.map f) (l.map f)
 | []=>.nil
 | x :: r=>.cons (h x) (Bo f h r)
theorem abR (you:Int)(n:Nat):S8 ((jZ you n).enc.set 0 (.sl 14 [wu,wu])) (jZ you n).enc:=by
 have h1:TS (.sl 19 ((xD you n).map az.enc)) (.sl 19 ((xD you n).map az.enc)):=.sl 19 (Bo _ (fun o=>by repeat' constructor) _);have h2:TS (.sl 1 ((zb n).map eI)) (.sl 1 ((zb n).map eI)):=.sl 1 (Bo _ (fun o=>by repeat' constructor) _);refine .cons ?_ (.cons h1 (.cons h2 ?_))
 ·exact .sl 14 (.cons Jv (.cons Jv .nil))
 ·repeat' constructor
def akL (t:eb):Tr:=.sl 17 [((gE t).enc.set 12 (.sl 0 [])).set 16 (.sl 72 [(((qB t).enc.set 17 (.sl 0 [])).set 48 (.sl 0 [])).set 49 (.sl 64 [abW.enc.set 63 (.sl 0 [])])])]
theorem abU (t:eb):Ct ae 17 [.agg (t.enc.map .t)] (.c (.t (.sl 17 ([gE t].map bd.enc)))) [] false:=by
 refine Ct.ts1 (t:=akL t) ?_ (by repeat' constructor);refine cT Tryz.func17 rfl (by kernel_rfl) rfl fun w0 O _=>aEk [2] ?_;refine yp.start (yp.run 4 rfl rfl ?_);refine yp.nW [] (yp.run 2 rfl rfl ?_);refine yp.nW [] (yp.run 3 rfl rfl ?_);refine yp.done rfl (Ei [] ?_)
 repeat' constructor
def acK:List Ce:=((((Qb 1).enc.map Ce.t).set 0 (.t (.sl 14 [wu,wu]))).set 1 (.row 9000 0)).set 2 (.row 9100 0)
theorem Ro (n:Nat)(you:Int)(hn:n<=1000):Ct ae 18 [.c (.t (iv n)),.c (.t (iv you))] (.agg ((jZ you n).enc.map .t)) [] false:=by
 refine Ct.ts (ts:=(jZ you n).enc.set 0 (.sl 14 [wu,wu])) ?_ ?_
 case refine_2=>exact abR you n
 refine cT Tryz.func18 rfl (by kernel_rfl) rfl fun w0 O _=>aEk [3,4,5,6,7,8,9] ?_;refine cR (TZ 1) ⟨rfl,rfl,rfl,ea⟩ ?_;refine aEk [] (aEk [] (aEm (fun k:Nat=>⟨[(0,aEn n),(1,aEn you),(4,.ptr 0 0),(5,.ptr 256 0),(6,aEn ((k+1:Nat):Int))],[(0,List.replicate 19 .bot),(256,acK)],[(9000,⟨75,19,0,(xD you k).map az.enc,none⟩),(9100,⟨3,1,0,(zb k).map eI,none⟩)],10000⟩) (fun k=>k<=n) (fun k=>n - k) 0 ?_ (aA _) ?_))
 ·refine ba [] rfl rfl ?_ ?_ ?_
  repeat' constructor
 rintro k hk;refine aEk [4,5,6,7] (cS (fun hc=>?_) fun hc=>?_)
 ·have aU:k < n:=by have:=of_decide_eq_true hc;omega
  (try refine aEk [] ?_)
  (try refine aEk [] ?_)
  refine Ai (.inl rfl) (Ai ?_ (Ai ?_ ?_))
  ·rw[Lm,su];show(k+1)*128<=_;omega
  ·rw[Lm,su];show k+1 < _;omega
  refine aEk [] (Ai (.inl rfl) (Ai ?_ (Ai ?_ ?_)))
  ·rw[Lm,xE];show(k+1)*8<=_;omega
  ·rw[Lm,xE];show k+1 < _;omega
  refine aEk [] (Ei (k+1) (Ai (show k+1<=n by omega) (Ai (show n - (k+1) < n - k by omega) ?_)));refine ba [(9000,9000),(9100,9100)] rfl rfl ?_ ?_ ?_
  repeat' constructor
  exact congrArg iv (jQ (k+1) (by omega))
  ·rw[M0,aQ];rfl
  ·rw[M3,aQ];rfl
 ·have:k=n:=by have:=of_decide_eq_false hc;omega
  subst this;refine aEk [] (aEk [] ?_)
  (try refine aEk [] ?_)
  refine Ei [] ?_
  repeat' constructor
  ·exact congrArg iv (jQ k (by omega))
  ·exact congrArg iv (jQ k (by omega))
section
variable {t:eb}{s T:aq}{e:bG}
theorem Fp (o:az):∀ a∈(ofM [gE t] o).aI,a=qB t:=by
 have key:∀ (x:aD) (c:Int),(∀ a∈x.aI,a=qB t)->∀ a∈({ x with dB:=c }:aD).aI,a=qB t:=fun _ _ h=>h;unfold ofM;refine key _ _ ?_;generalize (if o.copy < 0 then o.ee else o.copy)=i;split
 ·rename_i c hc;split at hc
  ·cases hc
  ·have:=bc hc;rw[aJ.1 this];intro a ha;exact aJ.1 ha
 ·intro a ha
  cases ha
theorem abV (b:Bool):∀ w∈et (alY [gE t] s) b 0 s.aa,w.aj=qB t/\tX t.when=b:=fun w hw=>by
 obtain⟨⟨j,hj,_,_,_,h4⟩,_,h5⟩:=qU _ _ _ _ w hw
 have ha:w.aj=qB t:=by
  rw[bw] at h4;unfold eP at h4
  cases hq:(alY [gE t] s)[j]? with
  | none=>
   rw[hq] at h4
   cases h4
  | some x=>
   rw[hq] at h4;have h4:w.aj∈x.aI:=h4;obtain⟨o,_,h|h⟩:=Le [gE t] s j x hq
   ·rw[h] at h4
    cases h4
   ·rw[h] at h4;exact Fp o _ h4
 refine⟨ha,?_⟩;rw[ha] at h5;exact h5
theorem Rp {b:Bool}(h:tX t.when≠b):et (alY [gE t] s) b 0 s.aa=[]:=List.eq_nil_iff_forall_not_mem.2 fun w hw=>h (abV b w hw).2
theorem abS {o:az}(h1:o.ee=0)(h2:o.copy = -1)(h3:o.cn=0):ofM [gE t] o={ BS (gE t) with dB:=o.dB }:=by
 unfold ofM;rw[h1,h2,h3];rfl
theorem Fq (o:az):∀ (l:List bJ) (k:Nat),(∀ a∈l,a.kind=4)->amQ o k l=[]
 | [],_,_=>rfl
 | a :: r,k,h=>by
  rw[amQ,Fq o r (k+1) fun x hx=>h x (aM _ hx),h a aB];rfl
theorem V7 (hc:s.dD=[]):amP [gE t] s=[]:=by
 unfold amP;rw[hc,List.map_nil,aW,List.flatMap_eq_nil_iff];intro o _;unfold l0;split
 ·exact Fq o _ 0 fun a ha=>by rw[Fp o a ha];rfl
 ·rfl
theorem Dk {α β γ:Type}(f:α->β)(g:α × β->γ):∀ l:List α,(l.zip (l.map f)).map g=l.map fun x=>g (x,f x)
 | []=>rfl
 | x :: r=>by rw[bW,List.zip_cons_cons,bW,bW,Dk f g r]
theorem V8 (hc:s.dD=[]):alY [gE t] s=s.aa.map fun o=>kR o (ofM [gE t] o):=by
 rw[allM_nil (V7 hc),Dk]
structure Ta (s:aq):Prop where
 ct:s.dD=[]
 ob:∀ o∈s.aa,o.ee=0/\o.copy = -1/\o.cn=0
 s8:s.aa.Pairwise fun a b=>a.id < b.id
theorem Ta.tr (H:Ta s)(k:Nat)(hk:k < s.aa.length):eP (alY [gE t] s) k=kR s.aa[k] { BS (gE t) with dB:=s.aa[k].dB }:=by
 obtain⟨h1,h2,h3⟩:=H.ob _ (aH hk);unfold eP;rw[V8 H.ct,bI,ag hk,<- abS h1 h2 h3];rfl
def wtF (t:eb)(b:Bool)(o:az):aG:=⟨o.id,0,o.dB,qB t,b⟩
theorem Je {all:List aD}{b:Bool}(he:tX t.when=b):∀ (l:List az) (i:Nat),(∀ k (hk:k < l.length),(eP all (i+k)).aI=[qB t]/\(eP all (i+k)).dB=l[k].dB/\l[k].cn=0)->et all b i l=l.map (wtF t b)
 | [],_,_=>rfl
 | o :: r,i,h=>by
  rw[et,Je he r (i+1) fun k hk=>by
   have:=h (k+1) (Nat.succ_lt_succ hk);rw[show i+(k+1)=i+1+k by omega] at this;exact this]
  obtain⟨h1,h2,h3⟩:=h 0 (Nat.succ_pos _);have h3:o.cn=0:=h3;rw[dm] at h1 h2;have h2:(eP all i).dB=o.dB:=h2;unfold tj;rw[if_pos (by rw[h3];rfl),h1,h2]
  have:((qB t).kind==4&&tX (qB t).aF.when==b)=true:=by
   show(true&&tX t.when==b)=true;rw[he,cq,beq_self_eq_true]
  rw[jr,if_pos this];rfl
theorem XZ (o:az)(x:aD):(kR o x).aI=x.aI/\(kR o x).dB=x.dB/\(kR o x).line=x.line/\(kR o x).keys=x.keys:=by
 unfold kR;split <;> exact⟨rfl,rfl,rfl,rfl⟩
theorem Ta.W7 (H:Ta s){b:Bool}(he:tX t.when=b):et (alY [gE t] s) b 0 s.aa=s.aa.map (wtF t b):=by
 refine Je he _ 0 fun k hk=>?_;rw[bw,H.tr k hk];obtain⟨h1,h2,_⟩:=XZ s.aa[k] { BS (gE t) with dB:=s.aa[k].dB };exact⟨h1,h2,(H.ob _ (aH hk)).2.2⟩
theorem OG {l:List aG}(h:l.Pairwise Gv):jx (iq sH) l=l:=by
 rw[zz];exact xr l [] h
theorem Fo (he:tX t.when=true)(H:Ta s):CA [gE t] s T e=s.aa.flatMap fun o=>gz (TH [gE t] s T e) (wtF t true o):=by
 unfold CA o5;show(jx (iq sH) (et (alY [gE t] s) true 0 s.aa++et (alY [gE t] T) false 0 T.aa)).flatMap _=_;rw[Rp (s:=T) (by rw[he];decide),aW,OG (qT _ _ _ _ H.s8),H.W7 he,List.flatMap_map]
theorem na {α β:Type}{f:α->List β}{g:α->β}{l:List α}(h:∀ x∈l,f x=[g x]):l.flatMap f=l.map g:=by
 induction l with
 | nil=>rfl
 | cons x r ih=>rw[bZ,h x aB,ih fun y hy=>h y (aM _ hy)];rfl
theorem Ru {α β:Type}{f:α->List β}{l:List α}(h:∀ x∈l,f x=[]):l.flatMap f=[]:=List.flatMap_eq_nil_iff.2 h
theorem acT (a:Int):Gg a 0=0:=by
 unfold Gg;rw[show BitVec.ofInt IntKind.i64.bits 0=0#_ from rfl,BitVec.and_zero];rfl
theorem awO:xH jq=true/\xH wm=true:=by
 unfold xH S7;rw[show jq.sub=(⟨#[]⟩:ByteArray) from rfl,show wm.sub=(⟨#[]⟩:ByteArray) from rfl,beq_self_eq_true];exact⟨rfl,rfl⟩
theorem auW (h:Int):yV h 0 0=true:=by
 unfold yV BB;rw[acT];rfl
theorem awW (x:aD):kS x jq=true/\kS x wm=true:=by
 unfold kS ze lE;exact⟨rfl,rfl⟩
theorem amE {o:az}{x:aD}(you src:Int)(h:o.cn=0)(hk:x.keys=0):fC o x you src jq=true/\fC o x you src wm=(o.id==src):=by
 unfold fC;rw[awO.1,awO.2,(awW x).1,(awW x).2,h,hk];show(true&&(true&&(va x.dB you 0&&(va o.id src 0&&(yV x.line.types 0 0&&(yV x.ek 0 0&&((S7 ⟨#[]⟩||pT x.line.eu ⟨#[]⟩)&&(oD 0 0&&(GL o.fe 0&&true)))))))))=true/\(true&&(true&&(va x.dB you 0&&(va o.id src 1&&(yV x.line.types 0 0&&(yV x.ek 0 0&&((S7 ⟨#[]⟩||pT x.line.eu ⟨#[]⟩)&&(oD 0 0&&(GL o.fe 0&&true)))))))))=(o.id==src);rw[auW,auW,show S7 ⟨#[]⟩=true from by unfold S7;exact beq_self_eq_true _,show oD 0 0=true from by decide +kernel];unfold va GL;simp
theorem Ta.fits (H:Ta s){k:Nat}(hk:k < s.aa.length)(you src:Int):iP s.aa (alY [gE t] s) s.aa[k].id you src jq=true/\iP s.aa (alY [gE t] s) s.aa[k].id you src wm=(s.aa[k].id==src):=by
 have fk:∀ j (hj:j < s.aa.length),j < k->(s.aa[j].id==s.aa[k].id)=false:=fun j hj h=>by
  have:=List.pairwise_iff_getElem.1 H.s8 j k hj hk h;simp only[beq_eq_false_iff_ne,ne_eq];omega
 have hf:=fun f=>xI (l:=s.aa) (all:=alY [gE t] s) (id:=s.aa[k].id) (you:=you) (src:=src) (f:=f) k hk (beq_self_eq_true _) fk;have hm:=amE (o:=s.aa[k]) (x:=eP (alY [gE t] s) k) you src (H.ob _ (aH hk)).2.2 (by rw[H.tr k hk,(XZ _ _).2.2.2];rfl);exact⟨(hf jq).trans hm.1,(hf wm).trans hm.2⟩
theorem DB {c:fZ}{w:aG}(h:w.aj.aF.when=3):gz c w=(if oh c&&c.e.nk==3 then qp c.e.kind 2 c.e.aL c.before c.ca w else []).map fun id=>⟨w.id,w.you,w.aj,vk c.e false id⟩:=by
 unfold gz gj;rw[h];rfl
def qF:eb:=⟨3,0,jq⟩
theorem V5 (H:Ta s)(h:oh (TH [gE qF] s T e)=false\/e.nk≠3):CA [gE qF] s T e=[]:=by
 rw[Fo rfl H];refine Ru fun o _=>?_;rw[DB rfl,if_neg]
 ·rfl
 ·rw[ah,not_and];rcases h with h|h
  ·intro h1;rw[h] at h1
   cases h1
  ·intro _ h1;exact h (by simpa [TH] using h1)
theorem V4 (H:Ta s)(h:oh (TH [gE qF] s T e)=true)(ht:e.nk=3)(hk:e.kind=2){k:Nat}(hl:k < s.aa.length)(he:s.aa[k].id=e.aL):CA [gE qF] s T e=s.aa.map fun o=>⟨o.id,o.dB,qB qF,e⟩:=by
 rw[Fo rfl H];refine na fun o _=>?_;rw[DB rfl,if_pos (by rw[h];show(true&&e.nk==3)=true;rw[ht];rfl)];unfold qp
 rw[if_pos (by
  show(e.kind==2&&iP s.aa (alY [gE qF] s) e.aL o.dB o.id jq)=true;rw[hk,<- he,(H.fits hl _ _).1];rfl)]
 rfl
end
section
variable {t:eb}
theorem CC (you:Int)(n:Nat):Ta (jZ you n):=by
 refine⟨rfl,fun o ho=>?_,?_⟩
 ·obtain⟨i,_,rfl⟩:=bL.1 ho;exact⟨rfl,rfl,rfl⟩
 ·refine List.pairwise_map.2 (List.pairwise_lt_range.imp fun {a b} h=>?_);show((a+1:Nat):Int) < ((b+1:Nat):Int);omega
theorem V9 (you:Int){n:Nat}(hn:n<=1000):(jZ you n).ok:=by
 have hp:∀ y∈(Qb 1).aw,bO.ok y:=fun y hy=>by
  have:y=p20:=by simpa [Qb] using hy
  rw[this];exact⟨aA _,aA _,aA _⟩
 refine⟨?_,hp,?_,fun y _=>trivial,?_,aA _,aA _,(fun y hy=>by cases hy),aA _,(fun y hy=>by cases hy),aA _,(fun y hy=>by cases hy),aA _⟩
 ·show 2*152<=aV;unfold aV;omega
 ·show(xD you n).length*128<=aV;rw[su];unfold aV;omega
 ·show(zb n).length*8<=aV;rw[xE];unfold aV;omega
theorem XR (ht:t.ok)(you:Int){n:Nat}(hn:n<=20):pf [gE t] (jZ you n):=by
 refine⟨?_,fun y hy=>?_,V9 you (by omega),fun c hc=>?_,?_,aA _,(CC you n).s8⟩
 ·show 1*176<=aV;unfold aV;omega
 ·rw[aJ.1 hy];exact Wb t ht
 ·rw[aJ.1 hc];show 1<=8;omega
 ·show(xD you n).length<=2048;rw[su];omega
theorem akK (ht:t.ok){you:Int}(hy:you=0\/you=1){n:Nat}(hn:n<=20):Tb tL [gE t] (jZ you n) (alY [gE t] (jZ you n)):=by
 have hi:=abT ⟨n,by omega⟩;refine(XR ht you hn).doh (Oc ?_) ?_
 ·rcases hy with rfl|rfl
  ·exact hi.1
  ·exact hi.2
 ·show((n+1:Nat):Int)<=1000000/\((n+1:Nat):Int)<=1000000;omega
def Nf (id p to:Int):bG:=⟨2,0,id,p,0,0,to,0,0,0,false,false,0,0,0⟩
def evT:bG:=⟨6,0,1,0,0,0,0,0,0,0,false,false,0,0,0⟩
theorem CB:qD [] (jZ 1 2) (Nf 1 1 3)=true/\((jZ 1 2).aa.any fun o=>o.id==(1:Int)&&o.cn==0)=true/\((J8 (jZ 1 2) (Nf 1 1 3)).aa.any fun o=>o.id==(1:Int))=false:=by decide +kernel
theorem Vm {you id p to:Int}{n:Nat}(h1:qD [] (jZ you n) (Nf id p to)=true)(h2:((jZ you n).aa.any fun o=>o.id==id&&o.cn==0)=true)(h3:((J8 (jZ you n) (Nf id p to)).aa.any fun o=>o.id==id)=false):oh (TH [gE t] (jZ you n) (zf [gE t] (jZ you n) (Nf id p to)) (Nf id p to))=true:=by
 have eL:qD [gE t] (jZ you n) (Nf id p to)=true:=h1;unfold zf;rw[akQ eL rfl];unfold oh;show(true&&(decide (kQ (fun o:az=>o.id==id&&o.cn==0) (jZ you n).aa>=0)&&!decide (kQ (fun o:az=>o.id==id) (J8 (jZ you n) (Nf id p to)).aa>=0)))=true;rw[Wi,Wi,h2,h3];rfl
theorem akI:CA [gE qF] (jZ 1 2) (zf [gE qF] (jZ 1 2) (Nf 1 1 3)) (Nf 1 1 3)=[⟨1,1,qB qF,Nf 1 1 3⟩,⟨2,1,qB qF,Nf 1 1 3⟩]:=by
 rw[V4 (CC 1 2) (Vm CB.1 CB.2.1 CB.2.2) rfl rfl (k:=0) (by decide) rfl];rfl
theorem abN (T:aq):CA [gE qF] (jZ 1 2) T evT=[]:=V5 (CC 1 2) (.inl rfl)
end
end
section
open Go Cg Go.RowKit Go.Sort
theorem sV:Ct ae 9 [] (aEo true) [] true:=by
 refine aEs (b:=false) ?_ rfl;have hd:(qF:eb).ok:=kU;have hfx:=abU qF;have hs:=Ro 2 1 (by decide);have D:=akK (t:=qF) hd (you:=1) (.inr rfl) (n:=2) (by decide);have Q:=XR (t:=qF) hd 1 (n:=2) (by decide);have h1:=Au Q D (Nf 1 1 3);have h2:=Au Q D evT;rw[akI] at h1;rw[abN] at h2;refine cT Tryz.func9 rfl (by kernel_rfl) rfl fun w0 O _=>aEk [2,3,4] ?_;refine cR hfx ⟨?_,ea⟩ ?_
 ·repeat' constructor
 refine aEk [] (cR hs ⟨rfl,rfl,ea⟩ ?_);refine cR h1 ⟨rfl,fL (jZ 1 2).enc,?_,ea⟩ ?_
 ·repeat' constructor
 refine aEk [] (cR hs ⟨rfl,rfl,ea⟩ ?_);refine cR h2 ⟨rfl,fL (jZ 1 2).enc,?_,ea⟩ ?_
 ·repeat' constructor
 refine aEk [] (Ei 0 (Ei _ (Ai rfl (Ai rfl ?_))));refine Ei 1 (Ei _ (Ai rfl (Ai rfl ?_)));refine Ei 0 (Ei _ (Ai rfl (Ai rfl ?_)));refine Ei 0 (Ei _ (Ai rfl (Ai rfl ?_)));refine Ei 0 (Ei _ (Ai rfl (Ai rfl ?_)));refine Ei [] ?_
 repeat' constructor
theorem Dx (x:ia)(hx:x.ok):Ct ae 4 [.agg (x.enc.map .t)] (aEo true) [] true:=by
 refine aEs (b:=false) ?_ rfl;obtain⟨hc,mc,h1,h2,_⟩:=hx;have mn:=Bi x.aE x.before hc mc h1;have xv:=Bi x.aE x.after hc mc h2
 cases pS:Bh x.aE x.before with
 | false=>
  rw[pS] at mn;refine cT Tryz.func4 rfl (by kernel_rfl) rfl fun w0 O _=>aEk [2,3] ?_;refine cF mn ⟨?_,?_,ea⟩ ?_
  ·repeat' constructor
  ·repeat' constructor
  refine aEk [] (cF sV trivial (Ei [] ?_))
  repeat' constructor
 | true=>
  rw[pS] at mn;have H:=(pf.Hy pS hc mc h1).1
  cases dK:Bh x.aE x.after with
  | false=>
   rw[dK] at xv;refine cT Tryz.func4 rfl (by kernel_rfl) rfl fun w0 O _=>aEk [2,3] ?_;refine cF mn ⟨?_,?_,ea⟩ ?_
   ·repeat' constructor
   ·repeat' constructor
   refine cF xv ⟨?_,?_,ea⟩ ?_
   ·repeat' constructor
   ·repeat' constructor
   refine aEk [] (cF sV trivial (Ei [] ?_))
   repeat' constructor
  | true=>
   rw[dK] at xv;have K:=(pf.Hy dK hc mc h2).1;have a1:=H.all;have a2:=K.all;have f1:=CI x.e H K;have f2:=FC x.e H K;have sm:=Js (e:=x.e) H K;generalize CA x.aE x.before x.after x.e=M at *;generalize alY x.aE x.before=L1 at *;generalize alY x.aE x.after=L2 at *;refine cT Tryz.func4 rfl (by kernel_rfl) rfl fun w0 O _=>aEk [2,3,4] ?_;refine cF mn ⟨?_,?_,ea⟩ ?_
   ·repeat' constructor
   ·repeat' constructor
   refine cF xv ⟨?_,?_,ea⟩ ?_
   ·repeat' constructor
   ·repeat' constructor
   refine aEk [] (cR a1 ⟨?_,?_,ea⟩ ?_)
   ·repeat' constructor
   ·repeat' constructor
   refine cR a2 ⟨?_,?_,ea⟩ ?_
   ·repeat' constructor
   ·repeat' constructor
   refine aEk [] (cF sV trivial (cR f1 ⟨?_,rfl,?_,rfl,?_,ea⟩ ?_))
   ·repeat' constructor
   ·repeat' constructor
   ·repeat' constructor
   refine cR f2 ⟨?_,rfl,?_,rfl,?_,ea⟩ ?_
   ·repeat' constructor
   ·repeat' constructor
   ·repeat' constructor
   refine cF sm ⟨rfl,rfl,ea⟩ ?_;refine Ei [] ?_
   repeat' constructor
theorem AU (a:List bd)(s:aq)(e:bG)(ha:a.length*176<=aV)(ma:∀ y∈a,bd.ok y)(hs:s.ok):Ct ae 3 [.c (.t (.sl 17 (a.map bd.enc))),.agg (s.enc.map .t),.agg (e.enc.map .t)] (aEo true) [] true:=by
 refine aEs (b:=false) ?_ rfl;have hv:=Bi a s ha ma hs
 cases hb:Bh a s with
 | false=>
  rw[hb] at hv;refine cT Tryz.func3 rfl (by kernel_rfl) rfl fun w0 O _=>aEk [2,3] ?_;refine cF hv ⟨rfl,fL s.enc,ea⟩ ?_;refine aEk [] (cF sV trivial (Ei [] ?_))
  repeat' constructor
 | true=>
  rw[hb] at hv;obtain⟨H,V,hn⟩:=pf.Hy hb ha ma hs;have D:=H.doh V hn;have K:=H.N2 D e;have af:=Gh H D e;generalize zf a s e=t at *;have a1:=H.all;have a2:=K.all;have f1:=CI e H K;have f2:=FC e H K;have sm:=Js (e:=e) H K;generalize CA a s t e=M at *;generalize alY a s=L1 at *;generalize alY a t=L2 at *;refine cT Tryz.func3 rfl (by kernel_rfl) rfl fun w0 O _=>aEk [2,3,4,5] ?_;refine cF hv ⟨rfl,fL s.enc,ea⟩ ?_;refine aEk [4,5] (cR af ⟨rfl,fL s.enc,fL e.enc,ea⟩ ?_);refine aEk [5] (cR a1 ⟨rfl,fL s.enc,ea⟩ ?_);refine cR a2 ⟨rfl,fL t.enc,ea⟩ ?_;refine aEk [] (cF sV trivial (cR f1 ⟨fL s.enc,rfl,fL t.enc,rfl,fL e.enc,ea⟩ ?_));refine cR f2 ⟨fL s.enc,rfl,fL t.enc,rfl,fL e.enc,ea⟩ ?_;refine cF sm ⟨rfl,rfl,ea⟩ ?_;refine Ei [] ?_
  repeat' constructor
end
section
open Go Cg Go.RowKit

end
section
open Go Cg Go.RowKit Go.Sort


end
section
open Go Go.ChangeShapes Go.WideShapes Go.ChangeAt Go.RowKit Go.Sort Cg
theorem own:ownKnob Tryz.prog.godebug=none:=by kernel_rfl
theorem laidOut:laidOutB ae=true:=by kernel_rfl
theorem ED {W:World}(ue:W.ShapedOpen ae):Gl W:=
 cell_of_shapedOpen_int (P:=ae) (g:=0) (t:=3) (zero:=#[.int .i64 0]) ue (of_decide_eq_true (by kernel_rfl)) (by kernel_rfl) rfl (by kernel_rfl) (by kernel_rfl) Tryz.underlying3
theorem I4 {H:Type}{enc:TypeId × Value->H}{W:World}{v:Value}{d:DataW H}{ps:List MemPlace}{r:Reach}{b0:Nat}{t:TypeId}{ks:List K}(hu:∃ fs,Tryz.prog.underlying t=some (.struct fs))(hs:amO ae 12 t=some ks)(hv:Value.okWide ae W r b0 t v)
  (h:DataW.Trod enc ae W 0 (fun _=>true) true t v d ps) (hw:NL ae t d):∃ cs es,v=.agg cs.toArray/\vo (fun _=>True) reachBytes W ks cs es:=by
 obtain⟨fs,hu⟩:=hu;unfold Value.okWide at hv;rw[hu] at hv;obtain⟨cs,rfl,_,_⟩:=hv;obtain⟨fuel,hf⟩:=h;obtain⟨es,he⟩:=DX 12 t ks hs fuel cs.toList (d,ps) hf hw;exact⟨cs.toList,es,rfl,he⟩
open Classical in
noncomputable def uY (F:Nat->Prop):Env:=⟨fun b=>if F b then .bH else .eH,fun _=>0,fun _ _=>undef⟩
theorem IP {F:Nat->Prop}{b:Nat}:(uY F).rl b=.bH↔F b:=by
 unfold uY;simp only;split
 ·simp_all
 ·simp_all
theorem Wj (F:Nat->Prop):(uY F).F=F:=funext fun _=>propext IP
theorem Ju {F:Nat->Prop}{w:World}{vs:List Value}{ts:List Tr}(h:jK F w vs ts):A2 (RC (uY F) w) vs (ts.map .t):=BG (by rw[Wj];exact h)
theorem I6 {F:Nat->Prop}{w:World}{cs:List Value}{ts:List Tr}(h:jK F w cs ts):R1 (uY F) w (.agg cs.toArray) (.agg (ts.map .t)):=⟨cs,rfl,Ju h⟩
theorem Sk {E0:Env}{w:World}{v:Value}{b:Bool}(h:R1 E0 w v (aEo b)):v=.bool b:=by
 have h:RT E0.F w v (.lit (.bool b)):=h
 cases h
 rfl
theorem Ah {P:Program}{f:FuncId}{ax:List AV}{b:Bool}(h:Ct P f ax (aEo true) [] b){w:World}(hg:Gl w){vs:List Value}{E0:Env}(ha:A2 (R1 E0 w) vs ax):Calls P f vs.toArray w fun e w'=>e=.returned (.bool true)/\Below w.heap.size w w':=by
 refine(h.run w vs E0 hg ha).mono ?_;rintro e w' ⟨v,rfl,hb,E,hr,_⟩;obtain rfl:=Sk (E0:=E) (w:=w') hr;exact⟨rfl,hb⟩
theorem BM {F:Nat->Prop}{w:World}{ks:List K}{cs:List Value}{es:List D}(h:vo F reachBytes w ks cs es):vo F aV w ks cs es:=h.frame (by decide) (ak _) (fun _ _ _=>rfl) fun _ h _=>h
end
section
open Go Cg Go.RowKit Go.Sort
open Go.ChangeShapes Go.WideShapes Go.ChangeAt in
theorem acO {H:Type}{enc:TypeId × Value->H}{W:World}{v:Value}{d:DataW H}{ps:List MemPlace}{t:TypeId}{ks:List K}(hs:amO ae 12 t=some ks)(hv:∃ a l c,v=.slice a l c)
  (h:DataW.Trod enc ae W 0 (fun _=>true) true t v d ps) (hw:NL ae t d):∃ es,vo (fun _=>True) reachBytes W ks [v] es:=by
 obtain⟨a,l,c,rfl⟩:=hv;obtain⟨fuel,hf⟩:=h;exact DX 12 t ks hs fuel _ (d,ps) hf hw
theorem TD:amO ae 12 22=some [.sl bd.ks 176]:=by kernel_rfl
theorem TC:amO ae 12 34=some bG.ks:=by kernel_rfl
theorem TB:amO ae 12 44=some ia.ks:=by kernel_rfl
theorem I2 {F:Nat->Prop}{w:World}{v:Value}{es:List D}(h:vo F reachBytes w [.sl bd.ks 176] [v] es):∃ l:List bd,l.length*176<=aV/\(∀ y∈l,bd.ok y)/\R1 (uY F) w v (.c (.t (.sl 17 (l.map bd.enc)))):=by
 obtain⟨ts,h3,_,h5⟩:=wz (BM h);obtain⟨_,_,rfl,k7,q7⟩:=da.1 h3;obtain⟨_,rfl,Re,hc7⟩:=eK.1 k7;obtain⟨l7,rfl,x7⟩:=dP bd.cV hc7;rw[Lm] at Re;obtain rfl:=du.1 q7;refine⟨l7,Re,x7,?_⟩
 cases Ju h5 with
 | cons h1 _=>exact h1
theorem GR {F:Nat->Prop}{w:World}{cs:List Value}{es:List D}(h:vo F reachBytes w aq.ks cs es):∃ s:aq,s.ok/\R1 (uY F) w (.agg cs.toArray) (.agg (s.enc.map .t)):=by
 obtain⟨ts,h3,_,h5⟩:=wz (BM h);obtain⟨a,h6,rfl⟩:=aq.cV ts h3;exact⟨a,h6,I6 h5⟩
theorem IN {F:Nat->Prop}{w:World}{cs:List Value}{es:List D}(h:vo F reachBytes w bG.ks cs es):∃ s:bG,R1 (uY F) w (.agg cs.toArray) (.agg (s.enc.map .t)):=by
 obtain⟨ts,h3,_,h5⟩:=wz (BM h);obtain⟨a,_,rfl⟩:=bG.cV ts h3;exact⟨a,I6 h5⟩
abbrev Cs (a:List bd):AV:=.c (.t (.sl 17 (a.map bd.enc)))
abbrev Ag (s:aq):AV:=.agg (s.enc.map .t)
abbrev Ev (s:bG):AV:=.agg (s.enc.map .t)
abbrev Rd1 (w:World)(ks:List K)(cs:List Value)(es:List D):Prop:=vo (fun _=>True) reachBytes w ks cs es
theorem Vq {f:FuncId}{b:Bool}(hf:∀ (a:List bd) (s:aq) (e:bG),a.length*176<=aV->(∀ y∈a,bd.ok y)->s.ok->Ct ae f [Cs a,Ag s,Ev e] (aEo true) [] b)(v0:Value)(jG:List D)(cs1:List Value)(es1:List D)(Wt:List Value)(XS:List D)(w:World)(hg:Gl w)(h0:Rd1 w [.sl bd.ks 176] [v0] jG)(h1:Rd1 w aq.ks cs1 es1)(h2:Rd1 w bG.ks Wt XS):Calls ae f #[v0,.agg cs1.toArray,.agg Wt.toArray] w fun e w'=>e=.returned (.bool true)/\Below w.heap.size w w':=by
 obtain⟨a,ha,ma,ra⟩:=I2 h0;obtain⟨s,hs,rs⟩:=GR h1;obtain⟨e,re⟩:=IN h2;exact Ah (hf a s e ha ma hs) hg (.cons ra (.cons rs (.cons re .nil)))
theorem Zx {f:FuncId}{b:Bool}(hf:∀ x:ia,x.ok->Ct ae f [.agg (x.enc.map .t)] (aEo true) [] b)(cs:List Value)(es:List D)(w:World)(hg:Gl w)(h:Rd1 w ia.ks cs es):Calls ae f #[.agg cs.toArray] w fun e w'=>e=.returned (.bool true)/\Below w.heap.size w w':=by
 obtain⟨ts,h3,_,h5⟩:=wz (BM h);obtain⟨a,h6,rfl⟩:=ia.cV ts h3;exact Ah (hf a h6) hg (.cons (I6 h5) .nil)
end
section
open Go
theorem ahA:(laidOutB ae)=true:=by kernel_rfl
theorem agZ:(mapsRowed ae)=true:=by kernel_rfl
theorem agY:((Tryz.prog.stops==[]))=true:=by kernel_rfl
theorem agX:((Tryz.prog.stopKnobs==[]))=true:=by kernel_rfl
theorem Xc:(Tryz.prog.stopsHeard)=true:=by kernel_rfl
theorem Xb:(Tryz.prog.mayEnter)=true:=by kernel_rfl
theorem eJ {a b:Bool}(h1:a=true)(h2:b=true):(a&&b)=true:=by rw[h1,h2];rfl
theorem AT:(Rows.watchDoesRow.wf (OpenSpec.ofChange Rows.watchDoesSpec))=true:=by kernel_rfl
theorem AS:(Tryz.f3.params.all (Tryz.prog.readableRec ·))=true:=by kernel_rfl
theorem AR:(namedTie ae Rows.watchDoesRow.named Rows.watchDoesSpec.vars)=true:=by kernel_rfl
theorem AQ:((Rows.watchDoesRow.stops==[]))=true:=by kernel_rfl
theorem AP:((Rows.watchDoesRow.knobs==[]))=true:=by kernel_rfl
theorem AO:((Rows.watchDoesRow.inPlace==Tryz.prog.inPlace 3))=true:=by kernel_rfl
theorem yL:((Rows.watchDoesRow.unfollowed==Tryz.prog.unfollowed 3))=true:=by kernel_rfl
theorem yK:((Rows.watchDoesRow.recurses==Tryz.prog.recurses 3))=true:=by kernel_rfl
theorem yJ:((Rows.watchDoesRow.named==Tryz.prog.varsNamed 3))=true:=by kernel_rfl
theorem yI:((Rows.watchDoesRow.maps==(Tryz.f3.params.toList++Rows.watchDoesSpec.plain.varTypes ae).any (Tryz.prog.mapsRec ·)))=true:=by kernel_rfl
theorem yH:((Rows.watchDoesRow.ifaces==(Tryz.f3.params.toList++Rows.watchDoesSpec.plain.varTypes ae).any (Tryz.prog.ifacesRec ·)))=true:=by kernel_rfl
theorem yG:((Rows.watchDoesRow.mapsOut==Tryz.prog.mapsAmong Tryz.f3.resultTypes.toList))=true:=by kernel_rfl
theorem yF:((Rows.watchDoesRow.loops==(Tryz.f3.params.toList++Rows.watchDoesSpec.plain.varTypes ae).any (Tryz.prog.loopsFrom ·)))=true:=by kernel_rfl
theorem yE:((Rows.watchDoesRow.wideKeys==(Tryz.f3.params.toList++Rows.watchDoesSpec.plain.varTypes ae++Tryz.f3.resultTypes.toList).any (Tryz.prog.wideKeysFrom ·)))=true:=by kernel_rfl
theorem yD:(Rows.watchDoesSpec.vars.all (Tryz.prog.varReadable ·))=true:=by kernel_rfl
theorem yC:(Tryz.f3.resultTypes.all (fun t=>Tryz.prog.readableRec t&&decide (t < Tryz.prog.types.size)))=true:=by kernel_rfl
theorem yB:((Rows.watchDoesRow.ifacesOut==Tryz.f3.resultTypes.toList.any (Tryz.prog.ifacesRec ·)))=true:=by kernel_rfl
theorem yA:((Rows.watchDoesRow.loopsOut==Tryz.f3.resultTypes.toList.any (Tryz.prog.loopsFrom ·)))=true:=by kernel_rfl
theorem yz:((Rows.watchDoesRow.plainKeys==Tryz.prog.plainKeys))=true:=by kernel_rfl
theorem yy:(Rows.watchDoesRow.shortTexts.isNone)=true:=by kernel_rfl
theorem yx:((Rows.watchDoesRow.lifted==Tryz.prog.liftsFinal))=true:=by kernel_rfl
theorem yw:((Tryz.prog.make==some Rows.watchDoesRow.make))=true:=by kernel_rfl
theorem yv:((Rows.watchDoesRow.kinds==(if Rows.watchDoesRow.domain.isEmpty then [] else Tryz.f3.params.toList.map fun t=>match Tryz.prog.underlying t with|some (.int k)=>some k|_=>none)))=true:=by kernel_rfl
theorem yu:((Rows.watchDoesRow.pinned==Rows.watchDoesRow.pinnedBy))=true:=by kernel_rfl
theorem yr:((Rows.watchDoesRow.veiled==(Tryz.f3.params.toList++Rows.watchDoesSpec.plain.varTypes ae++Tryz.f3.resultTypes.toList).any (Tryz.prog.veiledRec ·)))=true:=by kernel_rfl
theorem yq:(Rows.watchDoesRow.veiledFits ae Tryz.f3.params.toList (Tryz.f3.params.toList++Rows.watchDoesSpec.plain.varTypes ae++Tryz.f3.resultTypes.toList))=true:=by kernel_rfl
theorem ti:joinedFacts ae 3 Tryz.f3 Rows.watchDoesSpec Rows.watchDoesRow=true:=by
 unfold joinedFacts;exact eJ (eJ (eJ (eJ (eJ (eJ (eJ (eJ (eJ (eJ (eJ (eJ (eJ (eJ (eJ (eJ (eJ (eJ (eJ (eJ (eJ (eJ (eJ (eJ (eJ (eJ (eJ (eJ (eJ (eJ (eJ (AT) ahA) agZ) AS) AR) AQ) agY) AP) agX) AO) yL) yK) yJ) yI) yH) yG) yF) yE) yD) yC) yB) yA) yz) yy) Xc) Xb) yx) yw) yv) yu) yr) yq
theorem vP:Tryz.f3.isInstance ae Rows.watchDoesRow.origin Rows.watchDoesRow.targs:=of_decide_eq_true (by kernel_rfl)
theorem vO:Tryz.f3.isWrapper ae Rows.watchDoesRow.wrapper Rows.watchDoesRow.mainSum:=by unfold Func.isWrapper;first|(rw[if_pos (by decide +kernel)];kernel_rfl)|(rw[if_neg (by decide +kernel)];exact⟨rfl,rfl⟩)
theorem vc:Tryz.prog.funcNamed Rows.watchDoesRow.func=some 3:=by kernel_rfl
theorem Dw:(Rows.watchAnyRow.wf (OpenSpec.ofChange Rows.watchAnySpec))=true:=by kernel_rfl
theorem Dv:(Tryz.f4.params.all (Tryz.prog.readableRec ·))=true:=by kernel_rfl
theorem Du:(namedTie ae Rows.watchAnyRow.named Rows.watchAnySpec.vars)=true:=by kernel_rfl
theorem Dt:((Rows.watchAnyRow.stops==[]))=true:=by kernel_rfl
theorem Dr:((Rows.watchAnyRow.knobs==[]))=true:=by kernel_rfl
theorem Dq:((Rows.watchAnyRow.inPlace==Tryz.prog.inPlace 4))=true:=by kernel_rfl
theorem Bg:((Rows.watchAnyRow.unfollowed==Tryz.prog.unfollowed 4))=true:=by kernel_rfl
theorem Bf:((Rows.watchAnyRow.recurses==Tryz.prog.recurses 4))=true:=by kernel_rfl
theorem Be:((Rows.watchAnyRow.named==Tryz.prog.varsNamed 4))=true:=by kernel_rfl
theorem Bd:((Rows.watchAnyRow.maps==(Tryz.f4.params.toList++Rows.watchAnySpec.plain.varTypes ae).any (Tryz.prog.mapsRec ·)))=true:=by kernel_rfl
theorem Bc:((Rows.watchAnyRow.ifaces==(Tryz.f4.params.toList++Rows.watchAnySpec.plain.varTypes ae).any (Tryz.prog.ifacesRec ·)))=true:=by kernel_rfl
theorem Bb:((Rows.watchAnyRow.mapsOut==Tryz.prog.mapsAmong Tryz.f4.resultTypes.toList))=true:=by kernel_rfl
theorem Ba:((Rows.watchAnyRow.loops==(Tryz.f4.params.toList++Rows.watchAnySpec.plain.varTypes ae).any (Tryz.prog.loopsFrom ·)))=true:=by kernel_rfl
theorem A9:((Rows.watchAnyRow.wideKeys==(Tryz.f4.params.toList++Rows.watchAnySpec.plain.varTypes ae++Tryz.f4.resultTypes.toList).any (Tryz.prog.wideKeysFrom ·)))=true:=by kernel_rfl
theorem A8:(Rows.watchAnySpec.vars.all (Tryz.prog.varReadable ·))=true:=by kernel_rfl
theorem A7:(Tryz.f4.resultTypes.all (fun t=>Tryz.prog.readableRec t&&decide (t < Tryz.prog.types.size)))=true:=by kernel_rfl
theorem A6:((Rows.watchAnyRow.ifacesOut==Tryz.f4.resultTypes.toList.any (Tryz.prog.ifacesRec ·)))=true:=by kernel_rfl
theorem A5:((Rows.watchAnyRow.loopsOut==Tryz.f4.resultTypes.toList.any (Tryz.prog.loopsFrom ·)))=true:=by kernel_rfl
theorem A4:((Rows.watchAnyRow.plainKeys==Tryz.prog.plainKeys))=true:=by kernel_rfl
theorem A3:(Rows.watchAnyRow.shortTexts.isNone)=true:=by kernel_rfl
theorem A1:((Rows.watchAnyRow.lifted==Tryz.prog.liftsFinal))=true:=by kernel_rfl
theorem A0:((Tryz.prog.make==some Rows.watchAnyRow.make))=true:=by kernel_rfl
theorem AZ:((Rows.watchAnyRow.kinds==(if Rows.watchAnyRow.domain.isEmpty then [] else Tryz.f4.params.toList.map fun t=>match Tryz.prog.underlying t with|some (.int k)=>some k|_=>none)))=true:=by kernel_rfl
theorem AY:((Rows.watchAnyRow.pinned==Rows.watchAnyRow.pinnedBy))=true:=by kernel_rfl
theorem AX:((Rows.watchAnyRow.veiled==(Tryz.f4.params.toList++Rows.watchAnySpec.plain.varTypes ae++Tryz.f4.resultTypes.toList).any (Tryz.prog.veiledRec ·)))=true:=by kernel_rfl
theorem AW:(Rows.watchAnyRow.veiledFits ae Tryz.f4.params.toList (Tryz.f4.params.toList++Rows.watchAnySpec.plain.varTypes ae++Tryz.f4.resultTypes.toList))=true:=by kernel_rfl
theorem ve:joinedFacts ae 4 Tryz.f4 Rows.watchAnySpec Rows.watchAnyRow=true:=by
 unfold joinedFacts;exact eJ (eJ (eJ (eJ (eJ (eJ (eJ (eJ (eJ (eJ (eJ (eJ (eJ (eJ (eJ (eJ (eJ (eJ (eJ (eJ (eJ (eJ (eJ (eJ (eJ (eJ (eJ (eJ (eJ (eJ (eJ (Dw) ahA) agZ) Dv) Du) Dt) agY) Dr) agX) Dq) Bg) Bf) Be) Bd) Bc) Bb) Ba) A9) A8) A7) A6) A5) A4) A3) Xc) Xb) A1) A0) AZ) AY) AX) AW
theorem yN:Tryz.f4.isInstance ae Rows.watchAnyRow.origin Rows.watchAnyRow.targs:=of_decide_eq_true (by kernel_rfl)
theorem yM:Tryz.f4.isWrapper ae Rows.watchAnyRow.wrapper Rows.watchAnyRow.mainSum:=by unfold Func.isWrapper;first|(rw[if_pos (by decide +kernel)];kernel_rfl)|(rw[if_neg (by decide +kernel)];exact⟨rfl,rfl⟩)
theorem vQ:Tryz.prog.funcNamed Rows.watchAnyRow.func=some 4:=by kernel_rfl
end
end Go.Proofs.YtbmdcnkidjlbbaaGreat
