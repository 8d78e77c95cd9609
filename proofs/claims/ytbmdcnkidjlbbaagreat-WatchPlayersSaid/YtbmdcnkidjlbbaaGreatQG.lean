/- Parts of the proof, joined: Law 35: what fires for foxes. No program in sight; Law 35: the fixed scenes of the laws, in plain Lean. No program in sight; Law 35: the fixed example of the la. -/
import Derived.Test.YtbmdcnkidjlbbaaGreatQF
import Derived.Test.YtbmdcnkidjlbbaaGreatRows
import Derived.ProofKit
import Derived.OpenShut
import Derived.ChangeOld
import Derived.ShutString
import Derived.ChangeSlices
import Derived.SizedLaws
import Derived.HandedShaped
import Derived.Shelf.Vars
import Derived.JoinedOf
import Derived.KernelRfl
open Go.Proofs.Tryz renaming prog->ae
open List renaming getElem?_eq_getElem->af,mem_cons_self->aC,getElem_mem->aI,mem_singleton->aJ,mem_cons_of_mem->aK,mem_of_getElem?->aU,append_nil->aZ,getElem?_map->bp,mem_map->bA,nil_append->bF,flatMap_cons->bK,map_cons->bP,pairwise_iff_getElem->cu
open Bool renaming and_eq_true->ag
open Nat renaming le_refl->al,zero_le->aD,zero_add->bu,add_zero->cO
open Option.some renaming inj->aR
set_option maxRecDepth 100000
set_option maxHeartbeats 4000000
section
namespace Go.Proofs.YtbmdcnkidjlbbaaGreat
open Go Cg Go.RowKit
section
variable {t:eh}{s T:aA}{e:bV}
theorem CM (o:aE):∀ a∈(ofM [ea t] o).aT,a=jg t:=by
 have key:∀ (x:aG) (c:Int),(∀ a∈x.aT,a=jg t)->∀ a∈({ x with control:=c }:aG).aT,a=jg t:=fun _ _ h=>h;unfold ofM;refine key _ _ ?_;generalize (if o.copy < 0 then o.dK else o.copy)=i;split
 ·rename_i c hc;split at hc
  ·cases hc
  ·have:=aU hc;rw[aJ.1 this];intro a ha;exact aJ.1 ha
 ·intro a ha
  cases ha
theorem Wp (b:Bool):∀ w∈gS (allM [ea t] s) b 0 s.aa,w.ai=jg t∧xn t.when=b:=fun w hw=>by
 obtain⟨⟨j,hj,_,_,_,h4⟩,_,h5⟩:=pE _ _ _ _ w hw
 have ha:w.ai=jg t:=by
  rw[bu] at h4;unfold gG at h4
  cases hq:(allM [ea t] s)[j]? with
  | none=>
   rw[hq] at h4
   cases h4
  | some x=>
   rw[hq] at h4;have h4:w.ai∈x.aT:=h4;obtain⟨o,_,h|h⟩:=Ir [ea t] s j x hq
   ·rw[h] at h4
    cases h4
   ·rw[h] at h4;exact CM o _ h4
 refine⟨ha,?_⟩;rw[ha] at h5;exact h5
theorem CN {b:Bool}(h:xn t.when≠b):gS (allM [ea t] s) b 0 s.aa=[]:=List.eq_nil_iff_forall_not_mem.2 fun w hw=>h (Wp b w hw).2
theorem Wn {o:aE}(h1:o.dK=0)(h2:o.copy = -1)(h3:o.cg=0):ofM [ea t] o={ zx (ea t) with control:=o.control }:=by
 unfold ofM;rw[h1,h2,h3];rfl
theorem CO (o:aE):∀ (l:List cz) (k:Nat),(∀ a∈l,a.kind=4)->forA o k l=[]
 | [],_,_=>rfl
 | a :: r,k,h=>by
  rw[forA,CO o r (k+1) fun x hx=>h x (aK _ hx),h a aC];rfl
theorem RO (hc:s.dG=[]):forM [ea t] s=[]:=by
 unfold forM;rw[hc,List.map_nil,aZ,List.flatMap_eq_nil_iff];intro o _;unfold kF;split
 ·exact CO o _ 0 fun a ha=>by rw[CM o a ha];rfl
 ·rfl
theorem A5 {α β γ:Type}(f:α->β)(g:α × β->γ):∀ l:List α,(l.zip (l.map f)).map g=l.map fun x=>g (x,f x)
 | []=>rfl
 | x :: r=>by rw[bP,List.zip_cons_cons,bP,bP,A5 f g r]
theorem RQ (hc:s.dG=[]):allM [ea t] s=s.aa.map fun o=>jT o (ofM [ea t] o):=by
 rw[allM_nil (RO hc),A5]
structure KB (s:aA):Prop where
 ct:s.dG=[]
 ob:∀ o∈s.aa,o.dK=0∧o.copy = -1∧o.cg=0
 qN:s.aa.Pairwise fun a b=>a.id < b.id
theorem KB.tr (H:KB s)(k:Nat)(hk:k < s.aa.length):gG (allM [ea t] s) k=jT s.aa[k] { zx (ea t) with control:=s.aa[k].control }:=by
 obtain⟨h1,h2,h3⟩:=H.ob _ (aI hk);unfold gG;rw[RQ H.ct,bp,af hk,<- Wn h1 h2 h3];rfl
def TY (t:eh)(b:Bool)(o:aE):aF:=⟨o.id,0,o.control,jg t,b⟩
theorem Gb {all:List aG}{b:Bool}(he:xn t.when=b):∀ (l:List aE) (i:Nat),(∀ k (hk:k < l.length),(gG all (i+k)).aT=[jg t]∧(gG all (i+k)).control=l[k].control∧l[k].cg=0)->gS all b i l=l.map (TY t b)
 | [],_,_=>rfl
 | o :: r,i,h=>by
  rw[gS,Gb he r (i+1) fun k hk=>by
   have:=h (k+1) (Nat.succ_lt_succ hk);rw[show i+(k+1)=i+1+k by omega] at this;exact this]
  obtain⟨h1,h2,h3⟩:=h 0 (Nat.succ_pos _);have h3:o.cg=0:=h3;rw[cO] at h1 h2;have h2:(gG all i).control=o.control:=h2;unfold yU;rw[if_pos (by rw[h3];rfl),h1,h2]
  have:((jg t).kind==4&&xn (jg t).aM.when==b)=true:=by
   show(true&&xn t.when==b)=true;rw[he,Bool.true_and,beq_self_eq_true]
  rw[u4,if_pos this];rfl
theorem TM (o:aE)(x:aG):(jT o x).aT=x.aT∧(jT o x).control=x.control∧(jT o x).line=x.line∧(jT o x).keys=x.keys:=by
 unfold jT;split <;> exact⟨rfl,rfl,rfl,rfl⟩
theorem KB.XN (H:KB s){b:Bool}(he:xn t.when=b):gS (allM [ea t] s) b 0 s.aa=s.aa.map (TY t b):=by
 refine Gb he _ 0 fun k hk=>?_;rw[bu,H.tr k hk];obtain⟨h1,h2,_⟩:=TM s.aa[k] { zx (ea t) with control:=s.aa[k].control };exact⟨h1,h2,(H.ob _ (aI hk)).2.2⟩
theorem Bn {l:List aF}(h:l.Pairwise Fg):iT (gF sD) l=l:=by
 rw[IE];exact Cr l [] h
theorem wo (he:xn t.when=true)(H:KB s):DU [ea t] s T e=s.aa.flatMap fun o=>fI (Lw [ea t] s T e) (TY t true o):=by
 unfold DU sq;show(iT (gF sD) (gS (allM [ea t] s) true 0 s.aa++gS (allM [ea t] T) false 0 T.aa)).flatMap _=_;rw[CN (s:=T) (by rw[he];decide),aZ,Bn (uZ _ _ _ _ H.qN),H.XN he,List.flatMap_map]
theorem RJ (he:xn t.when=false)(H:KB T):DU [ea t] s T e=T.aa.flatMap fun o=>fI (Lw [ea t] s T e) (TY t false o):=by
 unfold DU sq;show(iT (gF sD) (gS (allM [ea t] s) true 0 s.aa++gS (allM [ea t] T) false 0 T.aa)).flatMap _=_;rw[CN (s:=s) (by rw[he];decide),bF,Bn (uZ _ _ _ _ H.qN),H.XN he,List.flatMap_map]
theorem kt {α β:Type}{f:α->List β}{g:α->β}{l:List α}(h:∀ x∈l,f x=[g x]):l.flatMap f=l.map g:=by
 induction l with
 | nil=>rfl
 | cons x r ih=>rw[bK,h x aC,ih fun y hy=>h y (aK _ hy)];rfl
theorem wz {α β:Type}{f:α->List β}{l:List α}(h:∀ x∈l,f x=[]):l.flatMap f=[]:=List.flatMap_eq_nil_iff.2 h
theorem Pj {c:fx}{w:aF}(hk:kD w.ai.aM.when≠0)(h9:w.ai.aM.when≠9):fI c w=if (c.e.kind==kD w.ai.aM.when&&kM c.after.az c.e.bC w.you w.ai.aM.who)=true then [⟨w.id,w.you,w.ai,c.e⟩] else []:=by
 unfold fI;rw[if_pos hk,show(w.ai.aM.when==9)=false by simpa using h9];simp
theorem WJ (a:Int):DB a 0=0:=by
 unfold DB;rw[show BitVec.ofInt IntKind.i64.bits 0=0#_ from rfl,BitVec.and_zero];rfl
theorem akH:wy eJ=true∧wy oZ=true:=by
 unfold wy Pb;rw[show eJ.sub=(⟨#[]⟩:ByteArray) from rfl,show oZ.sub=(⟨#[]⟩:ByteArray) from rfl,beq_self_eq_true];exact⟨rfl,rfl⟩
theorem aiL (h:Int):xm h 0 0=true:=by
 unfold xm ze;rw[WJ];rfl
theorem akO (x:aG):jU x eJ=true∧jU x oZ=true:=by
 unfold jU xz ke;exact⟨rfl,rfl⟩
theorem aaS {o:aE}{x:aG}(you src:Int)(h:o.cg=0)(hk:x.keys=0):eW o x you src eJ=true/\eW o x you src oZ=(o.id==src):=by
 unfold eW;rw[akH.1,akH.2,(akO x).1,(akO x).2,h,hk];show(true&&(true&&(tt x.control you 0&&(tt o.id src 0&&(xm x.line.types 0 0&&(xm x.dQ 0 0&&((Pb ⟨#[]⟩||oH x.line.dN ⟨#[]⟩)&&(mW 0 0&&(Ea o.eR 0&&true)))))))))=true/\(true&&(true&&(tt x.control you 0&&(tt o.id src 1&&(xm x.line.types 0 0&&(xm x.dQ 0 0&&((Pb ⟨#[]⟩||oH x.line.dN ⟨#[]⟩)&&(mW 0 0&&(Ea o.eR 0&&true)))))))))=(o.id==src);rw[aiL,aiL,show Pb ⟨#[]⟩=true from by unfold Pb;exact beq_self_eq_true _,show mW 0 0=true from by decide +kernel];unfold tt Ea;simp
theorem KB.fits (H:KB s){k:Nat}(hk:k < s.aa.length)(you src:Int):jK s.aa (allM [ea t] s) s.aa[k].id you src eJ=true∧jK s.aa (allM [ea t] s) s.aa[k].id you src oZ=(s.aa[k].id==src):=by
 have eZ:∀ j (hj:j < s.aa.length),j < k->(s.aa[j].id==s.aa[k].id)=false:=fun j hj h=>by
  have:=cu.1 H.qN j k hj hk h;simp only[beq_eq_false_iff_ne,ne_eq];omega
 have hf:=fun f=>CS (l:=s.aa) (all:=allM [ea t] s) (id:=s.aa[k].id) (you:=you) (src:=src) (f:=f) k hk (beq_self_eq_true _) eZ;have hm:=aaS (o:=s.aa[k]) (x:=gG (allM [ea t] s) k) you src (H.ob _ (aI hk)).2.2 (by rw[H.tr k hk,(TM _ _).2.2.2];rfl);exact⟨(hf eJ).trans hm.1,(hf oZ).trans hm.2⟩
theorem Bc {c:fx}{w:aF}(h:w.ai.aM.when=3):fI c w=(if mM c&&c.e.nQ==3 then oB c.e.kind 2 c.e.aO c.before c.de w else []).map fun id=>⟨w.id,w.you,w.ai,R8 c.e false id⟩:=by
 unfold fI fC;rw[h];rfl
theorem Pk {c:fx}{w:aF}(h:w.ai.aM.when=2):fI c w=(if mM c then oB c.e.kind 2 c.e.aO c.before c.de w else []).map fun id=>⟨w.id,w.you,w.ai,R8 c.e false id⟩:=by
 unfold fI fC;rw[h];rfl
def kG:eh:=⟨3,0,eJ⟩
def DP:eh:=⟨2,0,oZ⟩
theorem Hu (H:KB s)(h:mM (Lw [ea kG] s T e)=false∨e.nQ≠3):DU [ea kG] s T e=[]:=by
 rw[wo rfl H];refine wz fun o _=>?_;rw[Bc rfl,if_neg]
 ·rfl
 ·rw[ag,not_and];rcases h with h|h
  ·intro h1;rw[h] at h1
   cases h1
  ·intro _ h1;exact h (by simpa [Lw] using h1)
theorem Ht (H:KB s)(h:mM (Lw [ea kG] s T e)=true)(ht:e.nQ=3)(hk:e.kind=2){k:Nat}(hl:k < s.aa.length)(he:s.aa[k].id=e.aO):DU [ea kG] s T e=s.aa.map fun o=>⟨o.id,o.control,jg kG,e⟩:=by
 rw[wo rfl H];refine kt fun o _=>?_;rw[Bc rfl,if_pos (by rw[h];show(true&&e.nQ==3)=true;rw[ht];rfl)];unfold oB
 rw[if_pos (by
  show(e.kind==2&&jK s.aa (allM [ea kG] s) e.aO o.control o.id eJ)=true;rw[hk,<- he,(H.fits hl _ _).1];rfl)]
 rfl
theorem ZH (H:KB s)(h:mM (Lw [ea DP] s T e)=true)(hk:e.kind=2){k:Nat}(hl:k < s.aa.length)(he:s.aa[k].id=e.aO):DU [ea DP] s T e=[⟨e.aO,s.aa[k].control,jg DP,e⟩]:=by
 rw[wo rfl H]
 have hw:∀ o:aE,fI (Lw [ea DP] s T e) (TY DP true o)=if e.aO==o.id then [⟨o.id,o.control,jg DP,e⟩] else []:=fun o=>by
  rw[Pk rfl,if_pos h];unfold oB;show(List.map _ (if (e.kind==2&&jK s.aa (allM [ea DP] s) e.aO o.control o.id oZ)=true then [e.aO] else []))=_;rw[hk,<- he,(H.fits hl _ _).2,he]
  cases (e.aO==o.id) <;> rfl
 simp only[hw];have hs:=H.qN
 have key:∀ l:List aE,l.Pairwise (fun a b=>a.id < b.id)->(∀ o∈l,o.id≠e.aO)∨(∃ (j:Nat) (hj:j < l.length),l[j].id=e.aO∧(l.flatMap fun o=>if e.aO==o.id then [(⟨o.id,o.control,jg DP,e⟩:bW)] else [])=[⟨e.aO,l[j].control,jg DP,e⟩]):=fun l=>by
  induction l with
  | nil=>exact fun _=>.inl fun _ h=>by cases h
  | cons x r ih=>
   intro hp;obtain⟨h1,h2⟩:=List.pairwise_cons.1 hp
   by_cases hx:x.id=e.aO
   ·refine .inr ⟨0,Nat.succ_pos _,hx,?_⟩
    rw[bK,if_pos (by rw[hx];exact beq_self_eq_true _),wz fun o ho=>if_neg (by
     have:=h1 o ho;simp only[beq_iff_eq];omega),hx]
    rfl
   ·rcases ih h2 with ih|⟨j,hj,e1,e2⟩
    ·exact .inl fun o ho=>(List.mem_cons.1 ho).elim (fun q=>q▸hx) (ih o)
    ·refine .inr ⟨j+1,Nat.succ_lt_succ hj,e1,?_⟩;rw[bK,if_neg (by simp only[beq_iff_eq];omega),e2];rfl
 rcases key _ hs with h1|⟨j,hj,e1,e2⟩
 ·exact absurd he (h1 _ (aI hl))
 ·rw[e2]
  have:j=k:=by
   rcases Nat.lt_trichotomy j k with q|q|q
   ·have:=cu.1 hs j k hj hl q;omega
   ·exact q
   ·have:=cu.1 hs k j hl hj q;omega
  subst this;rfl
end
section
variable {t:eh}
theorem kQ (you:Int)(n:Nat):KB (eD you n):=by
 refine⟨rfl,fun o ho=>?_,?_⟩
 ·obtain⟨i,_,rfl⟩:=bA.1 ho;exact⟨rfl,rfl,rfl⟩
 ·refine List.pairwise_map.2 (List.pairwise_lt_range.imp fun {a b} h=>?_);show((a+1:Nat):Int) < ((b+1:Nat):Int);omega
theorem RS (you:Int){n:Nat}(hn:n<=1000):(eD you n).ok:=by
 have hp:∀ y∈(MB 1).az,cq.ok y:=fun y hy=>by
  have:y=p20:=by simpa [MB] using hy
  rw[this];exact⟨aD _,aD _,aD _⟩
 refine⟨?_,hp,?_,fun y _=>trivial,?_,aD _,aD _,(fun y hy=>by cases hy),aD _,(fun y hy=>by cases hy),aD _,(fun y hy=>by cases hy),aD _⟩
 ·show 2*152<=ba;unfold ba;omega
 ·show(kE you n).length*128<=ba;rw[jt];unfold ba;omega
 ·show(xx n).length*8<=ba;rw[wu];unfold ba;omega
theorem CL (ht:t.ok)(you:Int){n:Nat}(hn:n<=20):xf [ea t] (eD you n):=by
 refine⟨?_,fun y hy=>?_,RS you (by omega),fun c hc=>?_,?_,aD _,(kQ you n).qN⟩
 ·show 1*176<=ba;unfold ba;omega
 ·rw[aJ.1 hy];exact RX t ht
 ·rw[aJ.1 hc];show 1<=8;omega
 ·show(kE you n).length<=2048;rw[jt];omega
theorem Hy (ht:t.ok){you:Int}(hy:you=0∨you=1){n:Nat}(hn:n<=20):Pe S1 [ea t] (eD you n) (allM [ea t] (eD you n)):=by
 have hi:=Wo ⟨n,by omega⟩;refine(CL ht you hn).doh (T2 ?_) ?_
 ·rcases hy with rfl|rfl
  ·exact hi.1
  ·exact hi.2
 ·show((n+1:Nat):Int)<=1000000∧((n+1:Nat):Int)<=1000000;omega
def NW (k p:Int):bV:=⟨k,0,0,p,1,0,0,0,0,0,false,false,0,0,0⟩
def tf (id p to:Int):bV:=⟨2,0,id,p,0,0,to,0,0,0,false,false,0,0,0⟩
def evT:bV:=⟨6,0,1,0,0,0,0,0,0,0,false,false,0,0,0⟩
def zz (p y w:Int):Bool:=if w=0 then true else if w=1 then p==y else w==2&&p != y
theorem WM (you:Int)(n:Nat)(all:List aG){k p:Int}(hk:k=3∨k=14∨k=15∨k=4∨k=5)(hp:p=0∨p=1):∃ pl,wG [ea t] (eD you n) all (NW k p)={ eD you n with az:=pl }∧∀ y w,kM pl p y w=zz p y w:=by
 rcases hk with rfl|rfl|rfl|rfl|rfl <;> rcases hp with rfl|rfl <;> exact⟨_,rfl,fun y w=>rfl⟩
theorem ZG {k p you:Int}{n:Nat}(hk:k=3∨k=14∨k=15∨k=4∨k=5)(hp:p=0∨p=1)(h0:kD t.when≠0)(h9:t.when≠9)(hl:xn t.when=false):DU [ea t] (eD you n) (qJ [ea t] (eD you n) (NW k p)) (NW k p)=if (k==kD t.when&&zz p you t.who)=true then(kE you n).map fun o=>⟨o.id,o.control,jg t,NW k p⟩ else []:=by
 obtain⟨pl,e1,e2⟩:=WM (t:=t) you n (allM [ea t] (eD you n)) hk hp;unfold qJ;rw[e1];have F:KB ({ eD you n with az:=pl }:aA):=⟨rfl,(kQ you n).ob,(kQ you n).qN⟩
 rw[RJ hl F]
 have hw:∀ o∈kE you n,fI (Lw [ea t] (eD you n) { eD you n with az:=pl } (NW k p)) (TY t false o)=if (k==kD t.when&&zz p you t.who)=true then [⟨o.id,o.control,jg t,NW k p⟩] else []:=fun o ho=>by
  have hc:o.control=you:=by
   obtain⟨i,_,rfl⟩:=bA.1 ho;rfl
  rw[Pj (w:=TY t false o) h0 h9];show(if (k==kD t.when&&kM pl p o.control t.who)=true then _ else _)=_;rw[e2,show zz p o.control t.who=zz p you t.who by rw[hc]];rfl
 show(kE you n).flatMap _=_
 by_cases h:(k==kD t.when&&zz p you t.who)=true
 ·rw[if_pos h];exact kt fun o ho=>by rw[hw o ho,if_pos h]
 ·rw[if_neg h];exact wz fun o ho=>by rw[hw o ho,if_neg h]
def Ga:List Int:=[8,10,11,12,13]
def AW:List Int:=[3,14,15,4,5]
theorem acN:∀ w:Fin 5,kD (Ga.getD w.val 0)≠0∧Ga.getD w.val 0≠9∧xn (Ga.getD w.val 0)=false∧∀ i:Fin 5,(AW.getD i.val 0==kD (Ga.getD w.val 0))=(i.val==w.val)∧(AW.getD i.val 0=3∨AW.getD i.val 0=14∨AW.getD i.val 0=15∨AW.getD i.val 0=4∨AW.getD i.val 0=5):=by decide +kernel
theorem RP:∀ n w to:Fin 21,1<=w.val->w.val<=n.val->1<=to.val->to.val<=4->oN [] (eD 0 n.val) (tf w.val 0 to.val)=true∧((eD 0 n.val).aa.any fun o=>o.id==(w.val:Int)&&o.cg==0)=true∧((EW (eD 0 n.val) (tf w.val 0 to.val)).aa.any fun o=>o.id==(w.val:Int))=false:=by decide +kernel
theorem Ao:oN [] (eD 1 2) (tf 1 1 3)=true∧((eD 1 2).aa.any fun o=>o.id==(1:Int)&&o.cg==0)=true∧((EW (eD 1 2) (tf 1 1 3)).aa.any fun o=>o.id==(1:Int))=false:=by decide +kernel
theorem zT {you id p to:Int}{n:Nat}(h1:oN [] (eD you n) (tf id p to)=true)(h2:((eD you n).aa.any fun o=>o.id==id&&o.cg==0)=true)(h3:((EW (eD you n) (tf id p to)).aa.any fun o=>o.id==id)=false):mM (Lw [ea t] (eD you n) (qJ [ea t] (eD you n) (tf id p to)) (tf id p to))=true:=by
 have dZ:oN [ea t] (eD you n) (tf id p to)=true:=h1;unfold qJ;rw[ZP dZ rfl];unfold mM;show(true&&(decide (jS (fun o:aE=>o.id==id&&o.cg==0) (eD you n).aa>=0)&&!decide (jS (fun o:aE=>o.id==id) (EW (eD you n) (tf id p to)).aa>=0)))=true;rw[ZL,ZL,h2,h3];rfl
theorem qt (you:Int)(n k:Nat)(hk:k < (eD you n).aa.length):(eD you n).aa[k]=RU you k:=by
 have h:(kE you n)[k]? = some (RU you k):=by
  have hk:k < (kE you n).length:=hk;rw[jt] at hk;unfold kE;rw[bp,List.getElem?_range hk];rfl
 exact aR ((af hk).symm.trans h)
theorem ZI:DU [ea kG] (eD 1 2) (qJ [ea kG] (eD 1 2) (tf 1 1 3)) (tf 1 1 3)=[⟨1,1,jg kG,tf 1 1 3⟩,⟨2,1,jg kG,tf 1 1 3⟩]:=by
 rw[Ht (kQ 1 2) (zT Ao.1 Ao.2.1 Ao.2.2) rfl rfl (k:=0) (by decide) rfl];rfl
theorem Wi (T:aA):DU [ea kG] (eD 1 2) T evT=[]:=Hu (kQ 1 2) (.inl rfl)
theorem RL {n w:Nat}{to:Int}(hn:n<=20)(hw1:1<=w)(Y4:w<=n)(ht1:1<=to)(ht2:to<=4) :
  DU [ea kG] (eD 0 n) (qJ [ea kG] (eD 0 n) (tf w 0 to)) (tf w 0 to)=(if to=3 then(kE 0 n).map fun o=>⟨o.id,o.control,jg kG,tf w 0 to⟩ else [])∧
  DU [ea DP] (eD 0 n) (qJ [ea DP] (eD 0 n) (tf w 0 to)) (tf w 0 to)=[⟨w,0,jg DP,tf w 0 to⟩]:=by
 obtain⟨k,rfl⟩:∃ k:Nat,to=k:=⟨to.toNat,by omega⟩
 obtain⟨h1,h2,h3⟩:=RP ⟨n,by omega⟩ ⟨w,by omega⟩ ⟨k,by omega⟩ hw1 Y4 (by show 1<=k;omega) (by show k<=4;omega)
 have aS:w - 1 < (eD 0 n).aa.length:=by
  show w - 1 < (kE 0 n).length;rw[jt];omega
 have hid:(eD 0 n).aa[w - 1].id=(tf w 0 k).aO:=by
  rw[qt];show((w - 1+1:Nat):Int)=(w:Int);omega
 refine⟨?_,?_⟩
 ·by_cases h:(k:Int)=3
  ·rw[if_pos h];exact Ht (kQ 0 n) (zT h1 h2 h3) h rfl aS hid
  ·rw[if_neg h];exact Hu (kQ 0 n) (.inr h)
 ·rw[ZH (kQ 0 n) (zT h1 h2 h3) rfl aS hid,qt];rfl
end
end Go.Proofs.YtbmdcnkidjlbbaaGreat
end
section
namespace Go.Proofs.YtbmdcnkidjlbbaaGreat
open Go Cg Go.RowKit Go.Sort
theorem qI:Ct ae 9 [] (AV.b true) [] true:=by
 refine Ct.lit (b:=false) ?_ rfl;have hd:(kG:eh).ok:=fg;have TC:=Ap kG;have hs:=wq 2 1 (by decide);have D:=Hy (t:=kG) hd (you:=1) (.inr rfl) (n:=2) (by decide);have Q:=CL (t:=kG) hd 1 (n:=2) (by decide);have h1:=lL Q D (tf 1 1 3);have h2:=lL Q D evT;rw[ZI] at h1;rw[Wi] at h2;refine bT Tryz.func9 rfl (enters_of Tryz.func9 (by kernel_rfl) rfl) tabOk (by kernel_rfl) rfl rfl rfl rfl fun w0 O _=>Tp.run [2,3,4] ?_;refine cI TC ⟨?_,trivial⟩ (.inr rfl) ?_
 ·repeat' first|refine Ai ?_ ?_|exact rfl|exact trivial|exact Ei _ rfl|refine aj ?_|refine bS ?_|fail
 refine Tp.run [] ?_;refine cI hs ⟨rfl,rfl,trivial⟩ (.inr rfl) ?_;refine cI h1 ⟨rfl,fL (eD 1 2).enc,?_,trivial⟩ (.inr rfl) ?_
 ·repeat' first|refine Ai ?_ ?_|exact rfl|exact trivial|exact Ei _ rfl|refine aj ?_|refine bS ?_|fail
 refine Tp.run [] ?_;refine cI hs ⟨rfl,rfl,trivial⟩ (.inr rfl) ?_;refine cI h2 ⟨rfl,fL (eD 1 2).enc,?_,trivial⟩ (.inr rfl) ?_
 ·repeat' first|refine Ai ?_ ?_|exact rfl|exact trivial|exact Ei _ rfl|refine aj ?_|refine bS ?_|fail
 refine Tp.run [] ?_;refine Ei 0 (Ei _ (Ai rfl (Ai rfl ?_)));refine Ei 1 (Ei _ (Ai rfl (Ai rfl ?_)));refine Ei 0 (Ei _ (Ai rfl (Ai rfl ?_)));refine Ei 0 (Ei _ (Ai rfl (Ai rfl ?_)));refine Ei 0 (Ei _ (Ai rfl (Ai rfl ?_)));refine Ei [] (Ai rfl (Ai trivial ?_))
 repeat' first|refine Ai ?_ ?_|exact rfl|exact trivial|exact Ei _ rfl|refine aj ?_|refine bS ?_|fail
end Go.Proofs.YtbmdcnkidjlbbaaGreat
end
section
namespace Go.Proofs.YtbmdcnkidjlbbaaGreat
open Go Cg Go.RowKit

end Go.Proofs.YtbmdcnkidjlbbaaGreat
end
section
namespace Go.Proofs.YtbmdcnkidjlbbaaGreat
open Go Cg Go.RowKit Go.Sort

theorem MH {α β:Type}(f:α->β)(l:List α)(k:Nat)(h:k < l.length){x:α}(hx:l[k]=x):(l.map f)[k]? = some (f x):=by
  rw[bp,af h,hx];rfl
def xF (i w:Nat)(who p you:Int):Bool:=i==w&&zz p you who
theorem Wj {i w:Nat}(hi:i < 5)(hw:w < 5){who p you:Int}{n:Nat}(hp:p=0∨p=1):DU [ea ⟨Ga.getD w 0,who,eJ⟩] (eD you n) (qJ [ea ⟨Ga.getD w 0,who,eJ⟩] (eD you n) (NW (AW.getD i 0) p)) (NW (AW.getD i 0) p)=if xF i w who p you=true then(kE you n).map fun o=>⟨o.id,o.control,jg ⟨Ga.getD w 0,who,eJ⟩,NW (AW.getD i 0) p⟩ else []:=by
  obtain⟨h1,h2,h3,h4⟩:=acN ⟨w,hw⟩;obtain⟨h5,h6⟩:=h4 ⟨i,hi⟩;have h5:(AW.getD i 0==kD (Ga.getD w 0))=(i==w):=h5;have:=ZG (t:=⟨Ga.getD w 0,who,eJ⟩) (you:=you) (n:=n) h6 hp h1 h2 h3;rw[this];show(if (AW.getD i 0==kD (Ga.getD w 0)&&zz p you who)=true then _ else _)=_;rw[h5];rfl
theorem uY (n mI to:Int):Ct ae 7 [.c (.t (iv n)),.c (.t (iv mI)),.c (.t (iv to))] (AV.b true) [] true:=by
  refine Ct.lit (b:=false) ?_ rfl
  by_cases h0:n < 1∨n > 20∨mI < 1∨mI > n∨to < 1∨to > 4
  · refine bT Tryz.func7 rfl (enters_of Tryz.func7 (by kernel_rfl) rfl) tabOk (by kernel_rfl) rfl rfl rfl rfl fun w0 O _=>Tp.run [2,3] ?_
    have fin:True:=trivial
    repeat' (first|(refine cS (fun _=>?_) (fun _=>?_))|(refine Tp.run [] ?_;refine cI qI trivial (.inl rfl) ?_;refine Ei [] (Ai rfl (Ai trivial ?_));exact rfl)|fail)
    exfalso;simp only[decide_eq_false_iff_not] at *;omega
  · obtain⟨N,rfl⟩:∃ N:Nat,n=N:=⟨n.toNat,by omega⟩
    obtain⟨w,rfl⟩:∃ w:Nat,mI=w:=⟨mI.toNat,by omega⟩
    have g1:¬ (N:Int) < 1:=by omega
    have g2:¬ (N:Int) > 20:=by omega
    have g3:¬ (w:Int) < 1:=by omega
    have g4:¬ (w:Int) > N:=by omega
    have g5:¬ to < 1:=by omega
    have g6:¬ to > 4:=by omega
    have hN:N<=20:=by omega
    have TC:=wq N 0 (by omega);have TD:=Ap kG;have VV:=Ap DP;have h1:=lL (CL (t:=kG) fg 0 hN) (Hy (t:=kG) fg (you:=0) (.inl rfl) hN) (tf w 0 to);have h2:=lL (CL (t:=DP) fg 0 hN) (Hy (t:=DP) fg (you:=0) (.inl rfl) hN) (tf w 0 to);obtain⟨d1,d2⟩:=RL (n:=N) (w:=w) (to:=to) hN (by omega) (by omega) (by omega) (by omega);rw[d1] at h1;rw[d2] at h2
    by_cases h3:to=3
    · subst h3
      rw[if_pos rfl] at h1
      obtain⟨M,hM,hMl,hMs⟩:∃ M:List bW,((kE 0 N).map fun o=>⟨o.id,o.control,jg kG,tf w 0 3⟩)=M∧M.length=N∧∀ k (hk:k < M.length),M[k].source=((k+1:Nat):Int)∧M[k].event.aO=w:=by
        refine⟨_,rfl,by rw[Lm,jt],fun k hk=>?_⟩;rw[Lm] at hk;rw[List.getElem_map];exact⟨congrArg aE.id (qt 0 N k hk),rfl⟩
      rw[hM] at h1;have hM8:M.length*768<=ba:=by unfold ba;omega
      refine bT Tryz.func7 rfl (enters_of Tryz.func7 (by kernel_rfl) rfl) tabOk (by kernel_rfl) rfl rfl rfl rfl fun w0 O _=>Tp.run [2,3,4,5,6,7,8,14] ?_;refine cQ (decide_eq_false g1) ?_;refine cQ (decide_eq_false g2) ?_;refine cQ (decide_eq_false g3) ?_;refine cQ (decide_eq_false g4) ?_;refine Tp.run [] ?_;refine Tp.run [] ?_;refine cI TD ⟨?_,trivial⟩ (.inr rfl) ?_
      · repeat' first|refine Ai ?_ ?_|exact rfl|exact trivial|exact Ei _ rfl|refine aj ?_|refine bS ?_|fail
      refine cI TC ⟨rfl,rfl,trivial⟩ (.inr rfl) ?_;refine cI h1 ⟨rfl,fL (eD 0 N).enc,?_,trivial⟩ (.inr rfl) ?_
      · repeat' first|refine Ai ?_ ?_|exact rfl|exact trivial|exact Ei _ rfl|refine aj ?_|refine bS ?_|fail
      refine Tp.run [] ?_;refine cI VV ⟨?_,trivial⟩ (.inr rfl) ?_
      · repeat' first|refine Ai ?_ ?_|exact rfl|exact trivial|exact Ei _ rfl|refine aj ?_|refine bS ?_|fail
      refine cI TC ⟨rfl,rfl,trivial⟩ (.inr rfl) ?_;refine cI h2 ⟨rfl,fL (eD 0 N).enc,?_,trivial⟩ (.inr rfl) ?_
      · repeat' first|refine Ai ?_ ?_|exact rfl|exact trivial|exact Ei _ rfl|refine aj ?_|refine bS ?_|fail
      refine Tp.run [] ?_;refine Tp.run [] ?_;refine Tp.loop (fun k:Nat=>⟨[(0,AV.i N),(1,AV.i w),(8,.c (.t (.sl 89 (M.map bW.enc)))),(9,.c (.t (.sl 89 ([(⟨w,0,jg DP,tf w 0 3⟩:bW)].map bW.enc)))),(73,.c (.t (.sl 89 (M.map bW.enc)))),(74,AV.i (M.map bW.enc).length),(75,AV.i k)],[],[],10000⟩) (fun k=>k<=M.length) (fun k=>M.length - k) 0 ?_ (aD _) ?_
      · refine bh [] rfl rfl ?_ ?_ ?_
        · repeat' first|refine Ai ?_ ?_|exact rfl|exact trivial|exact Ei _ rfl|refine aj ?_|refine bS ?_|fail
        · repeat' first|refine Ai ?_ ?_|exact rfl|exact trivial|exact Ei _ rfl|refine aj ?_|refine bS ?_|fail
        · repeat' first|refine Ai ?_ ?_|exact rfl|exact trivial|exact Ei _ rfl|refine aj ?_|refine bS ?_|fail
      rintro k hk;refine Tp.run [10,11,13] ?_;refine cS (fun h=>?_) (fun h=>?_)
      · have aS:=cN h
        obtain⟨e1,e2⟩:=hMs k aS;refine Tp.run [] ?_;refine Ei k (Ei (M[k].enc) (Ai rfl (Ai (aQ _ _ k aS) ?_)));refine Tp.run [] ?_;refine cQ (show(M[k].source != IntKind.i64.wrap ((k:Int)+1))=false by rw[e1,fU k (by omega)];exact bne_self_eq_false _) ?_;refine cQ (show(M[k].event.aO != (w:Int))=false by rw[e2];exact bne_self_eq_false _) ?_;refine Tp.run [] ?_;refine Ei (k+1) (Ai (show k+1<=_ by omega) (Ai (show M.length - (k+1) < M.length - k by omega) ?_));refine bh [] rfl rfl ?_ ?_ ?_
        · repeat' first|refine Ai ?_ ?_|exact rfl|exact trivial|exact Ei _ rfl|refine aj ?_|refine bS ?_|fail
          exact succ_eq k aS 768 (by decide) hM8
        · repeat' first|refine Ai ?_ ?_|exact rfl|exact trivial|exact Ei _ rfl|refine aj ?_|refine bS ?_|fail
        · repeat' first|refine Ai ?_ ?_|exact rfl|exact trivial|exact Ei _ rfl|refine aj ?_|refine bS ?_|fail
      · refine Tp.run [] ?_
        refine cI qI trivial (.inl rfl) ?_;refine eu (show(((M.map bW.enc).length:Int)==(N:Int))=true by rw[Lm,hMl];exact beq_self_eq_true _) ?_;refine Ei 0 (Ei _ (Ai rfl (Ai rfl ?_)));refine Ei [] (Ai rfl (Ai trivial ?_))
        repeat' first|refine Ai ?_ ?_|exact rfl|exact trivial|exact Ei _ rfl|refine aj ?_|refine bS ?_|fail
        exact congrArg bv (beq_self_eq_true _)
    · rw[if_neg h3] at h1
      refine bT Tryz.func7 rfl (enters_of Tryz.func7 (by kernel_rfl) rfl) tabOk (by kernel_rfl) rfl rfl rfl rfl fun w0 O _=>Tp.run [2,3,4,5,6,7,8,14] ?_;refine cQ (decide_eq_false g1) ?_;refine cQ (decide_eq_false g2) ?_;refine cQ (decide_eq_false g3) ?_;refine cQ (decide_eq_false g4) ?_;refine cQ (decide_eq_false g5) ?_;refine cQ (decide_eq_false g6) ?_;refine Tp.run [] ?_;refine Tp.run [] ?_;refine cI TD ⟨?_,trivial⟩ (.inr rfl) ?_
      · repeat' first|refine Ai ?_ ?_|exact rfl|exact trivial|exact Ei _ rfl|refine aj ?_|refine bS ?_|fail
      refine cI TC ⟨rfl,rfl,trivial⟩ (.inr rfl) ?_;refine cI h1 ⟨rfl,fL (eD 0 N).enc,?_,trivial⟩ (.inr rfl) ?_
      · repeat' first|refine Ai ?_ ?_|exact rfl|exact trivial|exact Ei _ rfl|refine aj ?_|refine bS ?_|fail
      refine Tp.run [] ?_;refine cI VV ⟨?_,trivial⟩ (.inr rfl) ?_
      · repeat' first|refine Ai ?_ ?_|exact rfl|exact trivial|exact Ei _ rfl|refine aj ?_|refine bS ?_|fail
      refine cI TC ⟨rfl,rfl,trivial⟩ (.inr rfl) ?_;refine cI h2 ⟨rfl,fL (eD 0 N).enc,?_,trivial⟩ (.inr rfl) ?_
      · repeat' first|refine Ai ?_ ?_|exact rfl|exact trivial|exact Ei _ rfl|refine aj ?_|refine bS ?_|fail
      refine Tp.run [] ?_;refine eu (show(to != 3)=true by simpa using h3) ?_;refine Tp.run [] ?_;refine cI qI trivial (.inl rfl) ?_;refine Ei 0 (Ei _ (Ai rfl (Ai rfl ?_)));refine Ei [] (Ai rfl (Ai trivial ?_))
      repeat' first|refine Ai ?_ ?_|exact rfl|exact trivial|exact Ei _ rfl|refine aj ?_|refine bS ?_|fail
      exact congrArg bv (beq_self_eq_true _)
theorem tD (x:eH):Ct ae 6 [.agg (x.enc.map .t)] (AV.b true) [] true:=by
  refine Ct.lit (b:=false) ?_ rfl;obtain⟨mI,who,you,p,n⟩:=x
  by_cases h0:mI < 0∨mI > 4∨who < 0∨who > 2∨you < 0∨you > 1∨p < 0∨p > 1∨n < 0∨n > 20
  · refine bT Tryz.func6 rfl (enters_of Tryz.func6 (by kernel_rfl) rfl) tabOk (by kernel_rfl) rfl rfl rfl rfl fun w0 O _=>Tp.run [3,4] ?_
    repeat' (first|(refine cS (fun _=>?_) (fun _=>?_))|(refine Tp.run [] ?_;refine cI qI trivial (.inl rfl) ?_;refine Ei [] (Ai rfl (Ai trivial ?_));exact rfl)|fail)
    exfalso;simp only[decide_eq_false_iff_not] at *;omega
  · obtain⟨N,rfl⟩:∃ N:Nat,n=N:=⟨n.toNat,by omega⟩
    obtain⟨w,rfl⟩:∃ w:Nat,mI=w:=⟨mI.toNat,by omega⟩
    have g1:¬ (w:Int) < 0:=by omega
    have g2:¬ (w:Int) > 4:=by omega
    have g3:¬ who < 0:=by omega
    have g4:¬ who > 2:=by omega
    have g5:¬ you < 0:=by omega
    have g6:¬ you > 1:=by omega
    have g7:¬ p < 0:=by omega
    have g8:¬ p > 1:=by omega
    have g9:¬ (N:Int) < 0:=by omega
    have g10:¬ (N:Int) > 20:=by omega
    have hN:N<=20:=by omega
    have hw:w < 5:=by omega
    have hp:p=0∨p=1:=by omega
    have hyo:you=0∨you=1:=by omega
    obtain⟨W,hW⟩:∃ W,W=Ga.getD w 0:=⟨_,rfl⟩
    have hwl:w < Ga.length:=hw;have hWg:Ga[w]=W:=by rw[hW,List.getD_eq_getElem?_getD,af hwl];rfl
    have TC:=wq N you (by omega);have hf:=Ap ⟨W,who,eJ⟩;have hQ:=CL (t:=⟨W,who,eJ⟩) fg you hN;have hD:=Hy (t:=⟨W,who,eJ⟩) fg hyo hN;refine bT Tryz.func6 rfl (enters_of Tryz.func6 (by kernel_rfl) rfl) tabOk (by kernel_rfl) rfl rfl rfl rfl fun w0 O _=>Tp.run [3,4,5,6,7,23] ?_;refine cQ (decide_eq_false g2) ?_;refine cQ (decide_eq_false g3) ?_;refine cQ (decide_eq_false g4) ?_;refine cQ (decide_eq_false g5) ?_;refine cQ (decide_eq_false g6) ?_;refine cQ (decide_eq_false g7) ?_;refine cQ (decide_eq_false g8) ?_;refine cQ (decide_eq_false g10) ?_;refine Tp.run [] ?_;refine Tp.run [] ?_;refine Tp.lW [] (Tp.run [] ?_);refine Ei w (Ei [iv W] (Ai rfl (Ai ?_ ?_)))
    · exact MH eI Ga w hwl hWg
    refine cI hf ⟨?_,trivial⟩ (.inr rfl) ?_
    · repeat' first|refine Ai ?_ ?_|exact rfl|exact trivial|exact Ei _ rfl|refine aj ?_|refine bS ?_|fail
    refine Tp.run [] ?_;refine Tp.loop (fun i:Nat=>⟨[(3,AV.i w),(4,.c (.t (iv who))),(5,.c (.t (iv you))),(6,.c (.t (iv p))),(7,AV.i N),(10,.c (.t (.sl 17 ([ea ⟨W,who,eJ⟩].map bX.enc)))),(75,.c (.t (.sl 1 (AW.map eI)))),(76,AV.i 5),(77,AV.i i)],[],[],10000⟩) (fun i=>i<=5) (fun i=>5 - i) 0 ?_ (aD _) ?_
    · refine bh [] rfl rfl ?_ ?_ ?_
      · repeat' first|refine Ai ?_ ?_|exact rfl|exact trivial|exact Ei _ rfl|refine aj ?_|refine bS ?_|fail
      · repeat' first|refine Ai ?_ ?_|exact rfl|exact trivial|exact Ei _ rfl|refine aj ?_|refine bS ?_|fail
      · repeat' first|refine Ai ?_ ?_|exact rfl|exact trivial|exact Ei _ rfl|refine aj ?_|refine bS ?_|fail
    rintro i hi;refine Tp.run [9,10,11,12,13,14,15,16,22] ?_;refine cS (fun h=>?_) (fun h=>?_)
    · have hi5:i < 5:=by have:=of_decide_eq_true h;omega
      obtain⟨k,hk⟩:∃ k,k=AW.getD i 0:=⟨_,rfl⟩
      have lU:i < AW.length:=hi5;have hkg:AW[i]=k:=by rw[hk,List.getD_eq_getElem?_getD,af lU];rfl
      have uk:=lL hQ hD (NW k p);have mq:=Wj hi5 hw (who:=who) (you:=you) (n:=N) hp;rw[<- hW,<- hk] at mq;rw[mq] at uk;obtain⟨want,yy⟩:∃ want,want=if xF i w who p you=true then N else 0:=⟨_,rfl⟩
      obtain⟨M,hM,hMl,hMs⟩:∃ M:List bW,(if xF i w who p you=true then(kE you N).map fun o=>(⟨o.id,o.control,jg ⟨W,who,eJ⟩,NW k p⟩:bW) else [])=M∧M.length=want∧∀ k (hk:k < M.length),M[k].source=((k+1:Nat):Int)∧M[k].control=you:=by
        by_cases hB:xF i w who p you=true
        · rw[if_pos hB,yy,if_pos hB]
          refine⟨_,rfl,by rw[Lm,jt],fun k hk=>?_⟩;rw[Lm] at hk;rw[List.getElem_map];exact⟨congrArg aE.id (qt you N k hk),congrArg aE.control (qt you N k hk)⟩
        · rw[if_neg hB,yy,if_neg hB]
          exact⟨[],rfl,rfl,fun k hk=>absurd hk (Nat.not_lt_zero k)⟩
      rw[hM] at uk
      have hM8:M.length*768<=ba:=by
        have:want<=20:=by rw[yy];split <;> omega
        unfold ba;omega
      refine Tp.run [] ?_;refine Ei i (Ei [iv k] (Ai rfl (Ai ?_ ?_)))
      · exact MH eI AW i lU hkg
      refine Tp.run [] ?_;apply zW (P:=ae) (T:=T) (N:=Tryz.f6.ntmps) (w0:=w0) (O:=O) ⟨[(3,AV.i w),(4,.c (.t (iv who))),(5,.c (.t (iv you))),(6,.c (.t (iv p))),(7,AV.i N),(10,.c (.t (.sl 17 ([ea ⟨W,who,eJ⟩].map bX.enc)))),(12,.c (.t (iv k))),(13,AV.i want),(75,.c (.t (.sl 1 (AW.map eI)))),(76,AV.i 5),(77,AV.i i)],[],[],16000⟩
      case h=>
        intro J;refine Tp.run [] ?_
        by_cases Zn:¬ i=w
        · have OY:want=0:=by
            rw[yy];unfold xF;rw[show(i==w)=false by simpa using Zn,Bool.false_and];rfl
          rw[OY] at J;refine cQ (show((i:Int)==(w:Int))=false by simp only[beq_eq_false_iff_ne,ne_eq];omega) ?_;refine Tp.wk (bh [] rfl rfl ?_ ?_ ?_) J
          all_goals repeat' first|refine Ai ?_ ?_|exact rfl|exact trivial|exact Ei _ rfl|refine aj ?_|refine bS ?_|fail
        · have Zn:i=w:=Classical.not_not.1 Zn
          have adT:who=0∨who=1∨who=2:=by omega
          refine eu (show((i:Int)==(w:Int))=true by rw[Zn];exact beq_self_eq_true _) ?_
          have OY:want=if zz p you who=true then N else 0:=by
            rw[yy];unfold xF;rw[Zn,beq_self_eq_true,Bool.true_and]
          rcases hp with rfl|rfl <;> rcases hyo with rfl|rfl <;> rcases adT with rfl|rfl|rfl
          all_goals
            have OY:=OY
            first
            | (have OY:want=N:=OY
               rw[OY] at J;refine Tp.run [] ?_;refine Tp.wk (bh [] rfl rfl ?_ ?_ ?_) J
               all_goals repeat' first|refine Ai ?_ ?_|exact rfl|exact trivial|exact Ei _ rfl|refine aj ?_|refine bS ?_|fail
               done)
            | (have OY:want=0:=OY
               rw[OY] at J;refine Tp.wk (bh [] rfl rfl ?_ ?_ ?_) J
               all_goals repeat' first|refine Ai ?_ ?_|exact rfl|exact trivial|exact Ei _ rfl|refine aj ?_|refine bS ?_|fail
               done)
      case key=>
        refine Tp.run [] ?_;refine cI TC ⟨rfl,rfl,trivial⟩ (.inr rfl) ?_;refine cI uk ⟨rfl,fL (eD you N).enc,?_,trivial⟩ (.inr rfl) ?_
        · repeat' first|refine Ai ?_ ?_|exact rfl|exact trivial|exact Ei _ rfl|refine aj ?_|refine bS ?_|fail
        refine Tp.run [] ?_;refine cQ (show(((M.map bW.enc).length:Int) != (want:Int))=false by rw[Lm,hMl];exact bne_self_eq_false _) ?_;refine Tp.run [] ?_;refine Tp.loop (fun j:Nat=>⟨[(3,AV.i w),(4,.c (.t (iv who))),(5,.c (.t (iv you))),(6,.c (.t (iv p))),(7,AV.i N),(10,.c (.t (.sl 17 ([ea ⟨W,who,eJ⟩].map bX.enc)))),(75,.c (.t (.sl 1 (AW.map eI)))),(76,AV.i 5),(77,AV.i i),(120,.c (.t (.sl 89 (M.map bW.enc)))),(121,AV.i (M.map bW.enc).length),(122,AV.i j)],[],[],20000⟩) (fun j=>j<=M.length) (fun j=>M.length - j) 0 ?_ (aD _) ?_
        · refine bh [] rfl rfl ?_ ?_ ?_
          · repeat' first|refine Ai ?_ ?_|exact rfl|exact trivial|exact Ei _ rfl|refine aj ?_|refine bS ?_|fail
          · repeat' first|refine Ai ?_ ?_|exact rfl|exact trivial|exact Ei _ rfl|refine aj ?_|refine bS ?_|fail
          · repeat' first|refine Ai ?_ ?_|exact rfl|exact trivial|exact Ei _ rfl|refine aj ?_|refine bS ?_|fail
        rintro j hj;refine Tp.run [18,19,21] ?_;refine cS (fun h=>?_) (fun h=>?_)
        · have aS:=cN h
          obtain⟨e1,e2⟩:=hMs j aS
          have hj5:j+1<=100:=by
            have:want<=20:=by rw[yy];split <;> omega
            omega
          refine Tp.run [] ?_;refine Ei j (Ei (M[j].enc) (Ai rfl (Ai (aQ _ _ j aS) ?_)));refine Tp.run [] ?_;refine cQ (show(M[j].source != IntKind.i64.wrap ((j:Int)+1))=false by rw[e1,fU j (by omega)];exact bne_self_eq_false _) ?_;refine cQ (show(M[j].control != you)=false by rw[e2];exact bne_self_eq_false _) ?_;refine Tp.run [] ?_;refine Ei (j+1) (Ai (show j+1<=_ by omega) (Ai (show M.length - (j+1) < M.length - j by omega) ?_));refine bh [] rfl rfl ?_ ?_ ?_
          · repeat' first|refine Ai ?_ ?_|exact rfl|exact trivial|exact Ei _ rfl|refine aj ?_|refine bS ?_|fail
            exact succ_eq j aS 768 (by decide) hM8
          · repeat' first|refine Ai ?_ ?_|exact rfl|exact trivial|exact Ei _ rfl|refine aj ?_|refine bS ?_|fail
          · repeat' first|refine Ai ?_ ?_|exact rfl|exact trivial|exact Ei _ rfl|refine aj ?_|refine bS ?_|fail
        · refine Tp.run [] ?_
          refine Ei (i+1) (Ai (show i+1<=5 by omega) (Ai (show 5 - (i+1) < 5 - i by omega) ?_));refine bh [] rfl rfl ?_ ?_ ?_
          · repeat' first|refine Ai ?_ ?_|exact rfl|exact trivial|exact Ei _ rfl|refine aj ?_|refine bS ?_|fail
            exact congrArg iv (fU i (by omega))
          · repeat' first|refine Ai ?_ ?_|exact rfl|exact trivial|exact Ei _ rfl|refine aj ?_|refine bS ?_|fail
          · repeat' first|refine Ai ?_ ?_|exact rfl|exact trivial|exact Ei _ rfl|refine aj ?_|refine bS ?_|fail
    · refine Tp.run [] ?_
      refine cI qI trivial (.inl rfl) ?_;refine Ei [] (Ai rfl (Ai trivial ?_))
      repeat' first|refine Ai ?_ ?_|exact rfl|exact trivial|exact Ei _ rfl|refine aj ?_|refine bS ?_|fail
end Go.Proofs.YtbmdcnkidjlbbaaGreat
end
section
namespace Go.Proofs.YtbmdcnkidjlbbaaGreat
open Go Go.ChangeShapes Go.WideShapes Go.ChangeAt Go.RowKit Go.Sort Cg
section
theorem own:ownKnob Tryz.prog.godebug=none:=by kernel_rfl
theorem laidOut:laidOutB ae=true:=by kernel_rfl
theorem B7 {W:World}(se:W.ShapedOpen ae):Gl W:=
 cell_of_shapedOpen_int (P:=ae) (g:=0) (t:=3) (zero:=#[.int .i64 0]) se (of_decide_eq_true (by kernel_rfl)) (by kernel_rfl) rfl (by kernel_rfl) (by kernel_rfl) Tryz.underlying3
theorem WE {H:Type}{enc:TypeId × Value->H}{W:World}{v:Value}{d:DataW H}{ps:List MemPlace}{r:Reach}{b0:Nat}{t:TypeId}{ks:List K}(hu:∃ fs,Tryz.prog.underlying t=some (.struct fs))(hs:shapeOf ae 12 t=some ks)(hv:Value.okWide ae W r b0 t v)
  (h:DataW.Trod enc ae W 0 (fun _=>true) true t v d ps) (hw:KT ae t d):∃ cs es,v=.agg cs.toArray∧xB (fun _=>True) reachBytes W ks cs es:=by
 obtain⟨fs,hu⟩:=hu;unfold Value.okWide at hv;rw[hu] at hv;obtain⟨cs,rfl,_,_⟩:=hv;obtain⟨fuel,hf⟩:=h;obtain⟨es,he⟩:=Gy 12 t ks hs fuel cs.toList (d,ps) hf hw;exact⟨cs.toList,es,rfl,he⟩
open Classical in
noncomputable def yD (F:Nat->Prop):Env:=⟨fun b=>if F b then .bz else .dX,fun _=>0,fun _ _=>undef⟩
theorem FO {F:Nat->Prop}{b:Nat}:(yD F).rl b=.bz↔F b:=by
 unfold yD;simp only;split
 ·simp_all
 ·simp_all
theorem R9 (F:Nat->Prop):(yD F).F=F:=funext fun _=>propext FO
theorem PC {F:Nat->Prop}{w:World}{vs:List Value}{ts:List Tr}(h:iR F w vs ts):A2 (RC (yD F) w) vs (ts.map .t):=zj (by rw[R9];exact h)
theorem WL {F:Nat->Prop}{w:World}{cs:List Value}{ts:List Tr}(h:iR F w cs ts):R1 (yD F) w (.agg cs.toArray) (.agg (ts.map .t)):=⟨cs,rfl,PC h⟩
theorem Aa (F:Nat->Prop)(w:World)(n:Int):R1 (yD F) w (.int .i64 n) (.c (.t (iv n))):=RT.lit rfl
theorem Om {E0:Env}{w:World}{v:Value}{b:Bool}(h:R1 E0 w v (AV.b b)):v=.bool b:=by
 have h:RT E0.F w v (.lit (.bool b)):=h
 cases h
 rfl
theorem yv {P:Program}{f:FuncId}{ax:List AV}{b:Bool}(h:Ct P f ax (AV.b true) [] b){w:World}(hg:Gl w){vs:List Value}{E0:Env}(ha:A2 (R1 E0 w) vs ax):Calls P f vs.toArray w fun e w'=>e=.returned (.bool true)∧Below w.heap.size w w':=by
 refine(h.run w vs E0 hg ha).mono ?_;rintro e w' ⟨v,rfl,hb,E,hr,_⟩;obtain rfl:=Om (E0:=E) (w:=w') hr;exact⟨rfl,hb⟩
theorem Uo {F:Nat->Prop}{w:World}{ks:List K}{cs:List Value}{es:List D}(h:xB F reachBytes w ks cs es):xB F ba w ks cs es:=h.frame (by decide) (al _) (fun _ _ _=>rfl) (fun _ h _=>h)
end
end Go.Proofs.YtbmdcnkidjlbbaaGreat
end
section
namespace Go.Proofs.YtbmdcnkidjlbbaaGreat
open Go Cg Go.RowKit Go.Sort
theorem Pz:shapeOf ae 12 77=some eH.ks:=by kernel_rfl
abbrev Rd1 (w:World)(ks:List K)(cs:List Value)(es:List D):Prop:=xB (fun _=>True) reachBytes w ks cs es
theorem Vi {f:FuncId}{b:Bool}(hf:∀ x:eH,Ct ae f [.agg (x.enc.map .t)] (AV.b true) [] b)(cs:List Value)(es:List D)(w:World)(hg:Gl w)(h:Rd1 w eH.ks cs es):Calls ae f #[.agg cs.toArray] w fun e w'=>e=.returned (.bool true)∧Below w.heap.size w w':=by
 obtain⟨ts,h3,_,h5⟩:=LH (Uo h);obtain⟨a,_,rfl⟩:=eH.UW ts h3;exact yv (hf a) hg (.cons (WL h5) .nil)
theorem Q9 {f:FuncId}{b:Bool}(hf:∀ x y z:Int,Ct ae f [.c (.t (iv x)),.c (.t (iv y)),.c (.t (iv z))] (AV.b true) [] b)(x y z:Int)(w:World)(hg:Gl w):Calls ae f #[.int .i64 x,.int .i64 y,.int .i64 z] w fun e w'=>e=.returned (.bool true)∧Below w.heap.size w w':=
 yv (hf x y z) hg (.cons (Aa (fun _=>True) w x) (.cons (Aa _ w y) (.cons (Aa _ w z) .nil)))
end Go.Proofs.YtbmdcnkidjlbbaaGreat
end
section
namespace Go.Proofs.YtbmdcnkidjlbbaaGreat
open Go
theorem Yr:(laidOutB ae)=true:=by kernel_rfl
theorem Yq:(mapsRowed ae)=true:=by kernel_rfl
theorem Yp:((Tryz.prog.stops==[]))=true:=by kernel_rfl
theorem Yo:((Tryz.prog.stopKnobs==[]))=true:=by kernel_rfl
theorem SZ:(Tryz.prog.stopsHeard)=true:=by kernel_rfl
theorem SY:(Tryz.prog.mayEnter)=true:=by kernel_rfl
theorem dY {a b:Bool}(h1:a=true)(h2:b=true):(a&&b)=true:=by rw[h1,h2];rfl
theorem tC:(Rows.watchPlayersRow.wf (OpenSpec.ofChange Rows.watchPlayersSpec))=true:=by kernel_rfl
theorem tA:(Tryz.f6.params.all (Tryz.prog.readableRec ·))=true:=by kernel_rfl
theorem tx:(namedTie ae Rows.watchPlayersRow.named Rows.watchPlayersSpec.vars)=true:=by kernel_rfl
theorem tw:((Rows.watchPlayersRow.stops==[]))=true:=by kernel_rfl
theorem tv:((Rows.watchPlayersRow.knobs==[]))=true:=by kernel_rfl
theorem tu:((Rows.watchPlayersRow.inPlace==Tryz.prog.inPlace 6))=true:=by kernel_rfl
theorem rB:((Rows.watchPlayersRow.unfollowed==Tryz.prog.unfollowed 6))=true:=by kernel_rfl
theorem rA:((Rows.watchPlayersRow.recurses==Tryz.prog.recurses 6))=true:=by kernel_rfl
theorem rz:((Rows.watchPlayersRow.named==Tryz.prog.varsNamed 6))=true:=by kernel_rfl
theorem rq:((Rows.watchPlayersRow.maps==(Tryz.f6.params.toList++Rows.watchPlayersSpec.plain.varTypes ae).any (Tryz.prog.mapsRec ·)))=true:=by kernel_rfl
theorem rp:((Rows.watchPlayersRow.ifaces==(Tryz.f6.params.toList++Rows.watchPlayersSpec.plain.varTypes ae).any (Tryz.prog.ifacesRec ·)))=true:=by kernel_rfl
theorem rm:((Rows.watchPlayersRow.mapsOut==Tryz.prog.mapsAmong Tryz.f6.resultTypes.toList))=true:=by kernel_rfl
theorem rj:((Rows.watchPlayersRow.loops==(Tryz.f6.params.toList++Rows.watchPlayersSpec.plain.varTypes ae).any (Tryz.prog.loopsFrom ·)))=true:=by kernel_rfl
theorem rh:((Rows.watchPlayersRow.wideKeys==(Tryz.f6.params.toList++Rows.watchPlayersSpec.plain.varTypes ae++Tryz.f6.resultTypes.toList).any (Tryz.prog.wideKeysFrom ·)))=true:=by kernel_rfl
theorem rb:(Rows.watchPlayersSpec.vars.all (Tryz.prog.varReadable ·))=true:=by kernel_rfl
theorem ra:(Tryz.f6.resultTypes.all (fun t=>Tryz.prog.readableRec t&&decide (t < Tryz.prog.types.size)))=true:=by kernel_rfl
theorem q9:((Rows.watchPlayersRow.ifacesOut==Tryz.f6.resultTypes.toList.any (Tryz.prog.ifacesRec ·)))=true:=by kernel_rfl
theorem q8:((Rows.watchPlayersRow.loopsOut==Tryz.f6.resultTypes.toList.any (Tryz.prog.loopsFrom ·)))=true:=by kernel_rfl
theorem q7:((Rows.watchPlayersRow.plainKeys==Tryz.prog.plainKeys))=true:=by kernel_rfl
theorem qZ:(Rows.watchPlayersRow.shortTexts.isNone)=true:=by kernel_rfl
theorem qY:((Rows.watchPlayersRow.lifted==Tryz.prog.liftsFinal))=true:=by kernel_rfl
theorem qX:((Tryz.prog.make==some Rows.watchPlayersRow.make))=true:=by kernel_rfl
theorem qW:((Rows.watchPlayersRow.kinds==(if Rows.watchPlayersRow.domain.isEmpty then [] else Tryz.f6.params.toList.map fun t=>match Tryz.prog.underlying t with|some (.int k)=>some k|_=>none)))=true:=by kernel_rfl
theorem qV:((Rows.watchPlayersRow.pinned==Rows.watchPlayersRow.pinnedBy))=true:=by kernel_rfl
theorem qU:((Rows.watchPlayersRow.veiled==(Tryz.f6.params.toList++Rows.watchPlayersSpec.plain.varTypes ae++Tryz.f6.resultTypes.toList).any (Tryz.prog.veiledRec ·)))=true:=by kernel_rfl
theorem qT:(Rows.watchPlayersRow.veiledFits ae Tryz.f6.params.toList (Tryz.f6.params.toList++Rows.watchPlayersSpec.plain.varTypes ae++Tryz.f6.resultTypes.toList))=true:=by kernel_rfl
theorem oz:joinedFacts ae 6 Tryz.f6 Rows.watchPlayersSpec Rows.watchPlayersRow=true:=by
 unfold joinedFacts;exact dY (dY (dY (dY (dY (dY (dY (dY (dY (dY (dY (dY (dY (dY (dY (dY (dY (dY (dY (dY (dY (dY (dY (dY (dY (dY (dY (dY (dY (dY (dY (tC) Yr) Yq) tA) tx) tw) Yp) tv) Yo) tu) rB) rA) rz) rq) rp) rm) rj) rh) rb) ra) q9) q8) q7) qZ) SZ) SY) qY) qX) qW) qV) qU) qT
theorem pC:Tryz.f6.isInstance ae Rows.watchPlayersRow.origin Rows.watchPlayersRow.targs:=of_decide_eq_true (by kernel_rfl)
theorem pB:Tryz.f6.isWrapper ae Rows.watchPlayersRow.wrapper Rows.watchPlayersRow.mainSum:=by unfold Func.isWrapper;first|(rw[if_pos (by decide +kernel)];kernel_rfl)|(rw[if_neg (by decide +kernel)];exact⟨rfl,rfl⟩)
theorem oQ:Tryz.prog.funcNamed Rows.watchPlayersRow.func=some 6:=by kernel_rfl
theorem uX:(Rows.watchDeathsRow.wf (OpenSpec.ofChange Rows.watchDeathsSpec))=true:=by kernel_rfl
theorem uW:(Tryz.f7.params.all (Tryz.prog.readableRec ·))=true:=by kernel_rfl
theorem uV:(namedTie ae Rows.watchDeathsRow.named Rows.watchDeathsSpec.vars)=true:=by kernel_rfl
theorem uU:((Rows.watchDeathsRow.stops==[]))=true:=by kernel_rfl
theorem uT:((Rows.watchDeathsRow.knobs==[]))=true:=by kernel_rfl
theorem uS:((Rows.watchDeathsRow.inPlace==Tryz.prog.inPlace 7))=true:=by kernel_rfl
theorem tY:((Rows.watchDeathsRow.unfollowed==Tryz.prog.unfollowed 7))=true:=by kernel_rfl
theorem tX:((Rows.watchDeathsRow.recurses==Tryz.prog.recurses 7))=true:=by kernel_rfl
theorem tW:((Rows.watchDeathsRow.named==Tryz.prog.varsNamed 7))=true:=by kernel_rfl
theorem tV:((Rows.watchDeathsRow.maps==(Tryz.f7.params.toList++Rows.watchDeathsSpec.plain.varTypes ae).any (Tryz.prog.mapsRec ·)))=true:=by kernel_rfl
theorem tU:((Rows.watchDeathsRow.ifaces==(Tryz.f7.params.toList++Rows.watchDeathsSpec.plain.varTypes ae).any (Tryz.prog.ifacesRec ·)))=true:=by kernel_rfl
theorem tT:((Rows.watchDeathsRow.mapsOut==Tryz.prog.mapsAmong Tryz.f7.resultTypes.toList))=true:=by kernel_rfl
theorem tS:((Rows.watchDeathsRow.loops==(Tryz.f7.params.toList++Rows.watchDeathsSpec.plain.varTypes ae).any (Tryz.prog.loopsFrom ·)))=true:=by kernel_rfl
theorem tQ:((Rows.watchDeathsRow.wideKeys==(Tryz.f7.params.toList++Rows.watchDeathsSpec.plain.varTypes ae++Tryz.f7.resultTypes.toList).any (Tryz.prog.wideKeysFrom ·)))=true:=by kernel_rfl
theorem tP:(Rows.watchDeathsSpec.vars.all (Tryz.prog.varReadable ·))=true:=by kernel_rfl
theorem tO:(Tryz.f7.resultTypes.all (fun t=>Tryz.prog.readableRec t&&decide (t < Tryz.prog.types.size)))=true:=by kernel_rfl
theorem tN:((Rows.watchDeathsRow.ifacesOut==Tryz.f7.resultTypes.toList.any (Tryz.prog.ifacesRec ·)))=true:=by kernel_rfl
theorem tM:((Rows.watchDeathsRow.loopsOut==Tryz.f7.resultTypes.toList.any (Tryz.prog.loopsFrom ·)))=true:=by kernel_rfl
theorem tL:((Rows.watchDeathsRow.plainKeys==Tryz.prog.plainKeys))=true:=by kernel_rfl
theorem tK:(Rows.watchDeathsRow.shortTexts.isNone)=true:=by kernel_rfl
theorem tJ:((Rows.watchDeathsRow.lifted==Tryz.prog.liftsFinal))=true:=by kernel_rfl
theorem tI:((Tryz.prog.make==some Rows.watchDeathsRow.make))=true:=by kernel_rfl
theorem tH:((Rows.watchDeathsRow.kinds==(if Rows.watchDeathsRow.domain.isEmpty then [] else Tryz.f7.params.toList.map fun t=>match Tryz.prog.underlying t with|some (.int k)=>some k|_=>none)))=true:=by kernel_rfl
theorem tG:((Rows.watchDeathsRow.pinned==Rows.watchDeathsRow.pinnedBy))=true:=by kernel_rfl
theorem tF:((Rows.watchDeathsRow.veiled==(Tryz.f7.params.toList++Rows.watchDeathsSpec.plain.varTypes ae++Tryz.f7.resultTypes.toList).any (Tryz.prog.veiledRec ·)))=true:=by kernel_rfl
theorem tE:(Rows.watchDeathsRow.veiledFits ae Tryz.f7.params.toList (Tryz.f7.params.toList++Rows.watchDeathsSpec.plain.varTypes ae++Tryz.f7.resultTypes.toList))=true:=by kernel_rfl
theorem oS:joinedFacts ae 7 Tryz.f7 Rows.watchDeathsSpec Rows.watchDeathsRow=true:=by
 unfold joinedFacts;exact dY (dY (dY (dY (dY (dY (dY (dY (dY (dY (dY (dY (dY (dY (dY (dY (dY (dY (dY (dY (dY (dY (dY (dY (dY (dY (dY (dY (dY (dY (dY (uX) Yr) Yq) uW) uV) uU) Yp) uT) Yo) uS) tY) tX) tW) tV) tU) tT) tS) tQ) tP) tO) tN) tM) tL) tK) SZ) SY) tJ) tI) tH) tG) tF) tE
theorem rE:Tryz.f7.isInstance ae Rows.watchDeathsRow.origin Rows.watchDeathsRow.targs:=of_decide_eq_true (by kernel_rfl)
theorem rC:Tryz.f7.isWrapper ae Rows.watchDeathsRow.wrapper Rows.watchDeathsRow.mainSum:=by unfold Func.isWrapper;first|(rw[if_pos (by decide +kernel)];kernel_rfl)|(rw[if_neg (by decide +kernel)];exact⟨rfl,rfl⟩)
theorem pD:Tryz.prog.funcNamed Rows.watchDeathsRow.func=some 7:=by kernel_rfl
end Go.Proofs.YtbmdcnkidjlbbaaGreat
end
