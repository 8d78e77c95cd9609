/- Parts of the proof, joined: Evaluation on trees: rows given up; contracts seen otherwise. No program in sight; Chapter 25: what the functions compute, on records. No program in sight; What the reference asks of a state, on records. No program in sight; The program's types, as the evaluation on trees wants them; Evaluation on trees: what a function returns where nobody says it ahead. No program in sight; Evaluation on trees: from the code of a function that writes what is the caller's to its contract. No program in sight; Evaluation on trees: lists in the elements of a row, taken out as rows and put back. No program in sight; Evaluation on trees: steps that need no names, for functions of which only the kind of the result counts. No program in sight; Functions of the reference: they answer for every input (conditions of cards); Functions of the reference: they answer for every input (texts); Functions of the reference: they answer for every input (texts of filters and modifications); Functions of the reference: they answer for every input (abilities, cards, catalogues); Functions of the reference: equality of states; Chapter 25, on trees: copies of the reference; Chapter 25, on trees: Copy of the reference; Chapter 25, on trees: the reference finds, puts, lists; Chapter 25, on trees: the reference's lists; Chapter 25, on trees: Put of the reference. -/
import Derived.Test.YtpibcdnagnjokaaGreatLB
import Derived.Test.YtpibcdnagnjokaaGreatProg
import Derived.Shelf.Abstract
set_option maxRecDepth 100000
set_option maxHeartbeats 4000000
section
namespace Cg
open Go Go.RowKit Go.Sort Go.Lib
section
variable {P:Program} {T:Nat→Option Ty} {O:Gst} {N:Nat} {w0:World}
def memb (n:Nat):List Nat→Bool
 | []=>false
 | m :: r=>bif Nat.beq m n then true else memb n r
def frC (st:St) (ms:List Nat):Ce→Ce
 | .t x=>.t x
 | .nil=>.nil
 | .bot=>.bot
 | .row τ ver=>match lk st.rw τ with
  | some R=>bif Nat.beq R.ver ver&&R.shut then (bif memb τ ms then .row τ ver else .t R.tr) else .bot
  | none=>.bot
def frA (st:St) (ms:List Nat):AV→AV
 | .c x=>.c (frC st ms x)
 | .agg xs=>.agg (xs.map (frC st ms))
 | .ptr b o=>.ptr b o
 | .iptr xs o=>.iptr xs o
 | .eptr _ _ _ _ _=>.bot
 | .sub _ _ _ _=>.bot
 | .nilp=>.nilp
 | .tup _=>.bot
 | .fn f caps=>.fn f caps
 | .fnI f caps=>.fnI f caps
 | .bot=>.bot
def frS (st:St) (ms:List Nat):List (Nat × AV)→List (Nat × AV)
 | []=>[]
 | (t,v) :: r=>(t,frA st ms v) :: frS st ms r
def frB (st:St) (ms:List Nat):List (Nat × List Ce)→List (Nat × List Ce)
 | []=>[]
 | (b,cs) :: r=>(b,cs.map (frC st ms)) :: frB st ms r
def frR (ms:List Nat):List (Nat × Row)→List (Nat × Row)
 | []=>[]
 | (τ,R) :: r=>bif memb τ ms then (τ,R) :: frR ms r else frR ms r
def frz0 (ms:List Nat) (st:St):St:=match st with
 | ⟨sl,bx,rw,nx⟩=>⟨frS ⟨sl,bx,rw,nx⟩ ms sl,frB ⟨sl,bx,rw,nx⟩ ms bx,frR ms rw,nx⟩
def shutN (rw:List (Nat × Row)):List Nat→List Nat
 | []=>[]
 | m :: r=>match lk rw m with
  | some R=>bif R.shut then m :: shutN rw r else shutN rw r
  | none=>m :: shutN rw r
theorem shutN_ok {rw:List (Nat × Row)} {τ:Nat} {R:Row} (hR:lk rw τ=some R):∀ {ms:List Nat},memb τ (shutN rw ms)=true→R.shut=true
 | m :: r,h=>by
  unfold shutN at h
  cases hq:lk rw m with
  | none=>
   rw [hq] at h
   unfold memb at h
   cases hb:Nat.beq m τ with
   | true=>
    rw [Nat.eq_of_beq_eq_true hb,hR] at hq
    cases hq
   | false=>
    simp only [hb,cond_false] at h
    exact shutN_ok hR h
  | some R'=>
   rw [hq] at h
   simp only at h
   cases hs:R'.shut with
   | false=>
    rw [hs] at h
    exact shutN_ok hR h
   | true=>
    rw [hs] at h
    simp only [cond_true] at h
    unfold memb at h
    cases hb:Nat.beq m τ with
    | true=>
     rw [Nat.eq_of_beq_eq_true hb,hR] at hq
     cases hq
     exact hs
    | false=>
     simp only [hb,cond_false] at h
     exact shutN_ok hR h
 | [],h=>by cases h
def frz (ms:List Nat) (st:St):St:=match st with
 | ⟨sl,bx,rw,nx⟩=>frz0 (shutN rw ms) ⟨sl,bx,rw,nx⟩
theorem lk_frS (st:St) (ms:List Nat):∀ (l:List (Nat × AV)) (t:Nat),lk (frS st ms l) t=(lk l t).map (frA st ms)
 | [],t=>rfl
 | (u,v) :: r,t=>by
  rw [frS,lk_cons,lk_cons,lk_frS st ms r t]
  split <;> rfl
theorem lk_frB (st:St) (ms:List Nat):∀ (l:List (Nat × List Ce)) (t:Nat),lk (frB st ms l) t=(lk l t).map (fun cs=>cs.map (frC st ms))
 | [],t=>rfl
 | (u,v) :: r,t=>by
  rw [frB,lk_cons,lk_cons,lk_frB st ms r t]
  split <;> rfl
theorem lk_frR (ms:List Nat):∀ (l:List (Nat × Row)) (t:Nat),lk (frR ms l) t=bif memb t ms then lk l t else none
 | [],t=>by cases memb t ms <;> rfl
 | (u,v) :: r,t=>by
  rw [frR,lk_cons]
  by_cases h:u=t
  ·subst h
   rw [if_pos rfl]
   cases hm:memb u ms
   ·rw [cond_false,lk_frR ms r u,hm]
    rfl
   ·rw [cond_true,lk_cons,if_pos rfl]
    rfl
  ·rw [if_neg h,← lk_frR ms r t]
   cases memb u ms
   ·rfl
   ·rw [cond_true,lk_cons,if_neg h]
theorem lk_self (ms:List Nat) (n:Nat):lk (ms.map fun m=>(m,m)) n=bif memb n ms then some n else none:=by
 induction ms with
 | nil=>rfl
 | cons m ms ih=>
  rw [List.map_cons,lk_cons,ih]
  show _=bif (bif Nat.beq m n then true else memb n ms) then some n else none
  by_cases h:m=n
  ·subst h
   rw [if_pos rfl,show Nat.beq m m=true by simp]
   rfl
  ·rw [if_neg h,show Nat.beq m n=false by
    cases hb:Nat.beq m n
    ·rfl
    ·exact absurd (Nat.eq_of_beq_eq_true hb) h]
   rfl
theorem sw_self (ms:List Nat):sw (ms.map fun m=>(m,m))=ms.map fun m=>(m,m):=by
 unfold sw
 rw [List.map_map]
 rfl
theorem memb_mem {n:Nat}:∀ {ms:List Nat},n∈ms→memb n ms=true
 | m :: r,h=>by
  unfold memb
  rcases List.mem_cons.1 h with rfl|h
  ·rw [show Nat.beq n n=true by simp];rfl
  ·cases Nat.beq m n
   ·exact memb_mem h
   ·rfl
theorem mOk_self (ms:List Nat):mOk (ms.map fun m=>(m,m))=true:=by
 unfold mOk
 rw [List.all_eq_true]
 intro p hp
 obtain ⟨m,hm,rfl⟩:=List.mem_map.1 hp
 rw [sw_self]
 simp only [lk_self,memb_mem hm,cond_true]
 simp
theorem frC_ceM (st:St) (ms:List Nat) (_hsh:∀ τ R,memb τ ms=true→lk st.rw τ=some R→R.shut=true) (c:Ce):CeM st (ms.map fun m=>(m,m)) (frR ms st.rw) c (frC st ms c):=by
 cases c with
 | t x=>exact rfl
 | nil=>exact trivial
 | bot=>exact trivial
 | row τ ver=>
  unfold frC
  simp only
  cases hq:lk st.rw τ with
  | none=>exact trivial
  | some R=>
   simp only
   cases hb:Nat.beq R.ver ver&&R.shut with
   | false=>exact trivial
   | true=>
    rw [Bool.and_eq_true] at hb
    have hv:=Nat.eq_of_beq_eq_true hb.1
    simp only [cond_true]
    cases hm:memb τ ms with
    | true=>
     simp only [cond_true]
     unfold CeM
     simp only [lk_frR,lk_self,hm,cond_true,hq]
     exact ⟨hv,trivial,hv⟩
    | false=>
     simp only [cond_false]
     unfold CeM
     simp only [hq,sw_self,lk_self,hm,cond_false]
     refine ⟨hv,trivial,?_⟩
     rw [hb.2]
     exact trivial
theorem frC_cesM (st:St) (ms:List Nat) (hsh:∀ τ R,memb τ ms=true→lk st.rw τ=some R→R.shut=true):∀ cs:List Ce,CesM st (ms.map fun m=>(m,m)) (frR ms st.rw) cs (cs.map (frC st ms))
 | []=>trivial
 | c :: cs=>⟨frC_ceM st ms hsh c,frC_cesM st ms hsh cs⟩
theorem Wk.frz0 (ms:List Nat) (st:St) (hsh:∀ τ R,memb τ ms=true→lk st.rw τ=some R→R.shut=true):Wk st (frz0 ms st):=by
 intro O _ E w n0 N a r
 obtain ⟨sl,bx,rw',nx⟩:=st
 have hasB:∀ b cs,lk bx b=some cs→hasK (frB ⟨sl,bx,rw',nx⟩ ms bx) b=true:=fun b cs h=>by
  unfold hasK
  rw [lk_frB,h]
  rfl
 have get:∀ t,(Cg.frz0 ms ⟨sl,bx,rw',nx⟩).get t=.bot∨AvM ⟨sl,bx,rw',nx⟩ (ms.map fun m=>(m,m)) (frR ms rw') (frB ⟨sl,bx,rw',nx⟩ ms bx) (St.get ⟨sl,bx,rw',nx⟩ t) ((Cg.frz0 ms ⟨sl,bx,rw',nx⟩).get t):=fun t=>by
  have hs:=r.sc.sb t
  show (match lk (frS ⟨sl,bx,rw',nx⟩ ms sl) t with|some v=>v|none=>.bot)=.bot∨AvM _ _ _ _ _ (match lk (frS ⟨sl,bx,rw',nx⟩ ms sl) t with|some v=>v|none=>.bot)
  rw [lk_frS]
  have hs:∀ b∈(match lk sl t with|some v=>v|none=>AV.bot).bids,St.hasB ⟨sl,bx,rw',nx⟩ b:=hs
  cases hq:lk sl t with
  | none=>exact .inl rfl
  | some v=>
   rw [hq] at hs
   have hg:St.get ⟨sl,bx,rw',nx⟩ t=v:=by
    show (match lk sl t with|some v=>v|none=>.bot)=v
    rw [hq]
   rw [hg]
   show frA _ ms v=.bot∨AvM _ _ _ _ v (frA _ ms v)
   cases v with
   | c x=>exact .inr (frC_ceM _ ms hsh x)
   | agg xs=>exact .inr (frC_cesM _ ms hsh xs)
   | ptr b o=>
    obtain ⟨cs,hcs⟩:=hs b List.mem_cons_self
    exact .inr ⟨rfl,rfl,hasB b cs hcs⟩
   | iptr xs o=>exact .inr ⟨rfl,rfl⟩
   | eptr _ _ _ _ _=>exact .inl rfl
   | sub _ _ _ _=>exact .inl rfl
   | nilp=>exact .inr trivial
   | tup _=>exact .inl rfl
   | fn f caps=>
    refine .inr ⟨rfl,rfl,List.all_eq_true.2 fun p hp=>?_⟩
    obtain ⟨cs,hcs⟩:=hs p.1 (List.mem_map.2 ⟨p,hp,rfl⟩)
    exact hasB p.1 cs hcs
   | fnI f caps=>exact .inr ⟨rfl,rfl⟩
   | bot=>exact .inl rfl
 have rowl:∀ τ' R',lk (frR ms rw') τ'=some R'→(∃ τ R,lk (ms.map fun m=>(m,m)) τ'=some τ∧lk rw' τ=some R∧R.ty=R'.ty∧R.k=R'.k∧R.xs=R'.xs∧R.dp=R'.dp∧R.shut=true)∨(lk (ms.map fun m=>(m,m)) τ'=none∧R'.xs=[]∧R'.shut=true):=fun τ' R' h=>by
  rw [lk_frR] at h
  cases hm:memb τ' ms with
  | true=>
   rw [hm] at h
   exact .inl ⟨τ',R',by rw [lk_self,hm];rfl,h,rfl,rfl,rfl,rfl,hsh τ' R' hm h⟩
  | false=>
   rw [hm] at h
   cases h
 refine ⟨E.ma ⟨sl,bx,rw',nx⟩ (ms.map fun m=>(m,m)),⟨r.dfr,r.sz,fun t=>?_,fun i cs' hi=>?_,fun τ' R' hR=>row_ma r (mOk_self ms) (rowl τ' R' hR),⟨fun t b hb=>?_,fun t p hp=>?_,fun b cs hcs p hp=>?_,fun b cs hcs=>?_,fun τ R hR=>?_,fun τ R d hR hd l hl=>?_⟩,r.hi,fun b hb=>?_,fun b x hx=>?_,fun j V hj=>(by rw [OFree.v] at hj;cases hj),fun j V hj=>(by rw [OFree.b] at hj;cases hj),r.sn⟩⟩
 ·rcases get t with h|h
  ·rw [h];exact trivial
  ·exact (avM_r1 r h (r.slt t)).rv
 ·have hi:lk (frB ⟨sl,bx,rw',nx⟩ ms bx) i=some cs':=hi
  rw [lk_frB] at hi
  cases hq:lk bx i with
  | none=>rw [hq] at hi;cases hi
  | some cs=>
   rw [hq] at hi
   cases hi
   obtain ⟨vs,t,g1,g2,g3,g4⟩:=r.box i cs hq
   refine ⟨vs,t,g1,g2,?_,cesM_a2 (rw':=frR ms rw') r (frC_cesM _ ms hsh cs) g4⟩
   unfold Env.ma
   simp only [g3]
 ·rcases get t with h|h
  ·rw [h] at hb;cases hb
  ·exact (avM_nm h).1 b hb
 ·rcases get t with h|h
  ·rw [h] at hp;cases hp
  ·obtain ⟨R,h1,h2⟩:=(avM_nm h).2 p hp
   exact ⟨R,h1,Nat.le_of_eq h2.symm⟩
 ·have hcs:lk (frB ⟨sl,bx,rw',nx⟩ ms bx) b=some cs:=hcs
  rw [lk_frB] at hcs
  cases hq:lk bx b with
  | none=>rw [hq] at hcs;cases hcs
  | some cs0=>
   rw [hq] at hcs
   cases hcs
   obtain ⟨R,h3,h4⟩:=cesM_nm (frC_cesM ⟨sl,bx,rw',nx⟩ ms hsh cs0) p hp
   exact ⟨R,h3,Nat.le_of_eq h4.symm⟩
 ·have hcs:lk (frB ⟨sl,bx,rw',nx⟩ ms bx) b=some cs:=hcs
  rw [lk_frB] at hcs
  cases hq:lk bx b with
  | none=>rw [hq] at hcs;cases hcs
  | some cs0=>exact r.sc.fb b cs0 hq
 ·have hR:lk (frR ms rw') τ=some R:=hR
  rw [lk_frR] at hR
  cases hm:memb τ ms with
  | true=>rw [hm] at hR;exact r.sc.fr τ R hR
  | false=>rw [hm] at hR;cases hR
 ·have hR:lk (frR ms rw') τ=some R:=hR
  rw [lk_frR] at hR
  cases hm:memb τ ms with
  | true=>
   rw [hm] at hR
   rw [shut_ln (hsh τ R hm hR) hd] at hl
   cases hl
  | false=>rw [hm] at hR;cases hR
 ·rcases r.old b hb with ⟨h1,h2⟩|h1
  ·exact .inl ⟨ma_cold b h1,h2⟩
  ·exact .inr (ma_non b h1)
 ·obtain ⟨h1,h2⟩:=r.gh b x hx
  exact ⟨h1,h2.elim (fun h=>.inl ⟨ma_cold b h.1,h.2⟩) (fun h=>.inr ⟨ma_non b h.1,h.2⟩)⟩
theorem Wk.frz (ms:List Nat) (st:St):Wk st (Cg.frz ms st):=by
 obtain ⟨sl,bx,rw',nx⟩:=st
 exact Wk.frz0 _ _ fun τ R h hR=>shutN_ok hR h
theorem Tp.frz [OFree O] (ms:List Nat) {c:Code} {st:St} {Q:Ex→St→Prop} (h:Tp P T N w0 O c (Cg.frz ms st) Q):Tp P T N w0 O c st Q:=Tp.wk (Wk.frz ms st) h
def litA:AV→Bool
 | .c (.t (.lit _))=>true
 | .nilp=>true
 | .tup ars=>ars.all fun a=>match a with
  | .c (.t (.lit _))=>true
  | _=>false
 | _=>false
def litC:Ce→Bool
 | .t (.lit _)=>true
 | _=>false
def litB:AV→Bool
 | .c x=>litC x
 | .agg xs=>xs.all litC
 | .nilp=>true
 | _=>false
def litT:AV→Bool
 | .tup ars=>ars.all litB
 | a=>litB a
theorem Ct.lit {f:FuncId} {ars:List AV} {r:AV} {b:Bool} (h:Ct P f ars r [] b) (hl:litA r=true):Ct P f ars r [] true:=by
 refine ⟨h.ent,h.few,h.shut,h.plain,h.nob,h.rid,fun w vs E0 ha=>(h.run w vs E0 ha).mono ?_⟩
 rintro e w' ⟨v,rfl,hb,E,hr,_,_⟩
 refine ⟨v,rfl,hb,⟨fun _=>.non,fun _=>0,fun _ _=>undef⟩,?_,fun j R hj=>by simp at hj,fun b _ hc=>by cases hc⟩
 have one:∀ {u:Value} {x:Value} {E':Env},RT E.F w' u (.lit x)→RT E'.F w' u (.lit x):=fun h=>by
  cases h with
  | lit h=>exact .lit h
 cases r with
 | c x=>
  cases x with
  | t y=>
   cases y with
   | lit x=>exact one hr
   | sl _ _=>cases hl
   | mp _=>cases hl
  | _=>cases hl
 | nilp=>exact hr
 | tup ars=>
  obtain ⟨us,rfl,ha⟩:=hr
  refine ⟨us,rfl,?_⟩
  have:∀ {us:List Value} {ars:List AV},(ars.all fun a=>match a with
   | .c (.t (.lit _))=>true
   | _=>false)=true→A2 (R1 E w') us ars→A2 (R1 ⟨fun _=>.non,fun _=>0,fun _ _=>undef⟩ w') us ars:=fun {us ars} hl h=>by
   induction h with
   | nil=>exact .nil
   | @cons u a us ars h1 _ ih=>
    rw [List.all_cons,Bool.and_eq_true] at hl
    refine .cons ?_ (ih hl.2)
    have hl:=hl.1
    split at hl
    ·exact one h1
    ·cases hl
  exact this hl ha
 | _=>cases hl
theorem litC_rc {E E':Env} {w:World} {u:Value} {x:Ce} (hl:litC x=true) (h:RC E w u x):RC E' w u x:=by
 cases x with
 | t y=>
  cases y with
  | lit x=>
   have h1:RT E.F w u (.lit x):=h
   cases h1 with
   | lit h2=>exact RT.lit h2
  | sl _ _=>cases hl
  | mp _=>cases hl
 | _=>cases hl
theorem litC_a2 {E E':Env} {w:World}:∀ {us:List Value} {xs:List Ce},xs.all litC=true→A2 (RC E w) us xs→A2 (RC E' w) us xs
 | _,_,_,.nil=>.nil
 | _,_,hl,.cons h1 h2=>by
  rw [List.all_cons,Bool.and_eq_true] at hl
  exact .cons (litC_rc hl.1 h1) (litC_a2 hl.2 h2)
theorem litB_r1 {E E':Env} {w:World} {u:Value} {a:AV} (hl:litB a=true) (h:R1 E w u a):R1 E' w u a:=by
 cases a with
 | c x=>exact litC_rc hl h
 | agg xs=>
  obtain ⟨vs,rfl,ha⟩:=h
  exact ⟨vs,rfl,litC_a2 hl ha⟩
 | nilp=>exact h
 | _=>cases hl
theorem litB_a2 {E E':Env} {w:World}:∀ {us:List Value} {xs:List AV},xs.all litB=true→A2 (R1 E w) us xs→A2 (R1 E' w) us xs
 | _,_,_,.nil=>.nil
 | _,_,hl,.cons h1 h2=>by
  rw [List.all_cons,Bool.and_eq_true] at hl
  exact .cons (litB_r1 hl.1 h1) (litB_a2 hl.2 h2)
theorem Ct.litT {f:FuncId} {ars:List AV} {r:AV} {b:Bool} (h:Ct P f ars r [] b) (hl:Cg.litT r=true):Ct P f ars r [] true:=by
 refine ⟨h.ent,h.few,h.shut,h.plain,h.nob,h.rid,fun w vs E0 ha=>(h.run w vs E0 ha).mono ?_⟩
 rintro e w' ⟨v,rfl,hb,E,hr,_,_⟩
 refine ⟨v,rfl,hb,⟨fun _=>.non,fun _=>0,fun _ _=>undef⟩,?_,fun j R hj=>by simp at hj,fun b _ hc=>by cases hc⟩
 cases r with
 | tup ars=>
  obtain ⟨us,rfl,ha⟩:=hr
  exact ⟨us,rfl,litB_a2 hl ha⟩
 | c x=>exact (litB_r1 (a:=.c x) hl hr).rv
 | agg x=>exact (litB_r1 (a:=.agg x) hl hr).rv
 | nilp=>exact hr
 | _=>cases hl
theorem cI {f:FuncId} {ars:List AV} {r:AV} {rs:List Row} {fresh:Bool} {A:List AV→Prop} {B:Bool→Prop} {K:AV→List Row→Prop} {X:Prop} (ct:Ct P f ars r rs fresh) (h1:A ars) (h2:B fresh) (h3:K r rs):(∃ ars r rs fresh,A ars∧Ct P f ars r rs fresh∧B fresh∧K r rs)∨X:=.inl ⟨ars,r,rs,fresh,h1,ct,h2,h3⟩
theorem cM {f:FuncId} {ars:List AV} {ib:List (List Ce)} {ir:List Row} {rv:AV} {ob:List (List Ce)} {orr nr:List Row} {A:List Nat→List (Nat × Nat)→List AV→List (List Ce)→List Row→Prop} {B:List Nat→List (Nat × Nat)→Prop} {K:List Nat→List (Nat × Nat)→AV→List (List Ce)→List Row→List Row→Prop} {X:Prop} (mb:List Nat) (mr:List (Nat × Nat)) (ct:CtM P f ars ib ir rv ob orr nr) (h1:A mb mr ars ib ir) (h2:B mb mr) (h3:K mb mr rv ob orr nr):X∨∃ mb mr ars ib ir rv ob orr nr,A mb mr ars ib ir∧B mb mr∧CtM P f ars ib ir rv ob orr nr∧K mb mr rv ob orr nr:=.inr ⟨mb,mr,ars,ib,ir,rv,ob,orr,nr,h1,h2,ct,h3⟩
theorem fL {st:St}:∀ (ts:List Tr),FitL st (ts.map .t) (ts.map .t)
 | []=>trivial
 | _ :: ts=>⟨rfl,fL ts⟩
theorem take_bound {α β:Type} (l:List α) (f:α→β) (k:Nat) (hk:k < l.length) (x:β) (by_:Nat) (_hb:by_≤3072) (h:l.length*by_≤limB):(((l.take k).map f).length+[x].length)*by_≤140737488355328:=by
 rw [Lm,List.length_take,Nat.min_eq_left (by omega)]
 have:(k+1)*by_≤l.length*by_:=Nat.mul_le_mul_right _ hk
 unfold limB at h
 show (k+1)*by_≤_
 omega
theorem take_bound2 {α β:Type} (l:List α) (f:α→β) (k:Nat) (hk:k < l.length) (x:β) (by_:Nat) (hb:0 < by_) (h:l.length*by_≤limB):((l.take k).map f).length+[x].length < 140737488355328:=by
 rw [Lm,List.length_take,Nat.min_eq_left (by omega)]
 have:l.length*1≤l.length*by_:=Nat.mul_le_mul_left _ hb
 unfold limB at h
 show k+1 < _
 omega
theorem all_bound {α:Type} (ys:List α) (by_:Nat) (h:ys.length*by_≤limB):(([]:List α).length+ys.length)*by_≤140737488355328:=by
 unfold limB at h
 simp only [List.length_nil,Nat.zero_add]
 omega
theorem all_bound2 {α:Type} (ys:List α) (by_:Nat) (hb:0 < by_) (h:ys.length*by_≤limB):([]:List α).length+ys.length < 140737488355328:=by
 have:ys.length*1≤ys.length*by_:=Nat.mul_le_mul_left _ hb
 unfold limB at h
 simp only [List.length_nil,Nat.zero_add]
 omega
theorem map_bound {α β:Type} (f:α→β) (ys:List α) (by_:Nat) (h:ys.length*by_≤limB):(ys.map f).length*by_≤limB:=by rw [Lm];exact h
theorem take_succ_map {α β:Type} (l:List α) (f:α→β) (k:Nat) (hk:k < l.length):(l.take k).map f++[f l[k]]=(l.take (k+1)).map f:=by
 rw [List.take_add_one,List.getElem?_eq_getElem hk,List.map_append]
 rfl
theorem map_get {α β:Type} (l:List α) (f:α→β) (k:Nat) (hk:k < l.length):(l.map f)[k]? = some (f l[k]):=by rw [List.getElem?_map,List.getElem?_eq_getElem hk];rfl
theorem len_lt {α β:Type} {l:List α} {f:α→β} {k:Nat} (h:decide ((k:Int) < (((l.map f).length:Nat):Int))=true):k < l.length:=by
 have:=of_decide_eq_true h
 rw [Lm] at this
 omega
theorem len_ge {α β:Type} {l:List α} {f:α→β} {k:Nat} (h:decide ((k:Int) < (((l.map f).length:Nat):Int))=false) (hk:k≤l.length):k=l.length:=by
 have:=of_decide_eq_false h
 rw [Lm] at this
 omega
theorem succ_eq (k:Nat) {α:Type} {l:List α} (hk:k < l.length) (b:Nat) (hb:0 < b) (h:l.length*b≤limB):iv (IntKind.i64.wrap ((k:Int)+1))=iv ((k+1:Nat):Int):=by
 have:l.length*1≤l.length*b:=Nat.mul_le_mul_left _ hb
 unfold limB at h
 rw [wrap_succ k (by omega)]
theorem take_all {α:Type} (l:List α) (f:α→List Tr) (k:Nat):Tr.sl k (l.map f)=Tr.sl k ((l.take l.length).map f):=by rw [List.take_length]
end
end Cg
end
section
namespace Cg
open Go
def zeroObj:GObject:=⟨0,0,0,0,0,false,false,false,false,0,0,0,0,0,0,0,false,0,0⟩
def placeM (l:List GObject) (id:Int):Int:=fidx (fun o:GObject=>o.id==id) l
def findM (l:List GObject) (id:Int):GObject:=(l.find? fun o=>o.id==id).getD zeroObj
def hasM (l:List GObject) (id:Int):Bool:=(l.find? fun o=>o.id==id).isSome
def insM (l:List GObject) (o:GObject):List GObject:=l.take (l.takeWhile fun x=>decide (x.id < o.id)).length++[o]++l.drop (l.takeWhile fun x=>decide (x.id < o.id)).length
def putL (l:List GObject) (o:GObject):List GObject:=match l.findIdx? fun x=>x.id==o.id with
 | some i=>l.set i o
 | none=>insM l o
def putM (s:GState) (o:GObject):GState:={ s with objects:=putL s.objects o }
def listM (s:GState) (z p:Int):List Int:=
 if z==0 then s.battlefield else if z==4 then s.exile else if p < 0∨(s.players.length:Int)≤p then [] else match s.players[p.toNat]? with
  | some q=>if z==1 then q.hand else if z==2 then q.library else if z==3 then q.graveyard else []
  | none=>[]
def setP (q:GPlayer) (z:Int) (l:List Int):GPlayer:=if z==1 then { q with hand:=l } else if z==2 then { q with library:=l } else if z==3 then { q with graveyard:=l } else q
def setM (s:GState) (z p:Int) (l:List Int):GState:=
 if z==0 then { s with battlefield:=l } else if z==4 then { s with exile:=l } else if p < 0∨(s.players.length:Int)≤p then s else match s.players[p.toNat]? with
  | some q=>{ s with players:=s.players.set p.toNat (setP q z l) }
  | none=>s
def newM (id card player z stamp:Int):GObject:={ zeroObj with id:=id,card:=card,owner:=player,control:=player,zone:=z,stamp:=stamp,copy:=-1,attack:=-1 }
theorem fidx_cases {α:Type} (p:α→Bool) (l:List α):(fidx p l = -1∧l.findIdx? p=none∧l.find? p=none)∨∃ (i:Nat) (h:i < l.length),fidx p l=i∧l.findIdx? p=some i∧l.find? p=some l[i]:=by
 unfold fidx
 cases hq:l.findIdx? p with
 | none=>exact .inl ⟨rfl,rfl,by
   rw [List.find?_eq_none]
   rw [List.findIdx?_eq_none_iff] at hq
   intro x hx
   simp [hq x hx]⟩
 | some i=>
  have h1:=List.findIdx?_eq_some_iff_getElem.1 hq
  obtain ⟨h2,h3,h4⟩:=h1
  refine .inr ⟨i,h2,rfl,rfl,?_⟩
  rw [List.find?_eq_some_iff_getElem]
  exact ⟨h3,i,h2,rfl,fun j hj=>by simpa using h4 j hj⟩
theorem takeWhile_len {α:Type} (p:α→Bool):∀ (l:List α) (k:Nat),k≤l.length→(∀ j (h:j < l.length),j < k→p l[j]=true)→(k=l.length∨∃ h:k < l.length,p l[k]=false)→(l.takeWhile p).length=k
 | [],k,hk,_,_=>by
  have:k=0:=by simpa using hk
  rw [this]
  rfl
 | x :: l,0,_,_,hk=>by
  rcases hk with hk|⟨h,hk⟩
  ·simp at hk
  ·have:p x=false:=hk
   rw [List.takeWhile_cons_of_neg (by simp [this])]
   rfl
 | x :: l,k+1,hk,h,hn=>by
  have hx:p x=true:=h 0 (by simp) (by omega)
  rw [List.takeWhile_cons_of_pos hx,List.length_cons,takeWhile_len p l k (by simpa using hk) (fun j hj hjk=>h (j+1) (by simp;omega) (by omega)) ?_]
  rcases hn with hn|⟨h2,hn⟩
  ·left
   simpa using hn
  ·right
   exact ⟨by simpa using h2,hn⟩
theorem app_bnd {rxs ys:List (List Tr)} {n b:Nat} (h:rxs.length+ys.length≤n) (hb:n*b≤140737488355328):(rxs.length+ys.length)*b≤140737488355328:=Nat.le_trans (Nat.mul_le_mul_right _ h) hb
theorem app_bnd2 {rxs ys:List (List Tr)} {n b:Nat} (h:rxs.length+ys.length≤n) (h0:0 < b) (hb:n*b < 140737488355328):rxs.length+ys.length < 140737488355328:=by
 have:n*1≤n*b:=Nat.mul_le_mul_left _ h0
 omega
theorem one_more {n b:Nat} (hb:b≤3000) (h:n*b≤limB):(n+1)*b < 140737488355328:=by
 unfold limB at h
 rw [Nat.add_mul]
 omega
section
def inM (n a b:Int):Bool:=decide (n≥a)&&decide (n≤b)
def allI {α:Type} (p:Nat→α→Bool):Nat→List α→Bool
 | _,[]=>true
 | k,x :: r=>p k x&&allI p (k+1) r
theorem allI_iff {α:Type} {p:Nat→α→Bool}:∀ {k:Nat} {l:List α},allI p k l=true↔∀ j (h:j < l.length),p (k+j) l[j]=true
 | k,[]=>⟨fun _ j h=>by simp at h,fun _=>rfl⟩
 | k,x :: r=>by
  rw [allI,Bool.and_eq_true,allI_iff]
  refine ⟨fun ⟨h1,h2⟩ j h=>?_,fun h=>⟨h 0 (by simp),fun j hj=>?_⟩⟩
  ·cases j with
   | zero=>exact h1
   | succ j=>have:=h2 j (by simpa using h);rwa [show k+1+j=k+(j+1) by omega] at this
  ·have:=h (j+1) (by simpa using hj)
   rwa [show k+1+j=k+(j+1) by omega]
def timesM (l:List Int) (n:Int):Int:=((l.count n:Nat):Int)
def listOk (s:GState) (z w:Int) (l:List Int):Bool:=l.all fun id=>hasM s.objects id&&((findM s.objects id).zone==z&&((!decide (w≥0)||(findM s.objects id).owner==w)&&timesM l id==1))
def wholeM (a b c d e f:Int):Bool:=(!decide (a < 0)&&!decide (a > 1000000))&&((!decide (b < 0)&&!decide (b > 1000000))&&((!decide (c < 0)&&!decide (c > 1000000))&&((!decide (d < 0)&&!decide (d > 1000000))&&((!decide (e < 0)&&!decide (e > 1000000))&&(!decide (f < 0)&&!decide (f > 1000000))))))
def plyOk (s:GState) (i:Nat) (p:GPlayer):Bool:=inM p.life (-1000000) 1000000&&(inM p.venom 0 1000000&&(inM p.lands 0 1000000&&(wholeM p.pool0 p.pool1 p.pool2 p.pool3 p.pool4 p.pool5&&(listOk s 2 i p.library&&(listOk s 1 i p.hand&&listOk s 3 i p.graveyard)))))
def playersOk (s:GState):Bool:=inM s.players.length 2 4&&(allI (plyOk s) 0 s.players&&(listOk s 0 (-1) s.battlefield&&listOk s 4 (-1) s.exile))
def spellsM (s:GState) (id:Int):Int:=((s.stack.countP (fun x=>x.kind==1&&x.id==id):Nat):Int)
def placedOk (s:GState) (o:GObject):Bool:=if o.zone==5 then spellsM s o.id==1 else timesM (listM s o.zone o.owner) o.id==1
def calmM (o:GObject):GObject:={ o with attack:=-1,blocked:=false,blocks:=0 }
def endedM (o:GObject):GObject:={ o with damage:=0,deadly:=false,shield:=0 }
def cntOk (a b c:Int):Bool:=(!decide (a < 0)&&!decide (a > 1000000))&&((!decide (b < 0)&&!decide (b > 1000000))&&(!decide (c < 0)&&!decide (c > 1000000)))
def restOk (o:GObject):Bool:=o.attack==-1&&(!o.blocked&&(o.blocks==0&&(o.damage==0&&(!o.deadly&&(o.shield==0&&(!o.tapped&&(!o.sick&&(o.counters0==0&&(o.counters1==0&&o.counters2==0)))))))))
def objOk (o:GObject) (cards players:Int):Bool:=
 (!decide (o.id < 1)&&(!decide (o.card < 0)&&(!decide (o.card≥cards)&&(!decide (o.owner < 0)&&(!decide (o.owner≥players)&&(!decide (o.control < 0)&&(!decide (o.control≥players)&&(!decide (o.zone < 0)&&!decide (o.zone > 5))))))))) &&
 ((!decide (o.damage < 0)&&(!decide (o.damage > 1000000)&&(!decide (o.stamp < 0)&&(!decide (o.stamp > 1000000)&&(!decide (o.blocks < 0)&&(!decide (o.blocks > 1000000)&&(!decide (o.shield < 0)&&!decide (o.shield > 1000000)))))))) &&
 ((cntOk o.counters0 o.counters1 o.counters2&&(!decide (o.copy < -1)&&(!decide (o.copy≥cards)&&(!decide (o.attack < -1)&&!decide (o.attack≥players)))))&&(o.zone==0||restOk o)))
def objAt (cards:Int) (s:GState) (i:Nat) (o:GObject):Bool:=objOk o cards s.players.length&&(!decide (o.id≥s.nextId)&&(!decide (o.stamp≥s.nextStamp)&&((!decide ((i:Int) > 0)||!decide ((s.objects.getD (i - 1) zeroObj).id≥o.id))&&placedOk s o)))
def objsOk (cards:Int) (s:GState):Bool:=!decide ((s.objects.length:Int) > 2048)&&allI (objAt cards s) 0 s.objects
def plM (s:GState) (p:Int):Bool:=inM p 0 ((s.players.length:Int) - 1)
structure Opq where
 ab:GAbility→Bool
 zero:GAbility→Bool
 set:List Int→Bool
 txt:List GMod→ByteArray
def itemOk (q:Opq) (s:GState) (x:GItem):Bool:=
 (inM x.id 1 (s.nextId - 1)&&(inM x.x 0 1000000&&(!decide ((x.targets.length:Int) > 4)&&plM s x.control))) &&
 (if x.kind==1 then x.source==x.id&&(hasM s.objects x.id&&((findM s.objects x.id).zone==5&&(q.zero x.ability||q.ab x.ability))) else x.kind==2&&(!hasM s.objects x.id&&q.ab x.ability))
def itemAt (q:Opq) (s:GState) (i:Nat) (x:GItem):Bool:=itemOk q s x&&(s.stack.take i).all fun y=>!(y.id==x.id)
def waitOk (q:Opq) (s:GState) (w:GWaiting):Bool:=plM s w.control&&(w.ability.kind==4&&q.ab w.ability)
def contOk (q:Opq) (s:GState) (c:GCont):Bool:=plM s c.control&&(!decide (c.stamp≥s.nextStamp)&&(inM c.until_ 1 2&&(q.set c.objects&&!((q.txt c.mods).toList==(⟨#[]⟩:ByteArray).toList))))
def stackOk (q:Opq) (s:GState):Bool:=(!decide ((s.stack.length:Int) > 64)&&(!decide ((s.waiting.length:Int) > 64)&&!decide ((s.conts.length:Int) > 64)))&&(allI (itemAt q s) 0 s.stack&&(s.waiting.all (waitOk q s)&&s.conts.all (contOk q s)))
def isA (s:GState):Bool:=inM s.nextId 1 1000000&&(inM s.nextStamp 1 1000000&&(inM s.turn 0 500&&(inM s.step 0 10&&!decide ((s.objects.length:Int) > 2048))))
def isB (s:GState):Bool:=playersOk s&&(plM s s.active&&(plM s s.priority&&(inM s.passes 0 s.players.length&&(!decide ((s.extra.length:Int) > 500)&&inM s.over 0 2))))
def isW (s:GState):Bool:=if s.over==1 then plM s s.winner else s.winner==-1
def isM (q:Opq) (cards:Int) (s:GState):Bool:=isA s&&(isB s&&(s.extra.all (plM s)&&(isW s&&(objsOk cards s&&stackOk q s))))
theorem take_up {α:Type} {l:List α} {i:Int} (h0:0≤i) (hl:i.toNat < l.length):l.take (i+1).toNat=l.take i.toNat++[l[i.toNat]]:=by
 rw [show (i+1).toNat=i.toNat+1 by omega,List.take_append_getElem hl]
theorem cnt_hit {l:List Int} {i n:Int} (h0:0≤i) (hl:i.toNat < l.length) (h:l[i.toNat]=n):((((l.take (i+1).toNat).count n:Nat)):Int)=((l.take i.toNat).count n:Nat)+1:=by
 rw [take_up h0 hl,List.count_append,h]
 simp
theorem cnt_miss {l:List Int} {i n:Int} (h0:0≤i) (hl:i.toNat < l.length) (h:¬ l[i.toNat]=n):((((l.take (i+1).toNat).count n:Nat)):Int)=((l.take i.toNat).count n:Nat):=by
 rw [take_up h0 hl,List.count_append]
 simp [h]
theorem cntP_up {α:Type} {l:List α} {p:α→Bool} {i:Int} (h0:0≤i) (hl:i.toNat < l.length):((((l.take (i+1).toNat).countP p:Nat)):Int)=((l.take i.toNat).countP p:Nat)+(if p l[i.toNat] then 1 else 0):=by
 rw [take_up h0 hl,List.countP_append]
 by_cases h:p l[i.toNat]
 ·simp [h]
 ·simp [h]
theorem take_whole {α:Type} {l:List α} {i:Int} (h1:¬ i < (l.length:Int)):l.take i.toNat=l:=List.take_of_length_le (by omega)
def Up {α:Type} (p:Nat→α→Bool) (l:List α) (i:Int):Prop:=∀ j (h:j < l.length),(j:Int) < i→p j l[j]=true
theorem Up.zero {α:Type} {p:Nat→α→Bool} {l:List α}:Up p l 0:=fun j h hj=>by omega
theorem Up.step {α:Type} {p:Nat→α→Bool} {l:List α} {i:Int} (h0:0≤i) (h:Up p l i) (hl:i.toNat < l.length) (hp:p i.toNat l[i.toNat]=true):Up p l (i+1):=fun j hj hji=>by
 by_cases e:j=i.toNat
 ·subst e;exact hp
 ·exact h j hj (by omega)
theorem Up.all {α:Type} {p:Nat→α→Bool} {l:List α} {i:Int} (h:Up p l i) (h1:¬ i < (l.length:Int)):allI p 0 l=true:=allI_iff.2 fun j hj=>by rw [Nat.zero_add];exact h j hj (by omega)
theorem Up.all' {α:Type} {p:α→Bool} {l:List α} {i:Int} (h:Up (fun _=>p) l i) (h1:¬ i < (l.length:Int)):l.all p=true:=List.all_eq_true.2 fun x hx=>by
 obtain ⟨j,hj,rfl⟩:=List.mem_iff_getElem.1 hx
 exact h j hj (by omega)
theorem all_no {α:Type} {p:α→Bool} {l:List α} {i:Nat} (hl:i < l.length) (hp:p l[i]=false):l.all p=false:=by
 rw [← Bool.not_eq_true,List.all_eq_true]
 intro h
 rw [h _ (List.getElem_mem hl)] at hp
 cases hp
theorem allI_no {α:Type} {p:Nat→α→Bool} {l:List α} {i:Nat} (hl:i < l.length) (hp:p i l[i]=false):allI p 0 l=false:=by
 rw [← Bool.not_eq_true,allI_iff]
 intro h
 have:=h i hl
 rw [Nat.zero_add,hp] at this
 cases this
theorem times_up1 {a:List Int} {b i p:Int} (h0:0≤i) (hle:i≤(((a.map eI).length:Nat):Int)) (hb:a.length*8≤limB) (hp:p=((a.take i.toNat).count b:Nat)∧p≤i) (hl:i.toNat < a.length) (h:a[i.toNat]=b):IntKind.i64.wrap (p+1)=((a.take (i+1).toNat).count b:Nat)∧IntKind.i64.wrap (p+1)≤i+1:=by
 obtain ⟨h1,h2⟩:=hp
 rw [Lm] at hle
 unfold limB at hb
 have hw:IntKind.i64.wrap (p+1)=p+1:=by
  have:0≤p:=by rw [h1];exact Int.natCast_nonneg _
  rw [IntKind.wrap_i64]
  omega
 rw [hw,cnt_hit h0 hl h,h1]
 exact ⟨rfl,by omega⟩
theorem times_up0 {a:List Int} {b i p:Int} (h0:0≤i) (hp:p=((a.take i.toNat).count b:Nat)∧p≤i) (hl:i.toNat < a.length) (h:¬ a[i.toNat]=b):p=((a.take (i+1).toNat).count b:Nat)∧p≤i+1:=by
 rw [cnt_miss h0 hl h]
 exact ⟨hp.1,by omega⟩
theorem times_end {a:List Int} {b i p:Int} (hp:p=((a.take i.toNat).count b:Nat)∧p≤i) (h:¬ i < (((a.map eI).length:Nat):Int)):p=timesM a b:=by
 rw [Lm] at h
 rw [hp.1,take_whole h]
 rfl
theorem wrap_sub1 {n b:Nat} (h:n*b≤limB) (hb:Nat.blt 0 b=true):IntKind.i64.wrap ((n:Int) - 1)=(n:Int) - 1:=by
 unfold limB at h
 have:=Nb hb
 have:n*1≤n*b:=Nat.mul_le_mul (Nat.le_refl _) this
 rw [IntKind.wrap_i64]
 omega
theorem cntP_up1 {α:Type} {f:α→List Tr} {a:List α} {p:α→Bool} {i q:Int} (h0:0≤i) (hle:i≤(((a.map f).length:Nat):Int)) {b:Nat} (hb:a.length*b≤limB) (hb0:Nat.blt 0 b=true) (hp:q=((a.take i.toNat).countP p:Nat)∧q≤i) (hl:i.toNat < a.length) (h:p a[i.toNat]=true):IntKind.i64.wrap (q+1)=((a.take (i+1).toNat).countP p:Nat)∧IntKind.i64.wrap (q+1)≤i+1:=by
 obtain ⟨h1,h2⟩:=hp
 rw [Lm] at hle
 unfold limB at hb
 have hb1:=Nb hb0
 have:a.length*1≤a.length*b:=Nat.mul_le_mul (Nat.le_refl _) hb1
 have hw:IntKind.i64.wrap (q+1)=q+1:=by
  have:0≤q:=by rw [h1];exact Int.natCast_nonneg _
  rw [IntKind.wrap_i64]
  omega
 rw [hw,cntP_up h0 hl,h,h1]
 exact ⟨rfl,by omega⟩
theorem cntP_up0 {α:Type} {a:List α} {p:α→Bool} {i q:Int} (h0:0≤i) (hp:q=((a.take i.toNat).countP p:Nat)∧q≤i) (hl:i.toNat < a.length) (h:p a[i.toNat]=false):q=((a.take (i+1).toNat).countP p:Nat)∧q≤i+1:=by
 rw [cntP_up h0 hl,h]
 exact ⟨by simpa using hp.1,by omega⟩
theorem cntP_end {α:Type} {f:α→List Tr} {a:List α} {p:α→Bool} {i q:Int} (hp:q=((a.take i.toNat).countP p:Nat)∧q≤i) (h:¬ i < (((a.map f).length:Nat):Int)):q=((a.countP p:Nat):Int):=by
 rw [Lm] at h
 rw [hp.1,take_whole h]
theorem objs_no {cards:Int} {s:GState} {i:Int} (_h0:0≤i) (hl:i.toNat < s.objects.length) (h:objAt cards s i.toNat s.objects[i.toNat]=false):false=objsOk cards s:=by
 unfold objsOk
 rw [allI_no hl h,Bool.and_false]
theorem objs_yes {cards:Int} {s:GState} {i:Int} {f:GObject→List Tr} (hn:¬ (((s.objects.map f).length:Nat):Int) > 2048) (h:Up (objAt cards s) s.objects i) (h1:¬ i < (((s.objects.map f).length:Nat):Int)):true=objsOk cards s:=by
 rw [Lm] at hn h1
 unfold objsOk
 rw [h.all h1,decide_eq_false hn]
 rfl
section
variable {s:GState} {o:GObject} {i:Int} {a:List GCard} {f:GCard→List Tr} {g:GPlayer→List Tr}
theorem objAt_yes (h1:objOk o (((a.map f).length:Nat):Int) (((s.players.map g).length:Nat):Int)=true) (h2:¬ o.id≥s.nextId) (h3:¬ o.stamp≥s.nextStamp) (h4:i.toNat=0∨¬ (s.objects.getD (i.toNat - 1) zeroObj).id≥o.id) (h5:placedOk s o=true):objAt ((a.length:Nat):Int) s i.toNat o=true:=by
 rw [Lm,Lm] at h1
 unfold objAt
 rw [h1,h5,decide_eq_false h2,decide_eq_false h3]
 rcases h4 with h4|h4
 ·rw [h4];rfl
 ·rw [decide_eq_false h4];simp
theorem objAt_n1 (h1:objOk o (((a.map f).length:Nat):Int) (((s.players.map g).length:Nat):Int)=false):objAt ((a.length:Nat):Int) s i.toNat o=false:=by
 rw [Lm,Lm] at h1
 unfold objAt
 rw [h1];rfl
theorem objAt_n2 {c:Int} (h:o.id≥s.nextId):objAt c s i.toNat o=false:=by
 unfold objAt
 rw [decide_eq_true h];simp
theorem objAt_n3 {c:Int} (h:o.stamp≥s.nextStamp):objAt c s i.toNat o=false:=by
 unfold objAt
 rw [decide_eq_true h];simp
theorem objAt_n4 {c:Int} (h0:i > 0) (h:(s.objects.getD (i.toNat - 1) zeroObj).id≥o.id):objAt c s i.toNat o=false:=by
 unfold objAt
 rw [decide_eq_true h,decide_eq_true (show ((i.toNat:Nat):Int) > 0 by omega)];simp
theorem objAt_n5 {c:Int} (h:placedOk s o=false):objAt c s i.toNat o=false:=by
 unfold objAt
 rw [h];simp
end
theorem plyOk_eq {s:GState} {i:Int} {p:GPlayer} (h0:0≤i):plyOk s i.toNat p=(inM p.life (-1000000) 1000000&&(inM p.venom 0 1000000&&(inM p.lands 0 1000000&&(wholeM p.pool0 p.pool1 p.pool2 p.pool3 p.pool4 p.pool5&&(listOk s 2 i p.library&&(listOk s 1 i p.hand&&listOk s 3 i p.graveyard)))))):=by
 unfold plyOk
 rw [Int.toNat_of_nonneg h0]
theorem plys_n1 {s:GState} {f:GPlayer→List Tr} (h:inM (((s.players.map f).length:Nat):Int) 2 4=false):false=playersOk s:=by
 rw [Lm] at h
 unfold playersOk
 rw [h];rfl
theorem plys_no {s:GState} {i:Int} (hl:i.toNat < s.players.length) (h:plyOk s i.toNat s.players[i.toNat]=false):false=playersOk s:=by
 unfold playersOk
 rw [allI_no hl h];simp
theorem plys_yes {s:GState} {i:Int} {f:GPlayer→List Tr} {r:Bool} (hn:inM (((s.players.map f).length:Nat):Int) 2 4=true) (h:Up (plyOk s) s.players i) (h1:¬ i < (((s.players.map f).length:Nat):Int)) (hr:r=(listOk s 0 (-1) s.battlefield&&listOk s 4 (-1) s.exile)):r=playersOk s:=by
 rw [Lm] at hn h1
 unfold playersOk
 rw [hn,h.all h1,hr];rfl
theorem wrapN {n:Int} (h:inM n 1 1000000=true):IntKind.i64.wrap (n - 1)=n - 1:=by
 unfold inM at h
 simp only [Bool.and_eq_true,decide_eq_true_eq] at h
 rw [IntKind.wrap_i64]
 omega
section
variable {q:Opq} {s:GState} {x:GItem} {i k:Int}
theorem item_yes {f:GItem→List Tr} (hi:i < (((s.stack.map f).length:Nat):Int)) (h1:itemOk q s x=true) (h2:Up (fun _ (y:GItem)=>!(y.id==x.id)) s.stack k) (h3:¬ k < i):itemAt q s i.toNat x=true:=by
 rw [Lm] at hi
 unfold itemAt
 rw [h1,Bool.true_and,List.all_eq_true]
 intro y hy
 obtain ⟨j,hj,rfl⟩:=List.mem_iff_getElem.1 hy
 rw [List.length_take] at hj
 rw [List.getElem_take]
 exact h2 j (by omega) (by omega)
theorem item_n1 (h1:itemOk q s x=false):itemAt q s i.toNat x=false:=by
 unfold itemAt
 rw [h1];rfl
theorem item_n2 (h0:0≤k) (hk:k < i) (hl:k.toNat < s.stack.length) (h:s.stack[k.toNat].id=x.id):itemAt q s i.toNat x=false:=by
 unfold itemAt
 rw [all_no (i:=k.toNat) (by rw [List.length_take];omega) (by rw [List.getElem_take,h];simp),Bool.and_false]
theorem stk_n0 {f:GItem→List Tr} {g:GWaiting→List Tr} {c:GCont→List Tr} (h:(((s.stack.map f).length:Nat):Int) > 64∨(((s.waiting.map g).length:Nat):Int) > 64∨(((s.conts.map c).length:Nat):Int) > 64):false=stackOk q s:=by
 rw [Lm,Lm,Lm] at h
 unfold stackOk
 rcases h with h|h|h <;> rw [decide_eq_true h] <;> simp
theorem stk_n1 (hl:i.toNat < s.stack.length) (h:itemAt q s i.toNat s.stack[i.toNat]=false):false=stackOk q s:=by
 unfold stackOk
 rw [allI_no hl h];simp
theorem stk_n2 (hl:i.toNat < s.waiting.length) (h:waitOk q s s.waiting[i.toNat]=false):false=stackOk q s:=by
 unfold stackOk
 rw [all_no hl h];simp
theorem stk_n3 (hl:i.toNat < s.conts.length) (h:contOk q s s.conts[i.toNat]=false):false=stackOk q s:=by
 unfold stackOk
 rw [all_no (p:=contOk q s) hl h];simp
theorem stk_yes {j:Int} {f:GItem→List Tr} {g:GWaiting→List Tr} {c:GCont→List Tr} (g1:¬ (((s.stack.map f).length:Nat):Int) > 64) (g2:¬ (((s.waiting.map g).length:Nat):Int) > 64) (g3:¬ (((s.conts.map c).length:Nat):Int) > 64)
  (h1:Up (itemAt q s) s.stack i) (e1:¬ i < (((s.stack.map f).length:Nat):Int)) (h2:Up (fun _=>waitOk q s) s.waiting j) (e2:¬ j < (((s.waiting.map g).length:Nat):Int)) (h3:Up (fun _=>contOk q s) s.conts k) (e3:¬ k < (((s.conts.map c).length:Nat):Int)):true=stackOk q s:=by
 rw [Lm] at g1 g2 g3 e1 e2 e3
 unfold stackOk
 rw [decide_eq_false g1,decide_eq_false g2,decide_eq_false g3,h1.all e1,h2.all' e2,h3.all' e3]
 rfl
end
section
variable {q:Opq} {s:GState} {c:GCont}
theorem cont_yes (h1:plM s c.control=true) (h2:¬ c.stamp≥s.nextStamp) (h3:inM c.until_ 1 2=true) (h4:q.set c.objects=true) (h5:((q.txt c.mods).toList==(⟨#[]⟩:ByteArray).toList)=false):contOk q s c=true:=by
 unfold contOk
 rw [h1,decide_eq_false h2,h3,h4,h5]
 rfl
theorem cont_n1 (h:plM s c.control=false):contOk q s c=false:=by
 unfold contOk
 rw [h];rfl
theorem cont_n2 (h:c.stamp≥s.nextStamp):contOk q s c=false:=by
 unfold contOk
 rw [decide_eq_true h];simp
theorem cont_n3 (h:inM c.until_ 1 2=false):contOk q s c=false:=by
 unfold contOk
 rw [h];simp
theorem cont_n4 (h:q.set c.objects=false):contOk q s c=false:=by
 unfold contOk
 rw [h];simp
theorem cont_n5 (h:((q.txt c.mods).toList==(⟨#[]⟩:ByteArray).toList)=true):contOk q s c=false:=by
 unfold contOk
 rw [h,Bool.not_true,Bool.and_false,Bool.and_false,Bool.and_false,Bool.and_false]
end
section
variable {q:Opq} {c:Int} {s:GState} {i:Int}
theorem is_nA (h:isA s=false):false=isM q c s:=by unfold isM;rw [h];rfl
theorem is_nB (h:isB s=false):false=isM q c s:=by unfold isM;rw [h];simp
theorem is_nE (hl:i.toNat < s.extra.length) (h:plM s s.extra[i.toNat]=false):false=isM q c s:=by unfold isM;rw [all_no hl h];simp
theorem is_nW (h:isW s=false):false=isM q c s:=by unfold isM;rw [h];simp
theorem is_yes {f:Int→List Tr} {r:Bool} (hA:isA s=true) (hB:isB s=true) (h:Up (fun _=>plM s) s.extra i) (h1:¬ i < (((s.extra.map f).length:Nat):Int)) (hW:isW s=true) (hr:r=(objsOk c s&&stackOk q s)):r=isM q c s:=by
 rw [Lm] at h1
 unfold isM
 rw [hA,hB,h.all' h1,hW,hr]
 rfl
theorem isB_t {f:GPlayer→List Tr} {g:Int→List Tr} (h1:playersOk s=true) (h2:plM s s.active=true) (h3:plM s s.priority=true) (h4:inM s.passes 0 (((s.players.map f).length:Nat):Int)=true) (h5:¬ (((s.extra.map g).length:Nat):Int) > 500) (h6:inM s.over 0 2=true):isB s=true:=by
 rw [Lm] at h4 h5
 unfold isB
 rw [h1,h2,h3,h4,decide_eq_false h5,h6]
 rfl
theorem isW_t1 (h1:s.over=1) (h2:plM s s.winner=true):isW s=true:=by unfold isW;rw [h1,h2];rfl
theorem isW_t2 (h1:¬ s.over=1) (h2:s.winner = -1):isW s=true:=by unfold isW;rw [if_neg (by simpa using h1),h2];rfl
theorem isW_f1 (h1:s.over=1) (h2:plM s s.winner=false):isW s=false:=by unfold isW;rw [h1,h2];rfl
theorem isW_f2 (h1:¬ s.over=1) (h2:¬ s.winner = -1):isW s=false:=by unfold isW;rw [if_neg (by simpa using h1)];simpa using h2
theorem isA_f1 (h:inM s.nextId 1 1000000=false):isA s=false:=by unfold isA;rw [h];simp
theorem isA_f2 (h:inM s.nextStamp 1 1000000=false):isA s=false:=by unfold isA;rw [h];simp
theorem isA_f3 (h:inM s.turn 0 500=false):isA s=false:=by unfold isA;rw [h];simp
theorem isA_f4 (h:inM s.step 0 10=false):isA s=false:=by unfold isA;rw [h];simp
theorem isA_f5 {f:GObject→List Tr} (h:(((s.objects.map f).length:Nat):Int) > 2048):isA s=false:=by
 rw [Lm] at h
 unfold isA
 rw [decide_eq_true h]
 simp
theorem isA_t {f:GObject→List Tr} (h1:inM s.nextId 1 1000000=true) (h2:inM s.nextStamp 1 1000000=true) (h3:inM s.turn 0 500=true) (h4:inM s.step 0 10=true) (h5:¬ (((s.objects.map f).length:Nat):Int) > 2048):isA s=true:=by
 rw [Lm] at h5
 unfold isA
 rw [h1,h2,h3,h4,decide_eq_false h5]
 rfl
theorem isB_f1 (h:playersOk s=false):isB s=false:=by unfold isB;rw [h];simp
theorem isB_f2 (h:plM s s.active=false):isB s=false:=by unfold isB;rw [h];simp
theorem isB_f3 (h:plM s s.priority=false):isB s=false:=by unfold isB;rw [h];simp
theorem isB_f4 (h:inM s.over 0 2=false):isB s=false:=by unfold isB;rw [h];simp
theorem isB_f5 {f:GPlayer→List Tr} (h:inM s.passes 0 (((s.players.map f).length:Nat):Int)=false):isB s=false:=by
 rw [Lm] at h
 unfold isB
 rw [h]
 simp
theorem isB_f6 {f:Int→List Tr} (h:(((s.extra.map f).length:Nat):Int) > 500):isB s=false:=by
 rw [Lm] at h
 unfold isB
 rw [decide_eq_true h]
 simp
end
end
end Cg
end
section
namespace Go.Proofs.YtpibcdnagnjokaaGreat
open Go Cg
def tab:List (Nat × Ty):=[(2,⟨.int .i64,1,8,[.t (.lit (.int .i64 0))],[]⟩),
 (3,⟨.int .i64,1,8,[.t (.lit (.int .i64 0))],[]⟩),
 (4,⟨.bas,1,1,[.t (.lit (.bool false))],[.bool]⟩),
 (5,⟨.int .u8,1,1,[.t (.lit (.int .u8 0))],[]⟩),
 (6,⟨.int .u8,1,1,[.t (.lit (.int .u8 0))],[]⟩),
 (9,⟨.string,1,16,[.t (.lit (.string ⟨#[]⟩))],[]⟩),
 (12,⟨.int .u64,1,8,[.t (.lit (.int .u64 0))],[]⟩),
 (15,⟨.ptr 249,1,8,[.bot],[]⟩),
 (16,⟨.ptr 252,1,8,[.bot],[]⟩),
 (17,⟨.ptr 261,1,8,[.bot],[]⟩),
 (21,⟨.int .i32,1,4,[.t (.lit (.int .i32 0))],[]⟩),
 (22,⟨.slc 116,1,24,[.nil],[]⟩),
 (23,⟨.slc 44,1,24,[.nil],[]⟩),
 (24,⟨.slc 47,1,24,[.nil],[]⟩),
 (25,⟨.slc 3,1,24,[.nil],[]⟩),
 (26,⟨.slc 91,1,24,[.nil],[]⟩),
 (27,⟨.slc 97,1,24,[.nil],[]⟩),
 (28,⟨.slc 100,1,24,[.nil],[]⟩),
 (29,⟨.int .u64,1,8,[.t (.lit (.int .u64 0))],[]⟩),
 (30,⟨.str [(0,23),(1,24),(2,25),(3,25),(4,26),(5,27),(6,28),(7,3),(8,3),(9,3),(10,4),(11,3),(12,3),(13,3),(14,3),(15,29),(16,25),(17,3),(18,3)],19,280,[.nil,.nil,.nil,.nil,.nil,.nil,.nil,.t (.lit (.int .i64 0)),.t (.lit (.int .i64 0)),.t (.lit (.int .i64 0)),.t (.lit (.bool false)),.t (.lit (.int .i64 0)),.t (.lit (.int .i64 0)),.t (.lit (.int .i64 0)),.t (.lit (.int .i64 0)),.t (.lit (.int .u64 0)),.nil,.t (.lit (.int .i64 0)),.t (.lit (.int .i64 0))],[]⟩),
 (31,⟨.str [(0,23),(1,24),(2,25),(3,25),(4,26),(5,27),(6,28),(7,3),(8,3),(9,3),(10,4),(11,3),(12,3),(13,3),(14,3),(15,29),(16,25),(17,3),(18,3)],19,280,[.nil,.nil,.nil,.nil,.nil,.nil,.nil,.t (.lit (.int .i64 0)),.t (.lit (.int .i64 0)),.t (.lit (.int .i64 0)),.t (.lit (.bool false)),.t (.lit (.int .i64 0)),.t (.lit (.int .i64 0)),.t (.lit (.int .i64 0)),.t (.lit (.int .i64 0)),.t (.lit (.int .u64 0)),.nil,.t (.lit (.int .i64 0)),.t (.lit (.int .i64 0))],[]⟩),
 (37,⟨.slc 31,1,24,[.nil],[]⟩),
 (41,⟨.arr 6 3,6,48,[.t (.lit (.int .i64 0)),.t (.lit (.int .i64 0)),.t (.lit (.int .i64 0)),.t (.lit (.int .i64 0)),.t (.lit (.int .i64 0)),.t (.lit (.int .i64 0))],[.int,.int,.int,.int,.int,.int]⟩),
 (42,⟨.arr 6 3,6,48,[.t (.lit (.int .i64 0)),.t (.lit (.int .i64 0)),.t (.lit (.int .i64 0)),.t (.lit (.int .i64 0)),.t (.lit (.int .i64 0)),.t (.lit (.int .i64 0))],[.int,.int,.int,.int,.int,.int]⟩),
 (43,⟨.str [(0,3),(1,3),(2,3),(3,42),(9,4),(10,4),(11,25),(12,25),(13,25)],14,152,[.t (.lit (.int .i64 0)),.t (.lit (.int .i64 0)),.t (.lit (.int .i64 0)),.t (.lit (.int .i64 0)),.t (.lit (.int .i64 0)),.t (.lit (.int .i64 0)),.t (.lit (.int .i64 0)),.t (.lit (.int .i64 0)),.t (.lit (.int .i64 0)),.t (.lit (.bool false)),.t (.lit (.bool false)),.nil,.nil,.nil],[]⟩),
 (44,⟨.str [(0,3),(1,3),(2,3),(3,42),(9,4),(10,4),(11,25),(12,25),(13,25)],14,152,[.t (.lit (.int .i64 0)),.t (.lit (.int .i64 0)),.t (.lit (.int .i64 0)),.t (.lit (.int .i64 0)),.t (.lit (.int .i64 0)),.t (.lit (.int .i64 0)),.t (.lit (.int .i64 0)),.t (.lit (.int .i64 0)),.t (.lit (.int .i64 0)),.t (.lit (.bool false)),.t (.lit (.bool false)),.nil,.nil,.nil],[]⟩),
 (45,⟨.arr 3 3,3,24,[.t (.lit (.int .i64 0)),.t (.lit (.int .i64 0)),.t (.lit (.int .i64 0))],[.int,.int,.int]⟩),
 (46,⟨.str [(0,3),(1,3),(2,3),(3,3),(4,3),(5,4),(6,4),(7,4),(8,4),(9,3),(10,45),(13,3),(14,3),(15,3),(16,4),(17,3),(18,3)],19,128,[.t (.lit (.int .i64 0)),.t (.lit (.int .i64 0)),.t (.lit (.int .i64 0)),.t (.lit (.int .i64 0)),.t (.lit (.int .i64 0)),.t (.lit (.bool false)),.t (.lit (.bool false)),.t (.lit (.bool false)),.t (.lit (.bool false)),.t (.lit (.int .i64 0)),.t (.lit (.int .i64 0)),.t (.lit (.int .i64 0)),.t (.lit (.int .i64 0)),.t (.lit (.int .i64 0)),.t (.lit (.int .i64 0)),.t (.lit (.int .i64 0)),.t (.lit (.bool false)),.t (.lit (.int .i64 0)),.t (.lit (.int .i64 0))],[.int,.int,.int,.int,.int,.bool,.bool,.bool,.bool,.int,.int,.int,.int,.int,.int,.int,.bool,.int,.int]⟩),
 (47,⟨.str [(0,3),(1,3),(2,3),(3,3),(4,3),(5,4),(6,4),(7,4),(8,4),(9,3),(10,45),(13,3),(14,3),(15,3),(16,4),(17,3),(18,3)],19,128,[.t (.lit (.int .i64 0)),.t (.lit (.int .i64 0)),.t (.lit (.int .i64 0)),.t (.lit (.int .i64 0)),.t (.lit (.int .i64 0)),.t (.lit (.bool false)),.t (.lit (.bool false)),.t (.lit (.bool false)),.t (.lit (.bool false)),.t (.lit (.int .i64 0)),.t (.lit (.int .i64 0)),.t (.lit (.int .i64 0)),.t (.lit (.int .i64 0)),.t (.lit (.int .i64 0)),.t (.lit (.int .i64 0)),.t (.lit (.int .i64 0)),.t (.lit (.bool false)),.t (.lit (.int .i64 0)),.t (.lit (.int .i64 0))],[.int,.int,.int,.int,.int,.bool,.bool,.bool,.bool,.int,.int,.int,.int,.int,.int,.int,.bool,.int,.int]⟩),
 (53,⟨.int .i64,1,8,[.t (.lit (.int .i64 0))],[]⟩),
 (58,⟨.map 3 3,1,8,[.bot],[]⟩),
 (60,⟨.str [(0,58)],1,8,[.bot],[]⟩),
 (61,⟨.str [(0,58)],1,8,[.bot],[]⟩),
 (63,⟨.ptr 47,1,8,[.bot],[]⟩),
 (68,⟨.ptr 91,1,8,[.bot],[]⟩),
 (69,⟨.str [(0,3),(1,3)],2,16,[.t (.lit (.int .i64 0)),.t (.lit (.int .i64 0))],[.int,.int]⟩),
 (70,⟨.str [(0,3),(1,3)],2,16,[.t (.lit (.int .i64 0)),.t (.lit (.int .i64 0))],[.int,.int]⟩),
 (71,⟨.str [(0,3),(1,3),(2,3),(3,3),(4,3),(5,3),(6,3),(7,9),(8,3),(9,3),(10,70),(12,70),(14,70)],16,136,[.t (.lit (.int .i64 0)),.t (.lit (.int .i64 0)),.t (.lit (.int .i64 0)),.t (.lit (.int .i64 0)),.t (.lit (.int .i64 0)),.t (.lit (.int .i64 0)),.t (.lit (.int .i64 0)),.t (.lit (.string ⟨#[]⟩)),.t (.lit (.int .i64 0)),.t (.lit (.int .i64 0)),.t (.lit (.int .i64 0)),.t (.lit (.int .i64 0)),.t (.lit (.int .i64 0)),.t (.lit (.int .i64 0)),.t (.lit (.int .i64 0)),.t (.lit (.int .i64 0))],[.int,.int,.int,.int,.int,.int,.int,.str,.int,.int,.int,.int,.int,.int,.int,.int]⟩),
 (72,⟨.str [(0,3),(1,3),(2,3),(3,3),(4,3),(5,3),(6,3),(7,9),(8,3),(9,3),(10,70),(12,70),(14,70)],16,136,[.t (.lit (.int .i64 0)),.t (.lit (.int .i64 0)),.t (.lit (.int .i64 0)),.t (.lit (.int .i64 0)),.t (.lit (.int .i64 0)),.t (.lit (.int .i64 0)),.t (.lit (.int .i64 0)),.t (.lit (.string ⟨#[]⟩)),.t (.lit (.int .i64 0)),.t (.lit (.int .i64 0)),.t (.lit (.int .i64 0)),.t (.lit (.int .i64 0)),.t (.lit (.int .i64 0)),.t (.lit (.int .i64 0)),.t (.lit (.int .i64 0)),.t (.lit (.int .i64 0))],[.int,.int,.int,.int,.int,.int,.int,.str,.int,.int,.int,.int,.int,.int,.int,.int]⟩),
 (73,⟨.slc 137,1,24,[.nil],[]⟩),
 (74,⟨.arr 5 3,5,40,[.t (.lit (.int .i64 0)),.t (.lit (.int .i64 0)),.t (.lit (.int .i64 0)),.t (.lit (.int .i64 0)),.t (.lit (.int .i64 0))],[.int,.int,.int,.int,.int]⟩),
 (75,⟨.str [(0,3),(1,3),(2,74)],7,56,[.t (.lit (.int .i64 0)),.t (.lit (.int .i64 0)),.t (.lit (.int .i64 0)),.t (.lit (.int .i64 0)),.t (.lit (.int .i64 0)),.t (.lit (.int .i64 0)),.t (.lit (.int .i64 0))],[.int,.int,.int,.int,.int,.int,.int]⟩),
 (76,⟨.str [(0,3),(1,3),(2,74)],7,56,[.t (.lit (.int .i64 0)),.t (.lit (.int .i64 0)),.t (.lit (.int .i64 0)),.t (.lit (.int .i64 0)),.t (.lit (.int .i64 0)),.t (.lit (.int .i64 0)),.t (.lit (.int .i64 0))],[.int,.int,.int,.int,.int,.int,.int]⟩),
 (77,⟨.str [(0,76),(7,4),(8,4),(9,3)],10,72,[.t (.lit (.int .i64 0)),.t (.lit (.int .i64 0)),.t (.lit (.int .i64 0)),.t (.lit (.int .i64 0)),.t (.lit (.int .i64 0)),.t (.lit (.int .i64 0)),.t (.lit (.int .i64 0)),.t (.lit (.bool false)),.t (.lit (.bool false)),.t (.lit (.int .i64 0))],[.int,.int,.int,.int,.int,.int,.int,.bool,.bool,.int]⟩),
 (78,⟨.str [(0,76),(7,4),(8,4),(9,3)],10,72,[.t (.lit (.int .i64 0)),.t (.lit (.int .i64 0)),.t (.lit (.int .i64 0)),.t (.lit (.int .i64 0)),.t (.lit (.int .i64 0)),.t (.lit (.int .i64 0)),.t (.lit (.int .i64 0)),.t (.lit (.bool false)),.t (.lit (.bool false)),.t (.lit (.int .i64 0))],[.int,.int,.int,.int,.int,.int,.int,.bool,.bool,.int]⟩),
 (79,⟨.str [(0,3),(1,3),(2,72)],18,152,[.t (.lit (.int .i64 0)),.t (.lit (.int .i64 0)),.t (.lit (.int .i64 0)),.t (.lit (.int .i64 0)),.t (.lit (.int .i64 0)),.t (.lit (.int .i64 0)),.t (.lit (.int .i64 0)),.t (.lit (.int .i64 0)),.t (.lit (.int .i64 0)),.t (.lit (.string ⟨#[]⟩)),.t (.lit (.int .i64 0)),.t (.lit (.int .i64 0)),.t (.lit (.int .i64 0)),.t (.lit (.int .i64 0)),.t (.lit (.int .i64 0)),.t (.lit (.int .i64 0)),.t (.lit (.int .i64 0)),.t (.lit (.int .i64 0))],[.int,.int,.int,.int,.int,.int,.int,.int,.int,.str,.int,.int,.int,.int,.int,.int,.int,.int]⟩),
 (80,⟨.str [(0,3),(1,3),(2,72)],18,152,[.t (.lit (.int .i64 0)),.t (.lit (.int .i64 0)),.t (.lit (.int .i64 0)),.t (.lit (.int .i64 0)),.t (.lit (.int .i64 0)),.t (.lit (.int .i64 0)),.t (.lit (.int .i64 0)),.t (.lit (.int .i64 0)),.t (.lit (.int .i64 0)),.t (.lit (.string ⟨#[]⟩)),.t (.lit (.int .i64 0)),.t (.lit (.int .i64 0)),.t (.lit (.int .i64 0)),.t (.lit (.int .i64 0)),.t (.lit (.int .i64 0)),.t (.lit (.int .i64 0)),.t (.lit (.int .i64 0)),.t (.lit (.int .i64 0))],[.int,.int,.int,.int,.int,.int,.int,.int,.int,.str,.int,.int,.int,.int,.int,.int,.int,.int]⟩),
 (81,⟨.slc 157,1,24,[.nil],[]⟩),
 (82,⟨.slc 154,1,24,[.nil],[]⟩),
 (83,⟨.str [(0,3),(1,3),(2,72),(18,3),(19,3),(20,3),(21,3)],22,184,[.t (.lit (.int .i64 0)),.t (.lit (.int .i64 0)),.t (.lit (.int .i64 0)),.t (.lit (.int .i64 0)),.t (.lit (.int .i64 0)),.t (.lit (.int .i64 0)),.t (.lit (.int .i64 0)),.t (.lit (.int .i64 0)),.t (.lit (.int .i64 0)),.t (.lit (.string ⟨#[]⟩)),.t (.lit (.int .i64 0)),.t (.lit (.int .i64 0)),.t (.lit (.int .i64 0)),.t (.lit (.int .i64 0)),.t (.lit (.int .i64 0)),.t (.lit (.int .i64 0)),.t (.lit (.int .i64 0)),.t (.lit (.int .i64 0)),.t (.lit (.int .i64 0)),.t (.lit (.int .i64 0)),.t (.lit (.int .i64 0)),.t (.lit (.int .i64 0))],[.int,.int,.int,.int,.int,.int,.int,.int,.int,.str,.int,.int,.int,.int,.int,.int,.int,.int,.int,.int,.int,.int]⟩),
 (84,⟨.str [(0,3),(1,3),(2,72),(18,3),(19,3),(20,3),(21,3)],22,184,[.t (.lit (.int .i64 0)),.t (.lit (.int .i64 0)),.t (.lit (.int .i64 0)),.t (.lit (.int .i64 0)),.t (.lit (.int .i64 0)),.t (.lit (.int .i64 0)),.t (.lit (.int .i64 0)),.t (.lit (.int .i64 0)),.t (.lit (.int .i64 0)),.t (.lit (.string ⟨#[]⟩)),.t (.lit (.int .i64 0)),.t (.lit (.int .i64 0)),.t (.lit (.int .i64 0)),.t (.lit (.int .i64 0)),.t (.lit (.int .i64 0)),.t (.lit (.int .i64 0)),.t (.lit (.int .i64 0)),.t (.lit (.int .i64 0)),.t (.lit (.int .i64 0)),.t (.lit (.int .i64 0)),.t (.lit (.int .i64 0)),.t (.lit (.int .i64 0))],[.int,.int,.int,.int,.int,.int,.int,.int,.int,.str,.int,.int,.int,.int,.int,.int,.int,.int,.int,.int,.int,.int]⟩),
 (85,⟨.str [(0,3),(1,72),(17,73),(18,78),(28,4),(29,80),(47,4),(48,81),(49,82),(50,84)],72,640,[.t (.lit (.int .i64 0)),.t (.lit (.int .i64 0)),.t (.lit (.int .i64 0)),.t (.lit (.int .i64 0)),.t (.lit (.int .i64 0)),.t (.lit (.int .i64 0)),.t (.lit (.int .i64 0)),.t (.lit (.int .i64 0)),.t (.lit (.string ⟨#[]⟩)),.t (.lit (.int .i64 0)),.t (.lit (.int .i64 0)),.t (.lit (.int .i64 0)),.t (.lit (.int .i64 0)),.t (.lit (.int .i64 0)),.t (.lit (.int .i64 0)),.t (.lit (.int .i64 0)),.t (.lit (.int .i64 0)),.nil,.t (.lit (.int .i64 0)),.t (.lit (.int .i64 0)),.t (.lit (.int .i64 0)),.t (.lit (.int .i64 0)),.t (.lit (.int .i64 0)),.t (.lit (.int .i64 0)),.t (.lit (.int .i64 0)),.t (.lit (.bool false)),.t (.lit (.bool false)),.t (.lit (.int .i64 0)),.t (.lit (.bool false)),.t (.lit (.int .i64 0)),.t (.lit (.int .i64 0)),.t (.lit (.int .i64 0)),.t (.lit (.int .i64 0)),.t (.lit (.int .i64 0)),.t (.lit (.int .i64 0)),.t (.lit (.int .i64 0)),.t (.lit (.int .i64 0)),.t (.lit (.int .i64 0)),.t (.lit (.string ⟨#[]⟩)),.t (.lit (.int .i64 0)),.t (.lit (.int .i64 0)),.t (.lit (.int .i64 0)),.t (.lit (.int .i64 0)),.t (.lit (.int .i64 0)),.t (.lit (.int .i64 0)),.t (.lit (.int .i64 0)),.t (.lit (.int .i64 0)),.t (.lit (.bool false)),.nil,.nil,.t (.lit (.int .i64 0)),.t (.lit (.int .i64 0)),.t (.lit (.int .i64 0)),.t (.lit (.int .i64 0)),.t (.lit (.int .i64 0)),.t (.lit (.int .i64 0)),.t (.lit (.int .i64 0)),.t (.lit (.int .i64 0)),.t (.lit (.int .i64 0)),.t (.lit (.string ⟨#[]⟩)),.t (.lit (.int .i64 0)),.t (.lit (.int .i64 0)),.t (.lit (.int .i64 0)),.t (.lit (.int .i64 0)),.t (.lit (.int .i64 0)),.t (.lit (.int .i64 0)),.t (.lit (.int .i64 0)),.t (.lit (.int .i64 0)),.t (.lit (.int .i64 0)),.t (.lit (.int .i64 0)),.t (.lit (.int .i64 0)),.t (.lit (.int .i64 0))],[]⟩),
 (86,⟨.str [(0,3),(1,72),(17,73),(18,78),(28,4),(29,80),(47,4),(48,81),(49,82),(50,84)],72,640,[.t (.lit (.int .i64 0)),.t (.lit (.int .i64 0)),.t (.lit (.int .i64 0)),.t (.lit (.int .i64 0)),.t (.lit (.int .i64 0)),.t (.lit (.int .i64 0)),.t (.lit (.int .i64 0)),.t (.lit (.int .i64 0)),.t (.lit (.string ⟨#[]⟩)),.t (.lit (.int .i64 0)),.t (.lit (.int .i64 0)),.t (.lit (.int .i64 0)),.t (.lit (.int .i64 0)),.t (.lit (.int .i64 0)),.t (.lit (.int .i64 0)),.t (.lit (.int .i64 0)),.t (.lit (.int .i64 0)),.nil,.t (.lit (.int .i64 0)),.t (.lit (.int .i64 0)),.t (.lit (.int .i64 0)),.t (.lit (.int .i64 0)),.t (.lit (.int .i64 0)),.t (.lit (.int .i64 0)),.t (.lit (.int .i64 0)),.t (.lit (.bool false)),.t (.lit (.bool false)),.t (.lit (.int .i64 0)),.t (.lit (.bool false)),.t (.lit (.int .i64 0)),.t (.lit (.int .i64 0)),.t (.lit (.int .i64 0)),.t (.lit (.int .i64 0)),.t (.lit (.int .i64 0)),.t (.lit (.int .i64 0)),.t (.lit (.int .i64 0)),.t (.lit (.int .i64 0)),.t (.lit (.int .i64 0)),.t (.lit (.string ⟨#[]⟩)),.t (.lit (.int .i64 0)),.t (.lit (.int .i64 0)),.t (.lit (.int .i64 0)),.t (.lit (.int .i64 0)),.t (.lit (.int .i64 0)),.t (.lit (.int .i64 0)),.t (.lit (.int .i64 0)),.t (.lit (.int .i64 0)),.t (.lit (.bool false)),.nil,.nil,.t (.lit (.int .i64 0)),.t (.lit (.int .i64 0)),.t (.lit (.int .i64 0)),.t (.lit (.int .i64 0)),.t (.lit (.int .i64 0)),.t (.lit (.int .i64 0)),.t (.lit (.int .i64 0)),.t (.lit (.int .i64 0)),.t (.lit (.int .i64 0)),.t (.lit (.string ⟨#[]⟩)),.t (.lit (.int .i64 0)),.t (.lit (.int .i64 0)),.t (.lit (.int .i64 0)),.t (.lit (.int .i64 0)),.t (.lit (.int .i64 0)),.t (.lit (.int .i64 0)),.t (.lit (.int .i64 0)),.t (.lit (.int .i64 0)),.t (.lit (.int .i64 0)),.t (.lit (.int .i64 0)),.t (.lit (.int .i64 0)),.t (.lit (.int .i64 0))],[]⟩),
 (87,⟨.slc 94,1,24,[.nil],[]⟩),
 (88,⟨.str [(0,3),(1,3),(2,3),(3,3),(4,3),(5,3),(6,3),(7,3),(8,3),(9,3),(10,4),(11,4),(12,45)],15,112,[.t (.lit (.int .i64 0)),.t (.lit (.int .i64 0)),.t (.lit (.int .i64 0)),.t (.lit (.int .i64 0)),.t (.lit (.int .i64 0)),.t (.lit (.int .i64 0)),.t (.lit (.int .i64 0)),.t (.lit (.int .i64 0)),.t (.lit (.int .i64 0)),.t (.lit (.int .i64 0)),.t (.lit (.bool false)),.t (.lit (.bool false)),.t (.lit (.int .i64 0)),.t (.lit (.int .i64 0)),.t (.lit (.int .i64 0))],[.int,.int,.int,.int,.int,.int,.int,.int,.int,.int,.bool,.bool,.int,.int,.int]⟩),
 (89,⟨.str [(0,3),(1,3),(2,3),(3,3),(4,3),(5,3),(6,3),(7,3),(8,3),(9,3),(10,4),(11,4),(12,45)],15,112,[.t (.lit (.int .i64 0)),.t (.lit (.int .i64 0)),.t (.lit (.int .i64 0)),.t (.lit (.int .i64 0)),.t (.lit (.int .i64 0)),.t (.lit (.int .i64 0)),.t (.lit (.int .i64 0)),.t (.lit (.int .i64 0)),.t (.lit (.int .i64 0)),.t (.lit (.int .i64 0)),.t (.lit (.bool false)),.t (.lit (.bool false)),.t (.lit (.int .i64 0)),.t (.lit (.int .i64 0)),.t (.lit (.int .i64 0))],[.int,.int,.int,.int,.int,.int,.int,.int,.int,.int,.bool,.bool,.int,.int,.int]⟩),
 (90,⟨.str [(0,3),(1,3),(2,3),(3,3),(4,3),(5,4),(6,86),(78,87),(79,89)],94,824,[.t (.lit (.int .i64 0)),.t (.lit (.int .i64 0)),.t (.lit (.int .i64 0)),.t (.lit (.int .i64 0)),.t (.lit (.int .i64 0)),.t (.lit (.bool false)),.t (.lit (.int .i64 0)),.t (.lit (.int .i64 0)),.t (.lit (.int .i64 0)),.t (.lit (.int .i64 0)),.t (.lit (.int .i64 0)),.t (.lit (.int .i64 0)),.t (.lit (.int .i64 0)),.t (.lit (.int .i64 0)),.t (.lit (.string ⟨#[]⟩)),.t (.lit (.int .i64 0)),.t (.lit (.int .i64 0)),.t (.lit (.int .i64 0)),.t (.lit (.int .i64 0)),.t (.lit (.int .i64 0)),.t (.lit (.int .i64 0)),.t (.lit (.int .i64 0)),.t (.lit (.int .i64 0)),.nil,.t (.lit (.int .i64 0)),.t (.lit (.int .i64 0)),.t (.lit (.int .i64 0)),.t (.lit (.int .i64 0)),.t (.lit (.int .i64 0)),.t (.lit (.int .i64 0)),.t (.lit (.int .i64 0)),.t (.lit (.bool false)),.t (.lit (.bool false)),.t (.lit (.int .i64 0)),.t (.lit (.bool false)),.t (.lit (.int .i64 0)),.t (.lit (.int .i64 0)),.t (.lit (.int .i64 0)),.t (.lit (.int .i64 0)),.t (.lit (.int .i64 0)),.t (.lit (.int .i64 0)),.t (.lit (.int .i64 0)),.t (.lit (.int .i64 0)),.t (.lit (.int .i64 0)),.t (.lit (.string ⟨#[]⟩)),.t (.lit (.int .i64 0)),.t (.lit (.int .i64 0)),.t (.lit (.int .i64 0)),.t (.lit (.int .i64 0)),.t (.lit (.int .i64 0)),.t (.lit (.int .i64 0)),.t (.lit (.int .i64 0)),.t (.lit (.int .i64 0)),.t (.lit (.bool false)),.nil,.nil,.t (.lit (.int .i64 0)),.t (.lit (.int .i64 0)),.t (.lit (.int .i64 0)),.t (.lit (.int .i64 0)),.t (.lit (.int .i64 0)),.t (.lit (.int .i64 0)),.t (.lit (.int .i64 0)),.t (.lit (.int .i64 0)),.t (.lit (.int .i64 0)),.t (.lit (.string ⟨#[]⟩)),.t (.lit (.int .i64 0)),.t (.lit (.int .i64 0)),.t (.lit (.int .i64 0)),.t (.lit (.int .i64 0)),.t (.lit (.int .i64 0)),.t (.lit (.int .i64 0)),.t (.lit (.int .i64 0)),.t (.lit (.int .i64 0)),.t (.lit (.int .i64 0)),.t (.lit (.int .i64 0)),.t (.lit (.int .i64 0)),.t (.lit (.int .i64 0)),.nil,.t (.lit (.int .i64 0)),.t (.lit (.int .i64 0)),.t (.lit (.int .i64 0)),.t (.lit (.int .i64 0)),.t (.lit (.int .i64 0)),.t (.lit (.int .i64 0)),.t (.lit (.int .i64 0)),.t (.lit (.int .i64 0)),.t (.lit (.int .i64 0)),.t (.lit (.int .i64 0)),.t (.lit (.bool false)),.t (.lit (.bool false)),.t (.lit (.int .i64 0)),.t (.lit (.int .i64 0)),.t (.lit (.int .i64 0))],[]⟩),
 (91,⟨.str [(0,3),(1,3),(2,3),(3,3),(4,3),(5,4),(6,86),(78,87),(79,89)],94,824,[.t (.lit (.int .i64 0)),.t (.lit (.int .i64 0)),.t (.lit (.int .i64 0)),.t (.lit (.int .i64 0)),.t (.lit (.int .i64 0)),.t (.lit (.bool false)),.t (.lit (.int .i64 0)),.t (.lit (.int .i64 0)),.t (.lit (.int .i64 0)),.t (.lit (.int .i64 0)),.t (.lit (.int .i64 0)),.t (.lit (.int .i64 0)),.t (.lit (.int .i64 0)),.t (.lit (.int .i64 0)),.t (.lit (.string ⟨#[]⟩)),.t (.lit (.int .i64 0)),.t (.lit (.int .i64 0)),.t (.lit (.int .i64 0)),.t (.lit (.int .i64 0)),.t (.lit (.int .i64 0)),.t (.lit (.int .i64 0)),.t (.lit (.int .i64 0)),.t (.lit (.int .i64 0)),.nil,.t (.lit (.int .i64 0)),.t (.lit (.int .i64 0)),.t (.lit (.int .i64 0)),.t (.lit (.int .i64 0)),.t (.lit (.int .i64 0)),.t (.lit (.int .i64 0)),.t (.lit (.int .i64 0)),.t (.lit (.bool false)),.t (.lit (.bool false)),.t (.lit (.int .i64 0)),.t (.lit (.bool false)),.t (.lit (.int .i64 0)),.t (.lit (.int .i64 0)),.t (.lit (.int .i64 0)),.t (.lit (.int .i64 0)),.t (.lit (.int .i64 0)),.t (.lit (.int .i64 0)),.t (.lit (.int .i64 0)),.t (.lit (.int .i64 0)),.t (.lit (.int .i64 0)),.t (.lit (.string ⟨#[]⟩)),.t (.lit (.int .i64 0)),.t (.lit (.int .i64 0)),.t (.lit (.int .i64 0)),.t (.lit (.int .i64 0)),.t (.lit (.int .i64 0)),.t (.lit (.int .i64 0)),.t (.lit (.int .i64 0)),.t (.lit (.int .i64 0)),.t (.lit (.bool false)),.nil,.nil,.t (.lit (.int .i64 0)),.t (.lit (.int .i64 0)),.t (.lit (.int .i64 0)),.t (.lit (.int .i64 0)),.t (.lit (.int .i64 0)),.t (.lit (.int .i64 0)),.t (.lit (.int .i64 0)),.t (.lit (.int .i64 0)),.t (.lit (.int .i64 0)),.t (.lit (.string ⟨#[]⟩)),.t (.lit (.int .i64 0)),.t (.lit (.int .i64 0)),.t (.lit (.int .i64 0)),.t (.lit (.int .i64 0)),.t (.lit (.int .i64 0)),.t (.lit (.int .i64 0)),.t (.lit (.int .i64 0)),.t (.lit (.int .i64 0)),.t (.lit (.int .i64 0)),.t (.lit (.int .i64 0)),.t (.lit (.int .i64 0)),.t (.lit (.int .i64 0)),.nil,.t (.lit (.int .i64 0)),.t (.lit (.int .i64 0)),.t (.lit (.int .i64 0)),.t (.lit (.int .i64 0)),.t (.lit (.int .i64 0)),.t (.lit (.int .i64 0)),.t (.lit (.int .i64 0)),.t (.lit (.int .i64 0)),.t (.lit (.int .i64 0)),.t (.lit (.int .i64 0)),.t (.lit (.bool false)),.t (.lit (.bool false)),.t (.lit (.int .i64 0)),.t (.lit (.int .i64 0)),.t (.lit (.int .i64 0))],[]⟩),
 (93,⟨.str [(0,3),(1,3)],2,16,[.t (.lit (.int .i64 0)),.t (.lit (.int .i64 0))],[.int,.int]⟩),
 (94,⟨.str [(0,3),(1,3)],2,16,[.t (.lit (.int .i64 0)),.t (.lit (.int .i64 0))],[.int,.int]⟩),
 (95,⟨.ptr 97,1,8,[.bot],[]⟩),
 (96,⟨.str [(0,3),(1,3),(2,86),(74,89)],89,768,[.t (.lit (.int .i64 0)),.t (.lit (.int .i64 0)),.t (.lit (.int .i64 0)),.t (.lit (.int .i64 0)),.t (.lit (.int .i64 0)),.t (.lit (.int .i64 0)),.t (.lit (.int .i64 0)),.t (.lit (.int .i64 0)),.t (.lit (.int .i64 0)),.t (.lit (.int .i64 0)),.t (.lit (.string ⟨#[]⟩)),.t (.lit (.int .i64 0)),.t (.lit (.int .i64 0)),.t (.lit (.int .i64 0)),.t (.lit (.int .i64 0)),.t (.lit (.int .i64 0)),.t (.lit (.int .i64 0)),.t (.lit (.int .i64 0)),.t (.lit (.int .i64 0)),.nil,.t (.lit (.int .i64 0)),.t (.lit (.int .i64 0)),.t (.lit (.int .i64 0)),.t (.lit (.int .i64 0)),.t (.lit (.int .i64 0)),.t (.lit (.int .i64 0)),.t (.lit (.int .i64 0)),.t (.lit (.bool false)),.t (.lit (.bool false)),.t (.lit (.int .i64 0)),.t (.lit (.bool false)),.t (.lit (.int .i64 0)),.t (.lit (.int .i64 0)),.t (.lit (.int .i64 0)),.t (.lit (.int .i64 0)),.t (.lit (.int .i64 0)),.t (.lit (.int .i64 0)),.t (.lit (.int .i64 0)),.t (.lit (.int .i64 0)),.t (.lit (.int .i64 0)),.t (.lit (.string ⟨#[]⟩)),.t (.lit (.int .i64 0)),.t (.lit (.int .i64 0)),.t (.lit (.int .i64 0)),.t (.lit (.int .i64 0)),.t (.lit (.int .i64 0)),.t (.lit (.int .i64 0)),.t (.lit (.int .i64 0)),.t (.lit (.int .i64 0)),.t (.lit (.bool false)),.nil,.nil,.t (.lit (.int .i64 0)),.t (.lit (.int .i64 0)),.t (.lit (.int .i64 0)),.t (.lit (.int .i64 0)),.t (.lit (.int .i64 0)),.t (.lit (.int .i64 0)),.t (.lit (.int .i64 0)),.t (.lit (.int .i64 0)),.t (.lit (.int .i64 0)),.t (.lit (.string ⟨#[]⟩)),.t (.lit (.int .i64 0)),.t (.lit (.int .i64 0)),.t (.lit (.int .i64 0)),.t (.lit (.int .i64 0)),.t (.lit (.int .i64 0)),.t (.lit (.int .i64 0)),.t (.lit (.int .i64 0)),.t (.lit (.int .i64 0)),.t (.lit (.int .i64 0)),.t (.lit (.int .i64 0)),.t (.lit (.int .i64 0)),.t (.lit (.int .i64 0)),.t (.lit (.int .i64 0)),.t (.lit (.int .i64 0)),.t (.lit (.int .i64 0)),.t (.lit (.int .i64 0)),.t (.lit (.int .i64 0)),.t (.lit (.int .i64 0)),.t (.lit (.int .i64 0)),.t (.lit (.int .i64 0)),.t (.lit (.int .i64 0)),.t (.lit (.int .i64 0)),.t (.lit (.bool false)),.t (.lit (.bool false)),.t (.lit (.int .i64 0)),.t (.lit (.int .i64 0)),.t (.lit (.int .i64 0))],[]⟩),
 (97,⟨.str [(0,3),(1,3),(2,86),(74,89)],89,768,[.t (.lit (.int .i64 0)),.t (.lit (.int .i64 0)),.t (.lit (.int .i64 0)),.t (.lit (.int .i64 0)),.t (.lit (.int .i64 0)),.t (.lit (.int .i64 0)),.t (.lit (.int .i64 0)),.t (.lit (.int .i64 0)),.t (.lit (.int .i64 0)),.t (.lit (.int .i64 0)),.t (.lit (.string ⟨#[]⟩)),.t (.lit (.int .i64 0)),.t (.lit (.int .i64 0)),.t (.lit (.int .i64 0)),.t (.lit (.int .i64 0)),.t (.lit (.int .i64 0)),.t (.lit (.int .i64 0)),.t (.lit (.int .i64 0)),.t (.lit (.int .i64 0)),.nil,.t (.lit (.int .i64 0)),.t (.lit (.int .i64 0)),.t (.lit (.int .i64 0)),.t (.lit (.int .i64 0)),.t (.lit (.int .i64 0)),.t (.lit (.int .i64 0)),.t (.lit (.int .i64 0)),.t (.lit (.bool false)),.t (.lit (.bool false)),.t (.lit (.int .i64 0)),.t (.lit (.bool false)),.t (.lit (.int .i64 0)),.t (.lit (.int .i64 0)),.t (.lit (.int .i64 0)),.t (.lit (.int .i64 0)),.t (.lit (.int .i64 0)),.t (.lit (.int .i64 0)),.t (.lit (.int .i64 0)),.t (.lit (.int .i64 0)),.t (.lit (.int .i64 0)),.t (.lit (.string ⟨#[]⟩)),.t (.lit (.int .i64 0)),.t (.lit (.int .i64 0)),.t (.lit (.int .i64 0)),.t (.lit (.int .i64 0)),.t (.lit (.int .i64 0)),.t (.lit (.int .i64 0)),.t (.lit (.int .i64 0)),.t (.lit (.int .i64 0)),.t (.lit (.bool false)),.nil,.nil,.t (.lit (.int .i64 0)),.t (.lit (.int .i64 0)),.t (.lit (.int .i64 0)),.t (.lit (.int .i64 0)),.t (.lit (.int .i64 0)),.t (.lit (.int .i64 0)),.t (.lit (.int .i64 0)),.t (.lit (.int .i64 0)),.t (.lit (.int .i64 0)),.t (.lit (.string ⟨#[]⟩)),.t (.lit (.int .i64 0)),.t (.lit (.int .i64 0)),.t (.lit (.int .i64 0)),.t (.lit (.int .i64 0)),.t (.lit (.int .i64 0)),.t (.lit (.int .i64 0)),.t (.lit (.int .i64 0)),.t (.lit (.int .i64 0)),.t (.lit (.int .i64 0)),.t (.lit (.int .i64 0)),.t (.lit (.int .i64 0)),.t (.lit (.int .i64 0)),.t (.lit (.int .i64 0)),.t (.lit (.int .i64 0)),.t (.lit (.int .i64 0)),.t (.lit (.int .i64 0)),.t (.lit (.int .i64 0)),.t (.lit (.int .i64 0)),.t (.lit (.int .i64 0)),.t (.lit (.int .i64 0)),.t (.lit (.int .i64 0)),.t (.lit (.int .i64 0)),.t (.lit (.bool false)),.t (.lit (.bool false)),.t (.lit (.int .i64 0)),.t (.lit (.int .i64 0)),.t (.lit (.int .i64 0))],[]⟩),
 (98,⟨.ptr 100,1,8,[.bot],[]⟩),
 (99,⟨.str [(0,3),(1,3),(2,3),(3,3),(4,25),(5,73)],6,80,[.t (.lit (.int .i64 0)),.t (.lit (.int .i64 0)),.t (.lit (.int .i64 0)),.t (.lit (.int .i64 0)),.nil,.nil],[]⟩),
 (100,⟨.str [(0,3),(1,3),(2,3),(3,3),(4,25),(5,73)],6,80,[.t (.lit (.int .i64 0)),.t (.lit (.int .i64 0)),.t (.lit (.int .i64 0)),.t (.lit (.int .i64 0)),.nil,.nil],[]⟩),
 (111,⟨.slc 9,1,24,[.nil],[]⟩),
 (112,⟨.str [(0,3),(1,3),(2,111)],3,40,[.t (.lit (.int .i64 0)),.t (.lit (.int .i64 0)),.nil],[]⟩),
 (113,⟨.str [(0,3),(1,3),(2,111)],3,40,[.t (.lit (.int .i64 0)),.t (.lit (.int .i64 0)),.nil],[]⟩),
 (114,⟨.slc 86,1,24,[.nil],[]⟩),
 (115,⟨.str [(0,9),(1,4),(2,76),(9,3),(10,113),(13,3),(14,3),(15,3),(16,114)],17,176,[.t (.lit (.string ⟨#[]⟩)),.t (.lit (.bool false)),.t (.lit (.int .i64 0)),.t (.lit (.int .i64 0)),.t (.lit (.int .i64 0)),.t (.lit (.int .i64 0)),.t (.lit (.int .i64 0)),.t (.lit (.int .i64 0)),.t (.lit (.int .i64 0)),.t (.lit (.int .i64 0)),.t (.lit (.int .i64 0)),.t (.lit (.int .i64 0)),.nil,.t (.lit (.int .i64 0)),.t (.lit (.int .i64 0)),.t (.lit (.int .i64 0)),.nil],[]⟩),
 (116,⟨.str [(0,9),(1,4),(2,76),(9,3),(10,113),(13,3),(14,3),(15,3),(16,114)],17,176,[.t (.lit (.string ⟨#[]⟩)),.t (.lit (.bool false)),.t (.lit (.int .i64 0)),.t (.lit (.int .i64 0)),.t (.lit (.int .i64 0)),.t (.lit (.int .i64 0)),.t (.lit (.int .i64 0)),.t (.lit (.int .i64 0)),.t (.lit (.int .i64 0)),.t (.lit (.int .i64 0)),.t (.lit (.int .i64 0)),.t (.lit (.int .i64 0)),.nil,.t (.lit (.int .i64 0)),.t (.lit (.int .i64 0)),.t (.lit (.int .i64 0)),.nil],[]⟩),
 (136,⟨.str [(0,3),(1,3),(2,3),(3,9),(4,72)],20,176,[.t (.lit (.int .i64 0)),.t (.lit (.int .i64 0)),.t (.lit (.int .i64 0)),.t (.lit (.string ⟨#[]⟩)),.t (.lit (.int .i64 0)),.t (.lit (.int .i64 0)),.t (.lit (.int .i64 0)),.t (.lit (.int .i64 0)),.t (.lit (.int .i64 0)),.t (.lit (.int .i64 0)),.t (.lit (.int .i64 0)),.t (.lit (.string ⟨#[]⟩)),.t (.lit (.int .i64 0)),.t (.lit (.int .i64 0)),.t (.lit (.int .i64 0)),.t (.lit (.int .i64 0)),.t (.lit (.int .i64 0)),.t (.lit (.int .i64 0)),.t (.lit (.int .i64 0)),.t (.lit (.int .i64 0))],[.int,.int,.int,.str,.int,.int,.int,.int,.int,.int,.int,.str,.int,.int,.int,.int,.int,.int,.int,.int]⟩),
 (137,⟨.str [(0,3),(1,3),(2,3),(3,9),(4,72)],20,176,[.t (.lit (.int .i64 0)),.t (.lit (.int .i64 0)),.t (.lit (.int .i64 0)),.t (.lit (.string ⟨#[]⟩)),.t (.lit (.int .i64 0)),.t (.lit (.int .i64 0)),.t (.lit (.int .i64 0)),.t (.lit (.int .i64 0)),.t (.lit (.int .i64 0)),.t (.lit (.int .i64 0)),.t (.lit (.int .i64 0)),.t (.lit (.string ⟨#[]⟩)),.t (.lit (.int .i64 0)),.t (.lit (.int .i64 0)),.t (.lit (.int .i64 0)),.t (.lit (.int .i64 0)),.t (.lit (.int .i64 0)),.t (.lit (.int .i64 0)),.t (.lit (.int .i64 0)),.t (.lit (.int .i64 0))],[.int,.int,.int,.str,.int,.int,.int,.int,.int,.int,.int,.str,.int,.int,.int,.int,.int,.int,.int,.int]⟩),
 (149,⟨.str [(0,3),(1,3),(2,72)],18,152,[.t (.lit (.int .i64 0)),.t (.lit (.int .i64 0)),.t (.lit (.int .i64 0)),.t (.lit (.int .i64 0)),.t (.lit (.int .i64 0)),.t (.lit (.int .i64 0)),.t (.lit (.int .i64 0)),.t (.lit (.int .i64 0)),.t (.lit (.int .i64 0)),.t (.lit (.string ⟨#[]⟩)),.t (.lit (.int .i64 0)),.t (.lit (.int .i64 0)),.t (.lit (.int .i64 0)),.t (.lit (.int .i64 0)),.t (.lit (.int .i64 0)),.t (.lit (.int .i64 0)),.t (.lit (.int .i64 0)),.t (.lit (.int .i64 0))],[.int,.int,.int,.int,.int,.int,.int,.int,.int,.str,.int,.int,.int,.int,.int,.int,.int,.int]⟩),
 (150,⟨.str [(0,3),(1,3),(2,72)],18,152,[.t (.lit (.int .i64 0)),.t (.lit (.int .i64 0)),.t (.lit (.int .i64 0)),.t (.lit (.int .i64 0)),.t (.lit (.int .i64 0)),.t (.lit (.int .i64 0)),.t (.lit (.int .i64 0)),.t (.lit (.int .i64 0)),.t (.lit (.int .i64 0)),.t (.lit (.string ⟨#[]⟩)),.t (.lit (.int .i64 0)),.t (.lit (.int .i64 0)),.t (.lit (.int .i64 0)),.t (.lit (.int .i64 0)),.t (.lit (.int .i64 0)),.t (.lit (.int .i64 0)),.t (.lit (.int .i64 0)),.t (.lit (.int .i64 0))],[.int,.int,.int,.int,.int,.int,.int,.int,.int,.str,.int,.int,.int,.int,.int,.int,.int,.int]⟩),
 (151,⟨.str [(0,3),(1,3),(2,3),(3,72)],19,160,[.t (.lit (.int .i64 0)),.t (.lit (.int .i64 0)),.t (.lit (.int .i64 0)),.t (.lit (.int .i64 0)),.t (.lit (.int .i64 0)),.t (.lit (.int .i64 0)),.t (.lit (.int .i64 0)),.t (.lit (.int .i64 0)),.t (.lit (.int .i64 0)),.t (.lit (.int .i64 0)),.t (.lit (.string ⟨#[]⟩)),.t (.lit (.int .i64 0)),.t (.lit (.int .i64 0)),.t (.lit (.int .i64 0)),.t (.lit (.int .i64 0)),.t (.lit (.int .i64 0)),.t (.lit (.int .i64 0)),.t (.lit (.int .i64 0)),.t (.lit (.int .i64 0))],[.int,.int,.int,.int,.int,.int,.int,.int,.int,.int,.str,.int,.int,.int,.int,.int,.int,.int,.int]⟩),
 (152,⟨.str [(0,3),(1,3),(2,3),(3,72)],19,160,[.t (.lit (.int .i64 0)),.t (.lit (.int .i64 0)),.t (.lit (.int .i64 0)),.t (.lit (.int .i64 0)),.t (.lit (.int .i64 0)),.t (.lit (.int .i64 0)),.t (.lit (.int .i64 0)),.t (.lit (.int .i64 0)),.t (.lit (.int .i64 0)),.t (.lit (.int .i64 0)),.t (.lit (.string ⟨#[]⟩)),.t (.lit (.int .i64 0)),.t (.lit (.int .i64 0)),.t (.lit (.int .i64 0)),.t (.lit (.int .i64 0)),.t (.lit (.int .i64 0)),.t (.lit (.int .i64 0)),.t (.lit (.int .i64 0)),.t (.lit (.int .i64 0))],[.int,.int,.int,.int,.int,.int,.int,.int,.int,.int,.str,.int,.int,.int,.int,.int,.int,.int,.int]⟩),
 (153,⟨.str [(0,3),(1,150),(19,152),(38,3),(39,3),(40,9),(41,72),(57,42),(63,73)],64,560,[.t (.lit (.int .i64 0)),.t (.lit (.int .i64 0)),.t (.lit (.int .i64 0)),.t (.lit (.int .i64 0)),.t (.lit (.int .i64 0)),.t (.lit (.int .i64 0)),.t (.lit (.int .i64 0)),.t (.lit (.int .i64 0)),.t (.lit (.int .i64 0)),.t (.lit (.int .i64 0)),.t (.lit (.string ⟨#[]⟩)),.t (.lit (.int .i64 0)),.t (.lit (.int .i64 0)),.t (.lit (.int .i64 0)),.t (.lit (.int .i64 0)),.t (.lit (.int .i64 0)),.t (.lit (.int .i64 0)),.t (.lit (.int .i64 0)),.t (.lit (.int .i64 0)),.t (.lit (.int .i64 0)),.t (.lit (.int .i64 0)),.t (.lit (.int .i64 0)),.t (.lit (.int .i64 0)),.t (.lit (.int .i64 0)),.t (.lit (.int .i64 0)),.t (.lit (.int .i64 0)),.t (.lit (.int .i64 0)),.t (.lit (.int .i64 0)),.t (.lit (.int .i64 0)),.t (.lit (.string ⟨#[]⟩)),.t (.lit (.int .i64 0)),.t (.lit (.int .i64 0)),.t (.lit (.int .i64 0)),.t (.lit (.int .i64 0)),.t (.lit (.int .i64 0)),.t (.lit (.int .i64 0)),.t (.lit (.int .i64 0)),.t (.lit (.int .i64 0)),.t (.lit (.int .i64 0)),.t (.lit (.int .i64 0)),.t (.lit (.string ⟨#[]⟩)),.t (.lit (.int .i64 0)),.t (.lit (.int .i64 0)),.t (.lit (.int .i64 0)),.t (.lit (.int .i64 0)),.t (.lit (.int .i64 0)),.t (.lit (.int .i64 0)),.t (.lit (.int .i64 0)),.t (.lit (.string ⟨#[]⟩)),.t (.lit (.int .i64 0)),.t (.lit (.int .i64 0)),.t (.lit (.int .i64 0)),.t (.lit (.int .i64 0)),.t (.lit (.int .i64 0)),.t (.lit (.int .i64 0)),.t (.lit (.int .i64 0)),.t (.lit (.int .i64 0)),.t (.lit (.int .i64 0)),.t (.lit (.int .i64 0)),.t (.lit (.int .i64 0)),.t (.lit (.int .i64 0)),.t (.lit (.int .i64 0)),.t (.lit (.int .i64 0)),.nil],[]⟩),
 (154,⟨.str [(0,3),(1,150),(19,152),(38,3),(39,3),(40,9),(41,72),(57,42),(63,73)],64,560,[.t (.lit (.int .i64 0)),.t (.lit (.int .i64 0)),.t (.lit (.int .i64 0)),.t (.lit (.int .i64 0)),.t (.lit (.int .i64 0)),.t (.lit (.int .i64 0)),.t (.lit (.int .i64 0)),.t (.lit (.int .i64 0)),.t (.lit (.int .i64 0)),.t (.lit (.int .i64 0)),.t (.lit (.string ⟨#[]⟩)),.t (.lit (.int .i64 0)),.t (.lit (.int .i64 0)),.t (.lit (.int .i64 0)),.t (.lit (.int .i64 0)),.t (.lit (.int .i64 0)),.t (.lit (.int .i64 0)),.t (.lit (.int .i64 0)),.t (.lit (.int .i64 0)),.t (.lit (.int .i64 0)),.t (.lit (.int .i64 0)),.t (.lit (.int .i64 0)),.t (.lit (.int .i64 0)),.t (.lit (.int .i64 0)),.t (.lit (.int .i64 0)),.t (.lit (.int .i64 0)),.t (.lit (.int .i64 0)),.t (.lit (.int .i64 0)),.t (.lit (.int .i64 0)),.t (.lit (.string ⟨#[]⟩)),.t (.lit (.int .i64 0)),.t (.lit (.int .i64 0)),.t (.lit (.int .i64 0)),.t (.lit (.int .i64 0)),.t (.lit (.int .i64 0)),.t (.lit (.int .i64 0)),.t (.lit (.int .i64 0)),.t (.lit (.int .i64 0)),.t (.lit (.int .i64 0)),.t (.lit (.int .i64 0)),.t (.lit (.string ⟨#[]⟩)),.t (.lit (.int .i64 0)),.t (.lit (.int .i64 0)),.t (.lit (.int .i64 0)),.t (.lit (.int .i64 0)),.t (.lit (.int .i64 0)),.t (.lit (.int .i64 0)),.t (.lit (.int .i64 0)),.t (.lit (.string ⟨#[]⟩)),.t (.lit (.int .i64 0)),.t (.lit (.int .i64 0)),.t (.lit (.int .i64 0)),.t (.lit (.int .i64 0)),.t (.lit (.int .i64 0)),.t (.lit (.int .i64 0)),.t (.lit (.int .i64 0)),.t (.lit (.int .i64 0)),.t (.lit (.int .i64 0)),.t (.lit (.int .i64 0)),.t (.lit (.int .i64 0)),.t (.lit (.int .i64 0)),.t (.lit (.int .i64 0)),.t (.lit (.int .i64 0)),.nil],[]⟩),
 (156,⟨.str [(0,4),(1,4),(2,72)],18,144,[.t (.lit (.bool false)),.t (.lit (.bool false)),.t (.lit (.int .i64 0)),.t (.lit (.int .i64 0)),.t (.lit (.int .i64 0)),.t (.lit (.int .i64 0)),.t (.lit (.int .i64 0)),.t (.lit (.int .i64 0)),.t (.lit (.int .i64 0)),.t (.lit (.string ⟨#[]⟩)),.t (.lit (.int .i64 0)),.t (.lit (.int .i64 0)),.t (.lit (.int .i64 0)),.t (.lit (.int .i64 0)),.t (.lit (.int .i64 0)),.t (.lit (.int .i64 0)),.t (.lit (.int .i64 0)),.t (.lit (.int .i64 0))],[.bool,.bool,.int,.int,.int,.int,.int,.int,.int,.str,.int,.int,.int,.int,.int,.int,.int,.int]⟩),
 (157,⟨.str [(0,4),(1,4),(2,72)],18,144,[.t (.lit (.bool false)),.t (.lit (.bool false)),.t (.lit (.int .i64 0)),.t (.lit (.int .i64 0)),.t (.lit (.int .i64 0)),.t (.lit (.int .i64 0)),.t (.lit (.int .i64 0)),.t (.lit (.int .i64 0)),.t (.lit (.int .i64 0)),.t (.lit (.string ⟨#[]⟩)),.t (.lit (.int .i64 0)),.t (.lit (.int .i64 0)),.t (.lit (.int .i64 0)),.t (.lit (.int .i64 0)),.t (.lit (.int .i64 0)),.t (.lit (.int .i64 0)),.t (.lit (.int .i64 0)),.t (.lit (.int .i64 0))],[.bool,.bool,.int,.int,.int,.int,.int,.int,.int,.str,.int,.int,.int,.int,.int,.int,.int,.int]⟩),
 (199,⟨.int .u64,1,8,[.t (.lit (.int .u64 0))],[]⟩),
 (215,⟨.int .i64,1,8,[.t (.lit (.int .i64 0))],[]⟩),
 (222,⟨.int .u32,1,4,[.t (.lit (.int .u32 0))],[]⟩),
 (235,⟨.int .u64,1,8,[.t (.lit (.int .u64 0))],[]⟩),
 (239,⟨.ptr 3,1,8,[.bot],[]⟩),
 (243,⟨.slc 5,1,24,[.nil],[]⟩),
 (244,⟨.ptr 235,1,8,[.bot],[]⟩),
 (254,⟨.int .u8,1,1,[.t (.lit (.int .u8 0))],[]⟩),
 (255,⟨.int .u8,1,1,[.t (.lit (.int .u8 0))],[]⟩),
 (257,⟨.ptr 5,1,8,[.bot],[]⟩),
 (258,⟨.int .i32,1,4,[.t (.lit (.int .i32 0))],[]⟩),
 (259,⟨.int .i32,1,4,[.t (.lit (.int .i32 0))],[]⟩)]
def T (t:Nat):Option Ty:=lk tab t
theorem tabOk:TabOk Tryz.prog T:=tabOk_of Tryz.prog tab (by kernel_rfl) (by kernel_rfl)
end Go.Proofs.YtpibcdnagnjokaaGreat
end
section
namespace Cg
open Go Go.RowKit Go.Sort Go.Lib
section
variable {P:Program} {T:Nat→Option Ty} {N:Nat}
def Eqs (e:Ex) (s:St):Ex→St→Prop:=fun e2 s2=>e2=e∧s2=s
section
variable (P:Program) (T:Nat→Option Ty) (N:Nat)
def Run (c:Code) (s:St) (e:Ex) (s':St):Prop:=∀ w0 (O:Gst) [OFree O],Tp P T N w0 O c s (Eqs e s')
def TpX (c:Code) (s:St) (Q:Ex→St→Prop):Prop:=∃ e s',Run P T N c s e s'∧Q e s'
inductive Rnd (c:Code) (e:Ex) (s':St):Nat→St→Prop
  | stop {s:St}:Run P T N c s e s'→e≠.nrm→Rnd c e s' 0 s
  | next {n:Nat} {s s1 s2:St}:Run P T N c s .nrm s1→Wk s1 s2→Rnd c e s' n s2→Rnd c e s' (n+1) s
def LpX (c:Code) (s:St) (Q:Ex→St→Prop):Prop:=∃ n e s',Rnd P T N c e s' n s∧Q e s'
def WPrX (cs:List Nat) (id:Nat) (ops:Array Oper) (d:Bool) (st:St) (Q:Ex→St→Prop):Prop:=match st with
  | ⟨sl0,bx0,rw0,nx0⟩=>match cs.contains id with
    | true=>TpX P T N (.region id ops d) ⟨sl0,bx0,rw0,nx0⟩ Q
    | false=>match !d||modsD T ⟨sl0,bx0,rw0,nx0⟩ (befs ops.toList []) ops.toList with
      | true=>WPops P T ops nx0 0 ops.toList ⟨sl0,bx0,rw0,nx0⟩ fun st'=>match st' with
        | ⟨sl,bx,rw,_⟩=>forceN (nx0+128*ops.size) fun nx=>Q .nrm ⟨sl,bx,rw,nx⟩
      | false=>False
def WPX (cs:List Nat) (c:Code):St→(Ex→St→Prop)→Prop:=
  Code.rec (motive:=fun _=>St→(Ex→St→Prop)→Prop) (fun st Q=>Q .nrm st) (fun id ops d st Q=>WPrX P T N cs id ops d st Q) (fun _ _ iha ihb st Q=>iha st (nextQ (fun st'=>ihb st' Q) Q))
    (fun c _ _ iha ihb st Q=>WPc c st (iha st Q) (ihb st Q)) (fun id _ ih st Q=>ih st (blkQ id Q)) (fun c _ st Q=>LpX P T N c st Q) (fun _ _ _ _ _ _ _ _=>False) (fun id st Q=>Q (.exit id) st)
    (fun _ _ _ _=>False) (fun _ _ _=>False) (fun _ _ _=>False) (fun st Q=>Q .ret st) (fun _ _ _=>False) c
end
theorem Run.skip (s:St):Run P T N .skip s .nrm s:=fun _ _ _ _ _ E _ _ r hb=>wp_skip ⟨s,E,⟨rfl,rfl⟩,r,hb⟩
theorem Run.ret (s:St):Run P T N .ret s .ret s:=fun _ _ _ _ _ E _ _ r hb=>wp_ret ⟨s,E,⟨rfl,rfl⟩,r,hb⟩
theorem Run.exit (id:Nat) (s:St):Run P T N (.exit id) s (.exit id) s:=fun _ _ _ _ _ E _ _ r hb=>wp_exit ⟨s,E,⟨rfl,rfl⟩,r,hb⟩
theorem Run.seq {x y:Code} {s s1 s':St} {e:Ex} (h:Run P T N x s .nrm s1) (k:Run P T N y s1 e s'):Run P T N (.seq x y) s e s':=fun w0 O _ hT hc E a w r hb=>by
  unfold codeOk at hc
  rw [Bool.and_eq_true] at hc
  refine wp_seq (wp_mono (h w0 O hT hc.1 E a w r hb) fun e' a' w' hp=>?_)
  cases e' with
  | normal=>
    obtain ⟨st',E',⟨_,rfl⟩,r',hb'⟩:=hp
    exact k w0 O hT hc.2 E' a' w' r' hb'
  | exit id=>
    obtain ⟨st',E',⟨hq,_⟩,r',hb'⟩:=hp
    cases hq
  | ret=>
    obtain ⟨st',E',⟨hq,_⟩,r',hb'⟩:=hp
    cases hq
  | goto l=>exact hp.elim
  | panic ch=>exact hp.elim
  | outgrown=>exact hp.elim
theorem Run.out {x y:Code} {s s':St} {e:Ex} (h:Run P T N x s e s') (he:e≠.nrm):Run P T N (.seq x y) s e s':=fun w0 O _ hT hc E a w r hb=>by
  unfold codeOk at hc
  rw [Bool.and_eq_true] at hc
  refine wp_seq (wp_mono (h w0 O hT hc.1 E a w r hb) fun e' a' w' hp=>?_)
  cases e' with
  | normal=>
    obtain ⟨st',E',⟨hq,_⟩,r',hb'⟩:=hp
    exact absurd hq.symm he
  | exit id=>exact hp
  | ret=>exact hp
  | goto l=>exact hp.elim
  | panic ch=>exact hp.elim
  | outgrown=>exact hp.elim
theorem Run.cond {c:Operand} {x y:Code} {s s':St} {e:Ex} {t:Bool} (ht:ev s c=.c (.t (.lit (.bool t)))) (h1:t=true→Run P T N x s e s') (h2:t=false→Run P T N y s e s'):Run P T N (.cond c x y) s e s':=fun w0 O _ hT hc E a w r hb=>by
  unfold codeOk at hc
  rw [Bool.and_eq_true] at hc
  have hv:=ev_rv r c
  rw [ht] at hv
  refine wp_cond_split (rv_lit hv) (fun e=>?_) (fun e=>?_)
  · exact h1 e w0 O hT hc.1 E a w r hb
  · exact h2 e w0 O hT hc.2 E a w r hb
theorem Run.block {id:Nat} {c:Code} {s s':St} {e e':Ex} (h:Run P T N c s e s') (he:e'=match e with
    | .exit i=>bif Nat.beq i id then .nrm else .exit i
    | e=>e):Run P T N (.block id c) s e' s':=fun w0 O _ hT hc E a w r hb=>by
  unfold codeOk at hc
  refine wp_block (wp_mono (h w0 O hT hc E a w r hb) fun e2 a' w' hp=>?_)
  cases e2 with
  | normal=>
    obtain ⟨st',E',⟨rfl,rfl⟩,r',hb'⟩:=hp
    exact ⟨st',E',⟨he.symm,rfl⟩,r',hb'⟩
  | exit i=>
    obtain ⟨st',E',⟨rfl,rfl⟩,r',hb'⟩:=hp
    simp only at he
    show (if i=id then cpost w0 N O (Eqs e' st') .normal a' w' else cpost w0 N O (Eqs e' st') (.exit i) a' w')
    by_cases hi:i=id
    · subst hi
      rw [show Nat.beq i i=true by simp,cond_true] at he
      rw [if_pos rfl]
      exact ⟨st',E',⟨he.symm,rfl⟩,r',hb'⟩
    · rw [show Nat.beq i id=false by
        cases hb:Nat.beq i id
        · rfl
        · exact absurd (Nat.eq_of_beq_eq_true hb) hi,cond_false] at he
      rw [if_neg hi]
      exact ⟨st',E',⟨he.symm,rfl⟩,r',hb'⟩
  | ret=>
    obtain ⟨st',E',⟨rfl,rfl⟩,r',hb'⟩:=hp
    exact ⟨st',E',⟨he.symm,rfl⟩,r',hb'⟩
  | goto l=>exact hp.elim
  | panic ch=>exact hp.elim
  | outgrown=>exact hp.elim
theorem Run.wk {c:Code} {s s1 s':St} {e:Ex} (hw:Wk s s1) (h:Run P T N c s1 e s'):Run P T N c s e s':=fun w0 O _=>Tp.wk hw (h w0 O)
theorem Rnd.wk {c:Code} {s s1 s':St} {e:Ex} {n:Nat} (hw:Wk s s1) (h:Rnd P T N c e s' n s1):Rnd P T N c e s' n s:=by
  cases h with
  | stop h1 h2=>exact .stop (h1.wk hw) h2
  | next h1 h2 h3=>exact .next (h1.wk hw) h2 h3
theorem TpX.wk {c:Code} {s s1:St} {Q:Ex→St→Prop} (hw:Wk s s1) (h:TpX P T N c s1 Q):TpX P T N c s Q:=by
  obtain ⟨e,s',h1,h2⟩:=h
  exact ⟨e,s',h1.wk hw,h2⟩
theorem LpX.wk {c:Code} {s s1:St} {Q:Ex→St→Prop} (hw:Wk s s1) (h:LpX P T N c s1 Q):LpX P T N c s Q:=by
  obtain ⟨n,e,s',h1,h2⟩:=h
  exact ⟨n,e,s',h1.wk hw,h2⟩
theorem TpX.frz (ms:List Nat) {c:Code} {s:St} {Q:Ex→St→Prop} (h:TpX P T N c (Cg.frz ms s) Q):TpX P T N c s Q:=h.wk (Wk.frz ms s)
theorem Rnd.run {c:Code} {s s':St} {e:Ex} {n:Nat} (h:Rnd P T N c e s' n s):Run P T N (.loop c) s e s':=fun w0 O _ hT hc E a w r hb=>by
  unfold codeOk at hc
  refine wp_loop_n (fun n a w=>∃ x E,Rnd P T N c e s' n x∧RepS O E w w0.heap.size N x a∧Below w0.heap.size w0 w) (n:=n) ⟨s,E,h,r,hb⟩ ?_
  rintro n a w ⟨x,E,hx,r,hb⟩
  cases hx with
  | stop h1 h2=>
    refine wp_mono (h1 w0 O hT hc E a w r hb) fun e2 a' w' hp=>?_
    cases e2 with
    | normal=>
      obtain ⟨st',E',⟨hq,_⟩,_⟩:=hp
      exact absurd hq.symm h2
    | exit id=>exact hp
    | ret=>exact hp
    | goto l=>exact hp.elim
    | panic ch=>exact hp.elim
    | outgrown=>exact hp.elim
  | @next n s s1 s2 h1 h2 h3=>
    refine wp_mono (h1 w0 O hT hc E a w r hb) fun e2 a' w' hp=>?_
    cases e2 with
    | normal=>
      obtain ⟨st',E',⟨_,rfl⟩,r',hb'⟩:=hp
      obtain ⟨E2,r2⟩:=h2 O E' w' _ N a' r'
      exact ⟨n,Nat.lt_succ_self n,s2,E2,h3,r2,hb'⟩
    | exit id=>
      obtain ⟨st',E',⟨hq,_⟩,_⟩:=hp
      cases hq
    | ret=>
      obtain ⟨st',E',⟨hq,_⟩,_⟩:=hp
      cases hq
    | goto l=>exact hp.elim
    | panic ch=>exact hp.elim
    | outgrown=>exact hp.elim
theorem LpX.tpx {c:Code} {s:St} {Q:Ex→St→Prop} (h:LpX P T N c s Q):TpX P T N (.loop c) s Q:=by
  obtain ⟨n,e,s',h1,h2⟩:=h
  exact ⟨e,s',h1.run,h2⟩
theorem Run.region {id:Nat} {ops:Array Oper} {d:Bool} {s:St} {K:St→Prop} (hmods:(!d||modsD T s (befs ops.toList []) ops.toList)=true) (h:WPops P T ops s.nx 0 ops.toList s K):∃ sl bx rw nx,K ⟨sl,bx,rw,nx⟩∧Run P T N (.region id ops d) s .nrm ⟨sl,bx,rw,s.nx+128*ops.size⟩:=by
  obtain ⟨L,hL,hp,⟨sl,bx,rw',nx⟩,hK,he⟩:=ops_path ops.toList [] s _ (Eqv.refl _) (fun j o d hj=>by simp at hj) h
  rw [List.nil_append] at hp he
  refine ⟨sl,bx,rw',nx,hK,fun w0 O _ hT hc E a w r hb=>?_⟩
  have hreg:regOk N ops d=true:=hc
  have k0:=r.kb
  have r0:RepM O E w w0.heap.size N (s.nx+128*ops.size) s a:=r.mono (by omega)
  have fin:∀ E' w' a',RepM O E' w' w0.heap.size N (s.nx+128*ops.size) (appAll s L) a'→Below w0.heap.size w0 w'→cpost w0 N O (Eqs .nrm ⟨sl,bx,rw',s.nx+128*ops.size⟩) .normal a' w':=fun E' w' a' r' hb'=>by
    refine ⟨_,E',⟨rfl,rfl⟩,?_,hb'⟩
    have he':Eqv (appAll s L) ⟨sl,bx,rw',s.nx+128*ops.size⟩:=⟨he.sl,he.bx,he.rw⟩
    exact he'.rep r'
  cases d with
  | false=>
    refine wp_region ?_
    rw [List.range_eq_range']
    exact listed_sound hT hreg hL hp k0 (Nat.le_refl _) ops.size 0 E w a (by omega) (by simpa [appAll] using r0) fun E' w' a' r' hb'=>fin E' w' a' r' (hb.trans hb')
  | true=>
    refine wp_region_any hT.mixed ?_
    have hrep:∀ i,(Array.replicate ops.size false).getD i false=false:=fun i=>by
      rw [Array.getD_eq_getD_getElem?]
      cases hq:(Array.replicate ops.size false)[i]? with
      | none=>rfl
      | some x=>
        rw [Array.getElem?_replicate] at hq
        split at hq
        · cases hq;rfl
        · cases hq
    have hsel:stD s L (fun i=>(Array.replicate ops.size false).getD i false)=s:=by
      unfold stD
      rw [sel_none fun k _=>hrep _]
      rfl
    have hw:({ w with drawn:=w.drawn+1 }:World).heap=w.heap:=rfl
    refine drawn_sound hT hreg (by simpa using hmods) hL hp k0 (Nat.le_refl _) ops.size _ E _ a (by simp) ?_ ⟨?_,?_,?_,?_⟩ fun E' w' a' r' hb'=>fin E' w' a' r' (hb.trans ⟨hb'.os,hb'.tape,hb'.output,hb'.size,hb'.block⟩)
    · have:∀ n,cnt (fun i=>(Array.replicate ops.size false).getD i false) n≤n:=fun n=>by
        induction n with
        | zero=>exact Nat.le_refl _
        | succ n ih=>
          unfold cnt
          rw [hrep n]
          simp only [cond_false]
          omega
      exact this _
    · rw [hsel]
      exact r0.heap hw
    · intro j o hj hD
      have hD:(Array.replicate ops.size false).getD j false=true:=hD
      rw [hrep] at hD
      cases hD
    · intro b cs hcs
      rw [hsel] at hcs
      exact .inl (k0.1 b cs hcs)
    · intro b cs hcs
      rw [hsel] at hcs
      exact .inl (k0.2 b cs hcs)
theorem TpX.run (cs:List Nat):∀ {c:Code} {st:St} {Q:Ex→St→Prop},WPX P T N cs c st Q→TpX P T N c st Q
  | .skip,st,Q,h=>⟨_,_,Run.skip st,h⟩
  | .region id ops d,⟨sl0,bx0,rw0,nx0⟩,Q,h=>by
    have h:WPrX P T N cs id ops d ⟨sl0,bx0,rw0,nx0⟩ Q:=h
    unfold WPrX at h
    simp only at h
    cases hc:cs.contains id with
    | true=>rw [hc] at h;exact h
    | false=>
      rw [hc] at h
      simp only at h
      split at h
      · rename_i hm
        obtain ⟨sl,bx,rw',nx,hK,hr⟩:=Run.region (N:=N) (id:=id) (d:=d) (s:=⟨sl0,bx0,rw0,nx0⟩) hm h
        simp only [forceN_eq] at hK
        exact ⟨_,_,hr,hK⟩
      · exact h.elim
  | .seq x y,st,Q,h=>by
    have h:WPX P T N cs x st (nextQ (fun st'=>WPX P T N cs y st' Q) Q):=h
    obtain ⟨e,s1,h1,h2⟩:=TpX.run cs h
    cases e with
    | nrm=>
      obtain ⟨e2,s2,h3,h4⟩:=TpX.run cs (show WPX P T N cs y s1 Q from h2)
      exact ⟨e2,s2,h1.seq h3,h4⟩
    | exit id=>exact ⟨_,_,h1.out (by simp),h2⟩
    | ret=>exact ⟨_,_,h1.out (by simp),h2⟩
  | .cond c x y,st,Q,h=>by
    have h:WPc c st (WPX P T N cs x st Q) (WPX P T N cs y st Q):=h
    unfold WPc at h
    split at h
    · rename_i t ht
      cases t with
      | true=>
        obtain ⟨e,s',h1,h2⟩:=TpX.run cs (show WPX P T N cs x st Q from h)
        exact ⟨e,s',Run.cond ht (fun _=>h1) (fun h=>by cases h),h2⟩
      | false=>
        obtain ⟨e,s',h1,h2⟩:=TpX.run cs (show WPX P T N cs y st Q from h)
        exact ⟨e,s',Run.cond ht (fun h=>by cases h) (fun _=>h1),h2⟩
    · exact h.elim
  | .block id c,st,Q,h=>by
    have h:WPX P T N cs c st (blkQ id Q):=h
    obtain ⟨e,s',h1,h2⟩:=TpX.run cs h
    cases e with
    | nrm=>exact ⟨_,_,h1.block rfl,h2⟩
    | ret=>exact ⟨_,_,h1.block rfl,h2⟩
    | exit i=>
      unfold blkQ at h2
      simp only at h2
      cases hb:Nat.beq i id with
      | true=>
        rw [hb] at h2
        exact ⟨.nrm,s',h1.block (by simp only [hb,cond_true]),h2⟩
      | false=>
        rw [hb] at h2
        exact ⟨.exit i,s',h1.block (by simp only [hb,cond_false]),h2⟩
  | .loop c,st,Q,h=>LpX.tpx h
  | .exit id,st,Q,h=>⟨_,_,Run.exit id st,h⟩
  | .ret,st,Q,h=>⟨_,_,Run.ret st,h⟩
  | .label _,_,_,h=>h.elim
  | .goto _,_,_,h=>h.elim
  | .rangeFunc ..,_,_,h=>h.elim
  | .refuse _,_,_,h=>h.elim
theorem LpX.once {c:Code} {s:St} {Q:Ex→St→Prop} (h:TpX P T N c s (fun e s1=>match e with
    | .nrm=>LpX P T N c s1 Q
    | e=>Q e s1)):LpX P T N c s Q:=by
  obtain ⟨e,s1,h1,h2⟩:=h
  cases e with
  | nrm=>
    obtain ⟨n,e,s',h3,h4⟩:=h2
    exact ⟨n+1,e,s',.next h1 (Wk.refl _) h3,h4⟩
  | exit id=>exact ⟨0,_,_,.stop h1 (by simp),h2⟩
  | ret=>exact ⟨0,_,_,.stop h1 (by simp),h2⟩
theorem LpX.loop {c:Code} {st:St} {Q:Ex→St→Prop} {α:Type} (I:α→St) (ok:α→Prop) (μ:α→Nat) (x0:α) (h0:Wk st (I x0)) (hok:ok x0)
   (round:∀ x,ok x→TpX P T N c (I x) (fun e st'=>match e with
     | .nrm=>∃ y,ok y∧μ y < μ x∧Wk st' (I y)
     | e=>Q e st')):LpX P T N c st Q:=by
  have key:∀ n x,μ x=n→ok x→LpX P T N c (I x) Q:=by
    intro n
    induction n using Nat.strongRecOn with
    | _ n ih=>
      intro x hn hx
      obtain ⟨e,s1,h1,h2⟩:=round x hx
      cases e with
      | nrm=>
        obtain ⟨y,h3,h4,h5⟩:=h2
        obtain ⟨k,e,s',h6,h7⟩:=ih (μ y) (by omega) y rfl h3
        exact ⟨k+1,e,s',.next h1 h5 h6,h7⟩
      | exit id=>exact ⟨0,_,_,.stop h1 (by simp),h2⟩
      | ret=>exact ⟨0,_,_,.stop h1 (by simp),h2⟩
  exact (key _ x0 rfl hok).wk h0
theorem ctx_of {f:FuncId} {fn:Func} {c:Code} {ars:List AV} {G:AV→List Row→Prop} (hf:P.funcs[f]? = some fn) (hb:fn.body=some c) (he:Ent P f) (hT:TabOk P T) (hc:codeOk fn.ntmps c=true) (hn:Nat.ble ars.length fn.ntmps=true) (hpl:ars.all AV.plain=true)
    (h:TpX P T fn.ntmps c ⟨numA 0 ars,[],[],0⟩ (fun e st=>∃ rv rs,G rv rs∧(Nat.ble rs.length 128=true∧resB rv rs=true)∧FinE T fn rv rs e st)):∃ rv rs,G rv rs∧Ct P f ars rv rs false:=by
  obtain ⟨e,s',h1,rv,rs,h2,h3,h4⟩:=h
  exact ⟨rv,rs,h2,ct_of hf hb he hT hc hn hpl h3.1 h3.2 fun w0 O _=>Tp.mono (h1 w0 O) fun e2 s2 ⟨a,b⟩=>by subst a b;exact h4⟩
end
section
variable {P:Program} {T:Nat→Option Ty} {O:Gst}
def numI {α:Type}:Nat→List α→List (Nat × α)
  | _,[]=>[]
  | i,x :: r=>(i,x) :: numI (i+1) r
theorem lk_numI {α:Type}:∀ (l:List α) (i t:Nat),lk (numI i l) t=if i≤t then l[t - i]? else none
  | [],i,t=>by simp [numI,lk]
  | a :: l,i,t=>by
    rw [numI,lk_cons,lk_numI l (i+1) t]
    by_cases h:i=t
    · subst h
      simp
    · rw [if_neg h]
      by_cases h2:i≤t
      · rw [if_pos h2,if_pos (by omega),show t - i=t - (i+1)+1 by omega,List.getElem?_cons_succ]
      · rw [if_neg h2,if_neg (by omega)]
section
variable (st:St) (m:List (Nat × Nat)) (rw':List (Nat × Row)) (bx':List (Nat × List Ce))
def AvN (v:AV):AV→Prop
  | .eptr j u k i o=>(match v,lk m j,lk rw' j with
    | .eptr τ ver k' i' o',some τ',some R'=>τ'=τ∧R'.ver=u∧(match lk st.rw τ with
      | some R=>R.ver=ver
      | none=>False)∧k'=k∧i'=i∧o'=o
    | _,_,_=>False)
  | v'=>AvM st m rw' bx' v v'
def ResN (T:Nat→Option Ty):List ResultVar→List AV→Prop
  | [],[]=>True
  | x :: xs,r :: rs=>(match resA T st x with
    | some v=>AvN st m rw' bx' v r
    | none=>False)∧ResN T xs rs
  | _,_=>False
def VerM:Nat→List Row→Prop
  | _,[]=>True
  | j,R :: Rs=>(match R.ver with
    | 0=>lk m j=some j∧(match lk st.rw j with
      | some R'=>R'.ver=0
      | none=>False)
    | 1=>True
    | _=>False)∧VerM (j+1) Rs
end
def FinM (T:Nat→Option Ty) (fn:Func) (rv:AV) (ob:List (List Ce)) (orr nr:List Row) (e:Ex) (st:St):Prop:=match e with
  | .exit _=>False
  | _=>∃ m,(mOk m=true∧RwM st m (numR 0 0 (orr++nr))∧VerM st m 0 orr∧BxM st m (numR 0 0 (orr++nr)) (numI 0 ob))∧(match fn.results.toList with
    | [x]=>(match resA T st x with
      | some v=>AvN st m (numR 0 0 (orr++nr)) (numI 0 ob) v rv
      | none=>False)
    | xs=>(match rv with
      | .tup ys=>ResN st m (numR 0 0 (orr++nr)) (numI 0 ob) T xs ys
      | _=>False))
section
variable {E:Env} {w:World} {n0 N n:Nat} {st:St} {a:Act} {m:List (Nat × Nat)} {rw':List (Nat × Row)} {bx':List (Nat × List Ce)}
theorem avN_r1 (r:RepM O E w n0 N n st a) {u:Value} {v v':AV} (h:AvN st m rw' bx' v v') (hv:RV E w u v):R1 (E.ma st m) w u v':=by
  cases v' with
  | eptr j u' k i o=>
    unfold AvN at h
    simp only at h
    split at h
    · rename_i τ ver k' i' o' τ' R' h1 h2
      obtain ⟨rfl,_,h3,rfl,rfl,rfl⟩:=h
      obtain ⟨g,n,c,h4,h5⟩:=hv
      split at h3
      · rename_i R hR
        subst h3
        refine ⟨g,n,c,?_,h5⟩
        unfold Env.ma
        simp only [h1,hR]
        exact h4
      · exact h3.elim
    · exact h.elim
  | c x=>exact avM_r1 (rw':=rw') (bx':=bx') (v':=.c x) r h hv
  | agg x=>exact avM_r1 (rw':=rw') (bx':=bx') (v':=.agg x) r h hv
  | ptr b o=>exact avM_r1 (rw':=rw') (bx':=bx') (v':=.ptr b o) r h hv
  | iptr x o=>exact avM_r1 (rw':=rw') (bx':=bx') (v':=.iptr x o) r h hv
  | nilp=>exact avM_r1 (rw':=rw') (bx':=bx') (v':=.nilp) r h hv
  | tup x=>exact avM_r1 (rw':=rw') (bx':=bx') (v':=.tup x) r h hv
  | fn f x=>exact avM_r1 (rw':=rw') (bx':=bx') (v':=.fn f x) r h hv
  | fnI f x=>exact avM_r1 (rw':=rw') (bx':=bx') (v':=.fnI f x) r h hv
  | sub x y z i=>exact avM_r1 (rw':=rw') (bx':=bx') (v':=.sub x y z i) r h hv
  | bot=>exact trivial
theorem avN_nm {v v':AV} (h:AvN st m rw' bx' v v'):(∀ b∈v'.bids,∃ cs,lk bx' b=some cs)∧∀ p∈v'.rids,∃ R,lk rw' p.1=some R∧R.ver=p.2:=by
  cases v' with
  | eptr j u' k i o=>
    unfold AvN at h
    simp only at h
    split at h
    · rename_i τ ver k' i' o' τ' R' h1 h2
      obtain ⟨_,h3,_⟩:=h
      refine ⟨fun _ h=>(by cases h),fun p hp=>?_⟩
      obtain rfl:p=(j,u'):=by simpa [AV.rids,AV.rid1] using hp
      exact ⟨R',h2,h3⟩
    · exact h.elim
  | c x=>exact avM_nm (st:=st) (m:=m) (v:=v) (v':=.c x) h
  | agg x=>exact avM_nm (st:=st) (m:=m) (v:=v) (v':=.agg x) h
  | ptr b o=>exact avM_nm (st:=st) (m:=m) (v:=v) (v':=.ptr b o) h
  | iptr x o=>exact avM_nm (st:=st) (m:=m) (v:=v) (v':=.iptr x o) h
  | nilp=>exact avM_nm (st:=st) (m:=m) (v:=v) (v':=.nilp) h
  | tup x=>exact avM_nm (st:=st) (m:=m) (v:=v) (v':=.tup x) h
  | fn f x=>exact avM_nm (st:=st) (m:=m) (v:=v) (v':=.fn f x) h
  | fnI f x=>exact avM_nm (st:=st) (m:=m) (v:=v) (v':=.fnI f x) h
  | sub x y z i=>exact avM_nm (st:=st) (m:=m) (v:=v) (v':=.sub x y z i) h
  | bot=>exact ⟨fun _ h=>(by cases h),fun _ h=>by cases h⟩
theorem verM_get:∀ {orr:List Row} {i:Nat},VerM st m i orr→∀ (j:Nat) R,orr[j]? = some R→R.ver=0→lk m (i+j)=some (i+j)∧∃ R',lk st.rw (i+j)=some R'∧R'.ver=0
  | R0 :: orr,i,h,0,R,hj,hv=>by
    obtain rfl:=Option.some.inj hj
    obtain ⟨h1,_⟩:=h
    rw [hv] at h1
    obtain ⟨h2,h3⟩:=h1
    split at h3
    · rename_i R' hR'
      exact ⟨h2,R',hR',h3⟩
    · exact h3.elim
  | R0 :: orr,i,h,j+1,R,hj,hv=>by
    have:=verM_get h.2 j R hj hv
    rw [show i+1+j=i+(j+1) by omega] at this
    exact this
  | [],_,_,j,R,hj,_=>by simp at hj
def Env.mk2 (E:Env) (st:St) (m:List (Nat × Nat)) (q:Nat) (V:Nat→Value):Env:=⟨(E.ma st m).rl,E.bk,fun j u=>if j < q∧u=0 then V j else (E.ma st m).vl j u⟩
theorem mk2_vl {V:Nat→Value} {orr nr:List Row} (hV:∀ j,j < orr.length→(∃ R,lk st.rw j=some R)→E.vl j 0=V j) (hver:VerM st m 0 orr) {j:Nat} {R:Row} (hj:(orr++nr)[j]? = some R):(E.mk2 st m orr.length V).vl j R.ver=(E.ma st m).vl j R.ver:=by
  unfold Env.mk2
  simp only
  split
  · rename_i h
    rw [List.getElem?_append_left h.1] at hj
    obtain ⟨h1,R',h2,h3⟩:=verM_get hver j R hj h.2
    rw [Nat.zero_add] at h1 h2
    rw [← hV j h.1 ⟨R',h2⟩]
    unfold Env.ma
    simp only [h1,h2,h3]
  · rfl
theorem mk2_r1 {V:Nat→Value} {orr nr:List Row} (hV:∀ j,j < orr.length→(∃ R,lk st.rw j=some R)→E.vl j 0=V j) (hver:VerM st m 0 orr) {u:Value} {v:AV} (hn:∀ p∈v.rid1,∃ R,lk (numR 0 0 (orr++nr)) p.1=some R∧R.ver=p.2) (h:R1 (E.ma st m) w u v):R1 (E.mk2 st m orr.length V) w u v:=by
  refine R1.fr (E:=E.ma st m) (E':=E.mk2 st m orr.length V) (Nat.le_refl _) (fun b hb _=>⟨rfl,hb⟩) (fun p hp=>?_) (fun _ _=>rfl) h
  obtain ⟨R,h1,h2⟩:=hn p hp
  rw [lk_numR,if_pos (by omega)] at h1
  rw [← h2]
  exact mk2_vl hV hver (by simpa using h1)
end
theorem resN_run {E:Env} {w:World} {n0 N n:Nat} {st:St} {a:Act} {m:List (Nat × Nat)} {rw':List (Nat × Row)} {bx':List (Nat × List Ce)} (hT:TabOk P T) (r:RepM O E w n0 N n st a):∀ {xs:List ResultVar} {rs:List AV},ResN st m rw' bx' T xs rs→∃ us:List Value,(xs.mapM (resSem a)).run P w=.ok us w∧A2 (R1 (E.ma st m) w) us rs∧(∀ b∈rs.flatMap AV.bid1,∃ cs,lk bx' b=some cs)∧∀ p∈rs.flatMap AV.rid1,∃ R,lk rw' p.1=some R∧R.ver=p.2
  | [],[],_=>⟨[],by simp,.nil,fun _ h=>(by cases h),fun _ h=>by cases h⟩
  | x :: xs,y :: ys,h=>by
    obtain ⟨h1,h2⟩:=h
    split at h1
    · rename_i v hv
      obtain ⟨u,hu,hr⟩:=results_rv hT r hv
      obtain ⟨us,hus,ha,hb,hrr⟩:=resN_run hT r h2
      have hr1:=avN_r1 r h1 hr
      obtain ⟨g1,g2⟩:=avN_nm h1
      have e:y.bids=y.bid1∧y.rids=y.rid1:=by
        cases y with
        | tup _=>exact hr1.elim
        | _=>exact ⟨rfl,rfl⟩
      rw [e.1] at g1
      rw [e.2] at g2
      refine ⟨u :: us,?_,.cons hr1 ha,fun b hb'=>?_,fun p hp=>?_⟩
      · rw [List.mapM_cons,Sem.run_bind,hu]
        simp only [Result.andThen_ok,Sem.run_bind,hus,Sem.run_pure]
      · rw [List.flatMap_cons] at hb'
        exact (List.mem_append.1 hb').elim (g1 b) (hb b)
      · rw [List.flatMap_cons] at hp
        exact (List.mem_append.1 hp).elim (g2 p) (hrr p)
    · exact h1.elim
  | [],_ :: _,h=>h.elim
  | _ :: _,[],h=>h.elim
theorem resN_len {st:St} {m:List (Nat × Nat)} {rw':List (Nat × Row)} {bx':List (Nat × List Ce)}:∀ {xs:List ResultVar} {rs:List AV},ResN st m rw' bx' T xs rs→xs.length=rs.length
  | [],[],_=>rfl
  | _ :: _,_ :: _,h=>by simp [resN_len h.2]
  | [],_ :: _,h=>h.elim
  | _ :: _,[],h=>h.elim
theorem finM_run {E:Env} {w:World} {n0 N n:Nat} {st:St} {a:Act} {m:List (Nat × Nat)} {fn:Func} {rv:AV} {rw':List (Nat × Row)} {bx':List (Nat × List Ce)} (hT:TabOk P T) (r:RepM O E w n0 N n st a) (h:match fn.results.toList with
    | [x]=>(match resA T st x with
      | some v=>AvN st m rw' bx' v rv
      | none=>False)
    | xs=>(match rv with
      | .tup ys=>ResN st m rw' bx' T xs ys
      | _=>False)):(∃ u,(results fn a.tmps).run P w=.ok u w∧RV (E.ma st m) w u rv)∧(∀ b∈rv.bids,∃ cs,lk bx' b=some cs)∧∀ p∈rv.rids,∃ R,lk rw' p.1=some R∧R.ver=p.2:=by
  have e:(results fn a.tmps).run P w=((fn.results.toList.mapM (resSem a)).run P w).andThen fun vs w'=>.ok (if h:vs.toArray.size=1 then vs.toArray[0] else .tuple vs.toArray) w':=by
    have e3:results fn a.tmps=(do
        let vs ← fn.results.mapM (resSem a)
        Pure.pure (if h:vs.size=1 then vs[0] else .tuple vs)):=by
      unfold results
      exact congrArg (fun g:ResultVar→Sem Value=>(do
        let vs ← fn.results.mapM g
        Pure.pure (if h:vs.size=1 then vs[0] else .tuple vs):Sem Value)) (funext fun x=>by cases x <;> rfl)
    rw [e3,Array.mapM_eq_mapM_toList]
    simp only [Sem.run_bind,Sem.run_map,Sem.run_pure]
    cases ((fn.results.toList.mapM (resSem a)).run P w) <;> rfl
  rw [e]
  split at h
  · rename_i x hx
    rw [hx]
    split at h
    · rename_i v hv
      obtain ⟨u,hu,hr⟩:=results_rv hT r hv
      refine ⟨⟨u,?_,(avN_r1 r h hr).rv⟩,avN_nm h⟩
      rw [List.mapM_cons,List.mapM_nil,Sem.run_bind,hu]
      simp
    · exact h.elim
  · rename_i xs hne
    split at h
    · rename_i ys
      obtain ⟨us,hus,ha,hb,hrr⟩:=resN_run hT r h
      have hl:=resN_len h
      refine ⟨⟨.tuple us.toArray,?_,⟨us,rfl,ha⟩⟩,hb,hrr⟩
      rw [hus]
      have:¬ us.toArray.size=1:=fun h1=>by
        have h2:=ha.len
        rw [List.size_toArray] at h1
        rw [h1,← hl] at h2
        cases hq:fn.results.toList with
        | nil=>rw [hq] at h2;cases h2
        | cons x l=>
          cases l with
          | nil=>exact hne x hq
          | cons _ _=>rw [hq] at h2;simp at h2
      simp only [Result.andThen_ok,dif_neg this]
    · exact h.elim
def namesOk (p q:Nat) (bs:List Nat) (rs:List (Nat × Nat)):Bool:=bs.all (fun b=>Nat.blt b p)&&rs.all fun x=>Nat.blt x.1 q&&Nat.beq x.2 0
theorem namesOk_ok {p q:Nat} {bs:List Nat} {rs:List (Nat × Nat)} (h:namesOk p q bs rs=true):(∀ b∈bs,b < p)∧∀ x∈rs,x.1 < q∧x.2=0:=by
  unfold namesOk at h
  rw [Bool.and_eq_true] at h
  refine ⟨fun b hb=>Nb (List.all_eq_true.1 h.1 b hb),fun x hx=>?_⟩
  have:=List.all_eq_true.1 h.2 x hx
  rw [Bool.and_eq_true] at this
  exact ⟨Nb this.1,Nat.eq_of_beq_eq_true this.2⟩
def namesR (p:Nat) (rv:AV) (ob:List (List Ce)) (rs:List Row):Bool:=rv.bids.all (fun b=>Nat.blt b p)&&(rs.all Row.shut&&(rv.rids++ob.flatMap fun cs=>cs.flatMap Ce.rids).all fun x=>match rs[x.1]? with
  | some R=>Nat.ble x.2 R.ver
  | none=>false)
theorem namesR_ok {p:Nat} {rv:AV} {ob:List (List Ce)} {rs:List Row} (h:namesR p rv ob rs=true):(∀ b∈rv.bids,b < p)∧(∀ x∈rv.rids,∃ R,rs[x.1]? = some R∧x.2≤R.ver)∧(∀ (i:Nat) cs,ob[i]? = some cs→∀ x∈cs.flatMap Ce.rids,∃ R,rs[x.1]? = some R∧x.2≤R.ver)∧∀ R∈rs,R.shut=true:=by
  unfold namesR at h
  rw [Bool.and_eq_true,Bool.and_eq_true] at h
  have key:∀ x∈rv.rids++ob.flatMap fun cs=>cs.flatMap Ce.rids,∃ R,rs[x.1]? = some R∧x.2≤R.ver:=fun x hx=>by
    have:=List.all_eq_true.1 h.2.2 x hx
    split at this
    · rename_i R hR
      exact ⟨R,hR,Nb this⟩
    · cases this
  exact ⟨fun b hb=>Nb (List.all_eq_true.1 h.1 b hb),fun x hx=>key x (List.mem_append_left _ hx),fun i cs hi x hx=>key x (List.mem_append_right _ (List.mem_flatMap.2 ⟨cs,List.mem_of_getElem? hi,hx⟩)),fun R hR=>List.all_eq_true.1 h.2.1 R hR⟩
class OLow (n1:Nat) (O:Gst):Prop where
  v:∀ j,n1≤j→O.v j=none
  b:∀ j,n1≤j→O.b j=none
open Classical in
theorem ctm_of {f:FuncId} {fn:Func} {c:Code} {ars:List AV} {ib:List (List Ce)} {ir:List Row} {rv:AV} {ob:List (List Ce)} {orr nr:List Row} (n1:Nat) (hf:P.funcs[f]? = some fn) (hb:fn.body=some c) (he:Ent P f) (hT:TabOk P T) (hc:codeOk fn.ntmps c=true) (hn:Nat.ble ars.length fn.ntmps=true)
    (hk:(Nat.ble ib.length n1&&(Nat.ble ir.length n1&&(Nat.beq ob.length ib.length&&(Nat.beq orr.length ir.length&&(Nat.ble nr.length 128&&ir.all fun R=>Nat.beq R.ver 0&&R.shut)))))=true)
    (hnm:(namesOk ib.length ir.length (ars.flatMap AV.bid1) (ars.flatMap AV.rid1)&&ib.all fun cs=>namesOk ib.length ir.length [] (cs.flatMap Ce.rids))=true) (htup:(ars.all fun a=>match a with
      | .tup _=>false
      | _=>true)=true) (hres:namesR ib.length rv ob (orr++nr)=true)
    (h:∀ w0 O [OLow n1 O],Tp P T fn.ntmps w0 O c ⟨numA 0 ars,numI 0 ib,numI 0 ir,n1⟩ (FinM T fn rv ob orr nr)):CtM P f ars ib ir rv ob orr nr:=by
  simp only [Bool.and_eq_true] at hk hnm
  obtain ⟨k1,k2,k3,k4,k5,k6⟩:=hk
  have k1:=Nb k1
  have k2:=Nb k2
  have k3:=Nat.eq_of_beq_eq_true k3
  have k4:=Nat.eq_of_beq_eq_true k4
  have k5:=Nb k5
  have hn:=Nb hn
  obtain ⟨nb,nr1⟩:=namesOk_ok hnm.1
  have nbx:∀ cs∈ib,∀ x∈cs.flatMap Ce.rids,x.1 < ir.length∧x.2=0:=fun cs hcs=>(namesOk_ok (List.all_eq_true.1 hnm.2 cs hcs)).2
  obtain ⟨r1,r2,r3,r4⟩:=namesR_ok hres
  refine ⟨he,k5,r4,k3,k4,r1,r2,r3,fun w0 w vs E0 hbel ha hbox hrow hrl hlow=>?_⟩
  have hlen:=ha.len
  refine calls_of_wp hf hb ?_
  have slot:∀ (t:Nat) (a:AV),ars[t]? = some a→a.bids=a.bid1∧a.rids=a.rid1:=fun t a ht=>by
    have:=List.all_eq_true.1 htup a (List.mem_of_getElem? ht)
    cases a with
    | tup _=>cases this
    | _=>exact ⟨rfl,rfl⟩
  have lkB:∀ (i:Nat) (cs:List Ce),lk (numI 0 ib) i=some cs→ib[i]? = some cs:=fun i cs hi=>by
    rw [lk_numI,if_pos (Nat.zero_le _)] at hi
    simpa using hi
  have lkR:∀ (i:Nat) (R:Row),lk (numI 0 ir) i=some R→ir[i]? = some R:=fun i R hi=>by
    rw [lk_numI,if_pos (Nat.zero_le _)] at hi
    simpa using hi
  have hasB:∀ b,b < ib.length→∃ cs,lk (numI 0 ib) b=some cs:=fun b hb=>⟨ib[b],by rw [lk_numI,if_pos (Nat.zero_le _),Nat.sub_zero,List.getElem?_eq_getElem hb]⟩
  have hasR:∀ b,b < ir.length→∃ R,lk (numI 0 ir) b=some R:=fun b hb=>⟨ir[b],by rw [lk_numI,if_pos (Nat.zero_le _),Nat.sub_zero,List.getElem?_eq_getElem hb]⟩
  have hinit:RepS ⟨fun b=>E0.rl b=.cold,fun b=>if E0.rl b=.cold∨E0.rl b=.non then w.heap[b]? else none,fun j=>if j < ir.length then some (E0.vl j 0) else none,fun i=>if i < ib.length then some (E0.bk i) else none,w.heap.size⟩ E0 w w0.heap.size fn.ntmps ⟨numA 0 ars,numI 0 ib,numI 0 ir,n1⟩ { tmps:=vs.toArray++Array.replicate (fn.ntmps - vs.toArray.size) undef,defers:=[] }:=by
    refine ⟨rfl,by simp only [Array.size_append,List.size_toArray,Array.size_replicate];omega,fun t=>?_,fun i cs hi=>hbox i cs (lkB i cs hi),fun j R hj=>hrow j R (lkR j R hj),⟨fun t b hb=>?_,fun t p hp=>?_,fun b cs hcs p hp=>?_,fun b cs hcs=>?_,fun τ R hR=>?_,fun τ R d hR hd l hl=>?_⟩,hbel.size,fun b hb=>?_,fun b x hx=>?_,fun j V hj=>?_,fun j V hj=>?_,Nat.le_refl _⟩
    · show RV E0 w _ (match lk (numA 0 ars) t with|some v=>v|none=>.bot)
      rw [lk_numA,if_pos (Nat.zero_le _),Nat.sub_zero]
      cases ht:ars[t]? with
      | none=>exact trivial
      | some a=>
        obtain ⟨u,hu,hr⟩:=ha.get t a ht
        have hlt:=(List.getElem?_eq_some_iff.1 hu).1
        rw [Array.getD_eq_getD_getElem?,Array.getElem?_append_left (by simpa using hlt),List.getElem?_toArray,hu]
        exact hr.rv
    · have hb:b∈(match lk (numA 0 ars) t with|some v=>v|none=>AV.bot).bids:=hb
      rw [lk_numA,if_pos (Nat.zero_le _),Nat.sub_zero] at hb
      cases ht:ars[t]? with
      | none=>rw [ht] at hb;cases hb
      | some a=>
        rw [ht] at hb
        have hb:b∈a.bids:=hb
        rw [(slot t a ht).1] at hb
        exact hasB b (nb b (List.mem_flatMap.2 ⟨a,List.mem_of_getElem? ht,hb⟩))
    · have hp:p∈(match lk (numA 0 ars) t with|some v=>v|none=>AV.bot).rids:=hp
      rw [lk_numA,if_pos (Nat.zero_le _),Nat.sub_zero] at hp
      cases ht:ars[t]? with
      | none=>rw [ht] at hp;cases hp
      | some a=>
        rw [ht] at hp
        have hp:p∈a.rids:=hp
        rw [(slot t a ht).2] at hp
        obtain ⟨h1,h2⟩:=nr1 p (List.mem_flatMap.2 ⟨a,List.mem_of_getElem? ht,hp⟩)
        obtain ⟨R,hR⟩:=hasR p.1 h1
        exact ⟨R,hR,by rw [h2];exact Nat.zero_le _⟩
    · obtain ⟨h1,h2⟩:=nbx cs (List.mem_of_getElem? (lkB b cs hcs)) p hp
      obtain ⟨R,hR⟩:=hasR p.1 h1
      exact ⟨R,hR,by rw [h2];exact Nat.zero_le _⟩
    · have:=(List.getElem?_eq_some_iff.1 (lkB b cs hcs)).1
      exact Nat.lt_of_lt_of_le this k1
    · have:=(List.getElem?_eq_some_iff.1 (lkR τ R hR)).1
      exact Nat.lt_of_lt_of_le this k2
    · have:=List.all_eq_true.1 k6 R (List.mem_of_getElem? (lkR τ R hR))
      rw [Bool.and_eq_true] at this
      rw [shut_ln this.2 hd] at hl
      cases hl
    · exact (hlow b hb).imp (fun h=>⟨h,h⟩) id
    · have hx:(if E0.rl b=.cold∨E0.rl b=.non then w.heap[b]? else none)=some x:=hx
      split at hx
      · rename_i hq
        refine ⟨hx,hq.imp (fun h=>⟨h,h⟩) (fun h=>⟨h,fun h2=>?_⟩)⟩
        have h2:E0.rl b=.cold:=h2
        rw [h] at h2
        cases h2
      · cases hx
    · have hj:(if j < ir.length then some (E0.vl j 0) else none)=some V:=hj
      split at hj
      · rename_i hlt
        cases hj
        exact ⟨rfl,hasR j hlt⟩
      · cases hj
    · have hj:(if j < ib.length then some (E0.bk j) else none)=some V:=hj
      split at hj
      · rename_i hlt
        cases hj
        exact ⟨rfl,hasB j hlt⟩
      · cases hj
  refine wp_mono (@h w0 _ ⟨fun j hj=>if_neg (by omega),fun j hj=>if_neg (by omega)⟩ hT hc E0 _ w hinit hbel) fun e a' w' hp=>?_
  have fin:∀ st E',FinM T fn rv ob orr nr .ret st→RepS ⟨fun b=>E0.rl b=.cold,fun b=>if E0.rl b=.cold∨E0.rl b=.non then w.heap[b]? else none,fun j=>if j < ir.length then some (E0.vl j 0) else none,fun i=>if i < ib.length then some (E0.bk i) else none,w.heap.size⟩ E' w' w0.heap.size fn.ntmps st a'→Below w0.heap.size w0 w'→a'.defers=[]∧∃ v,(results fn a'.tmps).run P w'=.ok v w'∧∃ v',Ending.returned v=.returned v'∧Below w0.heap.size w0 w'∧w.heap.size≤w'.heap.size∧∃ E,RV E w' v' rv∧(∀ i,i < ib.length→E.bk i=E0.bk i)∧(∀ (i:Nat) cs,ob[i]? = some cs→RB E w' w0.heap.size i cs)∧(∀ (j:Nat) R,(orr++nr)[j]? = some R→RR E w' w0.heap.size j R)∧(∀ j,j < ir.length→E.vl j 0=E0.vl j 0)∧
      ∀ b,b < w.heap.size→E0.rl b=.cold∨E0.rl b=.non→w'.heap[b]? = w.heap[b]?∧E.rl b=E0.rl b:=fun st E' hq r hb'=>by
    obtain ⟨m,⟨g1,g2,g3,g4⟩,g5⟩:=hq
    obtain ⟨⟨u,hu,hr⟩,hnb,hnr⟩:=finM_run hT r g5
    have hV:∀ j,j < orr.length→(∃ R,lk st.rw j=some R)→E'.vl j 0=E0.vl j 0:=fun j hj _=>(r.lkv j (E0.vl j 0) (by show (if j < ir.length then some (E0.vl j 0) else none)=_;rw [if_pos (by omega)])).1
    have tr1:∀ {u:Value} {v:AV},(∀ p∈v.rid1,∃ R,lk (numR 0 0 (orr++nr)) p.1=some R∧R.ver=p.2)→R1 (E'.ma st m) w' u v→R1 (E'.mk2 st m orr.length fun j=>E0.vl j 0) w' u v:=fun hn h=>mk2_r1 hV g3 hn h
    refine ⟨r.dfr,u,hu,u,rfl,hb',r.sn,E'.mk2 st m orr.length fun j=>E0.vl j 0,?_,fun i hi=>?_,fun i cs hi=>?_,fun j R hj=>?_,fun j hj=>?_,fun b hlt hq=>?_⟩
    · cases rv with
      | tup ys=>
        obtain ⟨us,rfl,ha2⟩:=hr
        refine ⟨us,rfl,?_⟩
        have:∀ {us:List Value} {ys:List AV},(∀ p∈ys.flatMap AV.rid1,∃ R,lk (numR 0 0 (orr++nr)) p.1=some R∧R.ver=p.2)→A2 (R1 (E'.ma st m) w') us ys→A2 (R1 (E'.mk2 st m orr.length fun j=>E0.vl j 0) w') us ys:=fun {us ys} hn h=>by
          induction h with
          | nil=>exact .nil
          | cons h1 _ ih=>
            rw [List.flatMap_cons] at hn
            exact .cons (tr1 (fun p hp=>hn p (List.mem_append_left _ hp)) h1) (ih fun p hp=>hn p (List.mem_append_right _ hp))
        exact this hnr ha2
      | c x=>exact (tr1 (v:=.c x) hnr hr).rv
      | agg x=>exact (tr1 (v:=.agg x) hnr hr).rv
      | ptr b o=>exact (tr1 (v:=.ptr b o) hnr hr).rv
      | iptr x o=>exact (tr1 (v:=.iptr x o) hnr hr).rv
      | eptr a b c d e=>exact (tr1 (v:=.eptr a b c d e) hnr hr).rv
      | sub a b c d=>exact (tr1 (v:=.sub a b c d) hnr hr).rv
      | nilp=>exact (tr1 (v:=.nilp) hnr hr).rv
      | fn f x=>exact (tr1 (v:=.fn f x) hnr hr).rv
      | fnI f x=>exact (tr1 (v:=.fnI f x) hnr hr).rv
      | bot=>exact trivial
    · exact (r.lkb i (E0.bk i) (by show (if i < ib.length then some (E0.bk i) else none)=_;rw [if_pos hi])).1
    · obtain ⟨cs0,h1,h2⟩:=bxM_mem g4 i cs (lk_mem (by rw [lk_numI,if_pos (Nat.zero_le _)];simpa using hi))
      obtain ⟨us,t,h3,h4,h5,h6⟩:=r.box i cs0 h1
      have h7:=cesM_a2 r h2 h6
      refine ⟨us,t,h3,h4,?_,A2.fr (E:=E'.ma st m) (E':=E'.mk2 st m orr.length fun j=>E0.vl j 0) (Nat.le_refl _) (fun b hb _=>⟨rfl,hb⟩) (fun p hp=>?_) h7⟩
      · show (E'.ma st m).rl (E'.bk i)=_
        unfold Env.ma
        simp only [h5]
      · obtain ⟨R,h8,h9⟩:=cesM_nm h2 p hp
        rw [lk_numR,if_pos (by omega)] at h8
        rw [← h9]
        exact mk2_vl hV g3 (by simpa using h8)
    · have hm:=lk_mem (l:=numR 0 0 (orr++nr)) (n:=j) (x:=R) (by rw [lk_numR,if_pos (by omega)];simpa using hj)
      have h1:=row_ma r g1 (rwM_mem g2 j R hm)
      exact RR.to (R:=R) (h:=h1) (Nat.le_refl _) rfl rfl rfl rfl (rwM_shut g2 j R hm) (mk2_vl hV g3 hj) (fun _ h _=>h) (fun _ _ _ h=>h) fun _ _ _ _ _ h=>h
    · show (if j < orr.length∧(0:Nat)=0 then E0.vl j 0 else _)=_
      rw [if_pos ⟨by omega,rfl⟩]
    · obtain ⟨x,hx⟩:∃ x,w.heap[b]? = some x:=⟨w.heap[b],Array.getElem?_eq_getElem hlt⟩
      obtain ⟨h1,h2⟩:=r.gh b x (by show (if E0.rl b=.cold∨E0.rl b=.non then w.heap[b]? else none)=_;rw [if_pos hq,hx])
      refine ⟨h1.trans hx.symm,?_⟩
      show (E'.ma st m).rl b=_
      rcases h2 with ⟨h2,h3⟩|⟨h2,h3⟩
      · have h3:E0.rl b=.cold:=h3
        rw [ma_cold b h2,h3]
      · have h3:¬ E0.rl b=.cold:=h3
        rw [ma_non b h2]
        rcases hq with hq|hq
        · exact absurd hq h3
        · exact hq.symm
  cases e with
  | normal=>
    obtain ⟨st,E',hq,r,hb'⟩:=hp
    exact fin st E' hq r hb'
  | ret=>
    obtain ⟨st,E',hq,r,hb'⟩:=hp
    exact fin st E' hq r hb'
  | exit id=>
    obtain ⟨st,E',hq,r,hb'⟩:=hp
    exact hq.elim
  | goto l=>exact hp.elim
  | panic ch=>exact hp.elim
  | outgrown=>exact hp.elim
def SlI (st:St):List (Nat × AV)→Prop
  | []=>True
  | (t,v) :: r=>st.get t=v∧SlI st r
def BxI (st:St):List (Nat × List Ce)→Prop
  | []=>True
  | (b,cs) :: r=>lk st.bx b=some cs∧BxI st r
def RwI (st:St):List (Nat × Row)→Prop
  | []=>True
  | (τ,R) :: r=>lk st.rw τ=some R∧RwI st r
theorem slI_mem {st:St}:∀ {l:List (Nat × AV)},SlI st l→∀ t v,(t,v)∈l→st.get t=v
  | (t,v) :: r,h,t',v',hm=>by
    rcases List.mem_cons.1 hm with e|hm
    · cases e;exact h.1
    · exact slI_mem h.2 t' v' hm
  | [],_,_,_,hm=>by cases hm
theorem bxI_mem {st:St}:∀ {l:List (Nat × List Ce)},BxI st l→∀ t v,(t,v)∈l→lk st.bx t=some v
  | (t,v) :: r,h,t',v',hm=>by
    rcases List.mem_cons.1 hm with e|hm
    · cases e;exact h.1
    · exact bxI_mem h.2 t' v' hm
  | [],_,_,_,hm=>by cases hm
theorem rwI_mem {st:St}:∀ {l:List (Nat × Row)},RwI st l→∀ t v,(t,v)∈l→lk st.rw t=some v
  | (t,v) :: r,h,t',v',hm=>by
    rcases List.mem_cons.1 hm with e|hm
    · cases e;exact h.1
    · exact rwI_mem h.2 t' v' hm
  | [],_,_,_,hm=>by cases hm
def WkL (O:Gst) (st st':St):Prop:=∀ (E:Env) (w:World) (n0 N:Nat) (a:Act),RepS O E w n0 N st a→RepS O E w n0 N st' a
theorem Tp.wkL {N:Nat} {w0:World} {c:Code} {st st':St} {Q:Ex→St→Prop} (hw:WkL O st st') (h:Tp P T N w0 O c st' Q):Tp P T N w0 O c st Q:=fun hT hc E a w r hb=>h hT hc E a w (hw E w _ N a r) hb
theorem Tp.loopL {N:Nat} {w0:World} {c:Code} {st:St} {Q:Ex→St→Prop} {α:Type} (I:α→St) (ok:α→Prop) (μ:α→Nat) (x0:α) (h0:WkL O st (I x0)) (hok:ok x0)
   (round:∀ x,ok x→Tp P T N w0 O c (I x) (fun e st'=>match e with
     | .nrm=>∃ y,ok y∧μ y < μ x∧WkL O st' (I y)
     | e=>Q e st')):Tp P T N w0 O (.loop c) st Q:=fun hT hc E a w r hb=>by
  unfold codeOk at hc
  refine wp_loop_n (fun n a w=>∃ x E,ok x∧μ x=n∧RepS O E w w0.heap.size N (I x) a∧Below w0.heap.size w0 w) (n:=μ x0) ⟨x0,E,hok,rfl,h0 E w _ N a r,hb⟩ ?_
  rintro n a w ⟨x,E,hx,rfl,r,hb⟩
  refine wp_mono (round x hx hT hc E a w r hb) fun e a' w' hp=>?_
  cases e with
  | normal=>
    obtain ⟨st',E',⟨y,h1,h2,h3⟩,r',hb'⟩:=hp
    exact ⟨μ y,h2,y,E',h1,rfl,h3 E' w' _ N a' r',hb'⟩
  | exit id=>
    obtain ⟨st',E',hq,r',hb'⟩:=hp
    exact ⟨st',E',hq,r',hb'⟩
  | ret=>
    obtain ⟨st',E',hq,r',hb'⟩:=hp
    exact ⟨st',E',hq,r',hb'⟩
  | goto l=>exact hp.elim
  | panic ch=>exact hp.elim
  | outgrown=>exact hp.elim
def lnKept (rw':List (Nat × Row)) (R:Row):Bool:=match R.dp with
  | none=>true
  | some d=>d.ln.all fun l=>match lk rw' l.2.2.1 with
    | some R'=>Nat.ble l.2.2.2 R'.ver
    | none=>false
instance [OFree O]:OLow 0 O:=⟨fun j _=>OFree.v j,fun j _=>OFree.b j⟩
def keepL (n1:Nat) (st:St) (sl':List (Nat × AV)) (bx':List (Nat × List Ce)) (rw':List (Nat × Row)):Bool:=
  (st.bx.all (fun p=>Nat.ble n1 p.1||(match lk bx' p.1 with
    | some _=>true
    | none=>false))&&st.rw.all fun p=>Nat.ble n1 p.1||(match lk rw' p.1 with
    | some _=>true
    | none=>false)) &&
  (sl'.all (fun p=>p.2.bids.all (fun b=>match lk bx' b with
    | some _=>true
    | none=>false)&&p.2.rids.all fun q=>match lk rw' q.1 with
    | some R=>Nat.ble q.2 R.ver
    | none=>false) &&
  (bx'.all (fun p=>(p.2.flatMap Ce.rids).all fun q=>match lk rw' q.1 with
    | some R=>Nat.ble q.2 R.ver
    | none=>false)&&rw'.all fun p=>lnKept rw' p.2))
theorem wkl_of {n1:Nat} [OLow n1 O] {st:St} {sl':List (Nat × AV)} {bx':List (Nat × List Ce)} {rw':List (Nat × Row)} {nx':Nat} (hk:keepL n1 st sl' bx' rw'=true) (hn:below nx' bx' rw'=true) (hs:SlI st sl') (hb:BxI st bx') (hr:RwI st rw'):WkL O st ⟨sl',bx',rw',nx'⟩:=by
  intro E w n0 N a r
  unfold keepL at hk
  unfold below at hn
  simp only [Bool.and_eq_true] at hk hn
  obtain ⟨⟨q1,q2⟩,q3,q4,q5⟩:=hk
  have kb:∀ b cs,lk st.bx b=some cs→b < n1→lk bx' b=some cs:=fun b cs h hlt=>by
    have:=List.all_eq_true.1 q1 (b,cs) (lk_mem h)
    simp only [Bool.or_eq_true] at this
    rcases this with this|this
    · have:=Nb this
      omega
    · split at this
      · rename_i x hx
        rw [bxI_mem hb b x (lk_mem hx)] at h
        rw [hx,h]
      · cases this
  have kr:∀ b cs,lk st.rw b=some cs→b < n1→lk rw' b=some cs:=fun b cs h hlt=>by
    have:=List.all_eq_true.1 q2 (b,cs) (lk_mem h)
    simp only [Bool.or_eq_true] at this
    rcases this with this|this
    · have:=Nb this
      omega
    · split at this
      · rename_i x hx
        rw [rwI_mem hr b x (lk_mem hx)] at h
        rw [hx,h]
      · cases this
  have get:∀ t,(St.get ⟨sl',bx',rw',nx'⟩ t)=.bot∨(t,St.get ⟨sl',bx',rw',nx'⟩ t)∈sl':=fun t=>by
    show (match lk sl' t with|some v=>v|none=>.bot)=.bot∨(t,(match lk sl' t with|some v=>v|none=>.bot))∈sl'
    cases hq:lk sl' t with
    | none=>exact .inl rfl
    | some v=>exact .inr (lk_mem hq)
  have row:∀ (q:Nat × Nat),(match lk rw' q.1 with
    | some R=>Nat.ble q.2 R.ver
    | none=>false)=true→St.hasR ⟨sl',bx',rw',nx'⟩ q:=fun q h=>by
    split at h
    · rename_i R hR
      exact ⟨R,hR,Nb h⟩
    · cases h
  have box:∀ (b:Nat),(match lk bx' b with
    | some _=>true
    | none=>false)=true→St.hasB ⟨sl',bx',rw',nx'⟩ b:=fun b h=>by
    split at h
    · rename_i cs hcs
      exact ⟨cs,hcs⟩
    · cases h
  refine ⟨r.dfr,r.sz,fun t=>?_,fun i cs hi=>r.box i cs (bxI_mem hb i cs (lk_mem hi)),fun τ R hR=>r.row τ R (rwI_mem hr τ R (lk_mem hR)),⟨fun t b hb'=>?_,fun t p hp=>?_,fun b cs hcs p hp=>?_,fun b cs hcs=>?_,fun τ R hR=>?_,fun τ R d hR hd l hl=>?_⟩,r.hi,r.old,r.gh,fun j V hj=>?_,fun j b hj=>?_,r.sn⟩
  · rcases get t with h|h
    · rw [h];exact trivial
    · rw [← slI_mem hs t _ h];exact r.slt t
  · rcases get t with h|h
    · rw [h] at hb';cases hb'
    · have:=List.all_eq_true.1 q3 _ h
      rw [Bool.and_eq_true] at this
      exact box b (List.all_eq_true.1 this.1 b hb')
  · rcases get t with h|h
    · rw [h] at hp;cases hp
    · have:=List.all_eq_true.1 q3 _ h
      rw [Bool.and_eq_true] at this
      exact row p (List.all_eq_true.1 this.2 p hp)
  · exact row p (List.all_eq_true.1 (List.all_eq_true.1 q4 (b,cs) (lk_mem hcs)) p hp)
  · exact Nb (List.all_eq_true.1 hn.1 (b,cs) (lk_mem hcs))
  · exact Nb (List.all_eq_true.1 hn.2 (τ,R) (lk_mem hR))
  · have:=List.all_eq_true.1 q5 (τ,R) (lk_mem hR)
    unfold lnKept at this
    rw [hd] at this
    exact row (l.2.2.1,l.2.2.2) (List.all_eq_true.1 this l hl)
  · obtain ⟨h1,R,h2⟩:=r.lkv j V hj
    refine ⟨h1,R,kr j R h2 (Nat.lt_of_not_le fun hle=>?_)⟩
    rw [OLow.v j hle] at hj
    cases hj
  · obtain ⟨h1,cs,h2⟩:=r.lkb j b hj
    refine ⟨h1,cs,kb j cs h2 (Nat.lt_of_not_le fun hle=>?_)⟩
    rw [OLow.b j hle] at hj
    cases hj
end
section
variable {P:Program} {T:Nat→Option Ty} {O:Gst}
theorem Tp.know {N:Nat} {w0:World} {c:Code} {st:St} {Q:Ex→St→Prop} (rs:List (Nat × Row)) (n:Nat)
  (hw:∀ (E:Env) (w:World) (a:Act),RepS O E w w0.heap.size N st a→∃ E',RepM O E' w w0.heap.size N (st.nx+n) (st.app none ⟨.bot,[],rs⟩) a)
  (h:Tp P T N w0 O c ⟨st.sl,st.bx,rs++st.rw,st.nx+n⟩ Q):Tp P T N w0 O c st Q:=fun hT hc E a w r hb=>by
 obtain ⟨E',r'⟩:=hw E w a r
 exact h hT hc E' a w ⟨r'.dfr,r'.sz,r'.slt,r'.box,r'.row,⟨r'.sc.sb,r'.sc.sr,r'.sc.br,r'.sc.fb,r'.sc.fr,r'.sc.rl⟩,r'.hi,r'.old,r'.gh,r'.lkv,r'.lkb,r'.sn⟩ hb
theorem Mv.know {st:St} {E E':Env} {w:World} {X Y:Nat→Prop} (lo:∀ b,E.rl b=.cold∨E.rl b=.non∨(∃ i,E.rl b=.bx i)→E'.rl b=E.rl b) (bk:E'.bk=E.bk) (vl:∀ τ R v,lk st.rw τ=some R→v≤R.ver→E'.vl τ v=E.vl τ v) (rw_:∀ τ,(∃ R,lk st.rw τ=some R)→¬ Y τ→∀ g,(E.rl g=.rw τ→E'.rl g=.rw τ)∧∀ j o,E.rl g=.nst τ j o→E'.rl g=.nst τ j o):Mv st E w E' w X Y:=
 ⟨Nat.le_refl _,fun b _ h=>lo b (h.elim .inl fun h=>.inr (.inl h)),fun b h _=>⟨rfl,(lo b (.inl h)).trans h⟩,fun i cs _=>by rw [bk],fun i cs _ _ _ h=>⟨rfl,(lo _ (.inr (.inr ⟨i,h⟩))).trans h⟩,vl,fun τ R hR hY g _ _ h=>⟨rfl,((rw_ τ ⟨R,hR⟩ hY g).1 h)⟩,fun _ _ _=>rfl,fun τ R hR hY g j o _ h=>⟨rfl,(rw_ τ ⟨R,hR⟩ hY g).2 j o h⟩⟩
theorem Tp.deep {N:Nat} {w0:World} {c:Code} {st:St} {Q:Ex→St→Prop} (τ:Nat) (D:List (Nat × Nat × Nat)) {R:Row} (hR:lk st.rw τ=some R) (hd:R.dp=none) (h:Tp P T N w0 O c ⟨st.sl,st.bx,(τ,{ R with dp:=some ⟨D,0,[]⟩ }) :: st.rw,st.nx⟩ Q) (hM:Dp.isM ⟨D,0,[]⟩=false:=by rfl):Tp P T N w0 O c st Q:=by
 refine Tp.know [(τ,{ R with dp:=some ⟨D,0,[]⟩ })] 0 (fun E w a r=>⟨E,?_⟩) h
 have mv:Mv st E w E w (fun i=>∃ cs,lk ([]:List (Nat × List Ce)) i=some cs) (fun τ'=>∃ R',lk [(τ,({ R with dp:=some ⟨D,0,[]⟩ }:Row))] τ'=some R'):=Mv.refl _ _ _ _ _
 have one:∀ {τ' R'},lk [(τ,({ R with dp:=some ⟨D,0,[]⟩ }:Row))] τ'=some R'→τ'=τ∧R'={ R with dp:=some ⟨D,0,[]⟩ }:=fun {τ' R'} h=>by
  rw [lk_cons] at h
  split at h
  ·rename_i e
   cases h
   exact ⟨e.symm,rfl⟩
  ·cases h
 refine RepM.app (v:=.tuple #[]) r (t:=none) (fun _ h=>by cases h) mv ⟨fun τ' R1 R2 e1 e2=>?_,fun b hb=>(by cases hb),fun p hp=>(by cases hp),fun _ _ h=>(by cases h),fun τ' R' h=>?_,fun τ' R' d' h hd' l hl=>?_⟩ trivial (fun _ _ h=>by cases h) (fun τ' R' h=>?_)
 ·obtain ⟨rfl,rfl⟩:=one e2
  rw [hR] at e1
  cases e1
  exact Nat.le_refl _
 ·obtain ⟨rfl,rfl⟩:=one h
  exact r.sc.fr τ' R hR
 ·obtain ⟨rfl,rfl⟩:=one h
  cases hd'
  cases hl
 ·obtain ⟨rfl,rfl⟩:=one h
  obtain ⟨es,h1,h2,h3⟩:=(r.row τ' R hR).ow hd
  refine RD.rr rfl hM ⟨es,h1,⟨h2.len,fun j vs ts q1 q2=>?_,fun j vs _=>vs.one,fun j vs ts q1 q2 o v t q3 q4=>⟨fun ρ u hm=>(by cases hm),fun _=>⟨fun ty k _ hj=>absurd hj (Nat.not_lt_zero _),fun _=>?_⟩⟩⟩,h3⟩
  ·rw [← (h2.at_ j vs ts q1 q2).len,Cl.len]
  ·obtain ⟨v',h4,h5⟩:=(h2.at_ j vs ts q1 q2).a2.get o t q4
   rw [q3] at h4
   cases h4
   exact h5
theorem Tp.take {N:Nat} {w0:World} {c:Code} {st:St} {Q:Ex→St→Prop} (τ j o ty k:Nat) {R:Row} {d:Dp} {ts:List Tr} {ys:List (List Tr)} (hR:lk st.rw τ=some R) (hd:R.dp=some d) (hln:d.ln=[]) (hD:(o,ty,k)∈d.D) (hj:j < d.c) (hts:R.xs[j]? = some ts) (ht:ts[o]? = some (.sl k ys)) (h:Tp P T N w0 O c ⟨st.sl,st.bx,(τ,{ R with dp:=some ⟨d.D,d.c,[(j,o,st.nx,0)]⟩ }) :: (st.nx,⟨ty,k,0,ys,none⟩) :: st.rw,st.nx+1⟩ Q) (hM:d.isM=false:=by rfl):Tp P T N w0 O c st Q:=by
 refine Tp.know [(τ,{ R with dp:=some ⟨d.D,d.c,[(j,o,st.nx,0)]⟩ }),(st.nx,⟨ty,k,0,ys,none⟩)] 1 (fun E w a r=>?_) h
 have hτ:τ < st.nx:=r.sc.fr τ R hR
 obtain ⟨es,h1,h2,h3⟩:=(r.row τ R hR).rd hd hM
 have hjl:j < es.length:=by rw [h2.len];exact (List.getElem?_eq_some_iff.1 hts).1
 have hex:=List.getElem?_eq_getElem hjl
 have hol:o < (es[j]).1.length:=by
  rw [Cl.len,← h2.ln j _ ts hex hts]
  exact (List.getElem?_eq_some_iff.1 ht).1
 have hv:=List.getElem?_eq_getElem hol
 obtain ⟨v,ev⟩:∃ v,(es[j]).1[o]=v:=⟨_,rfl⟩
 rw [ev] at hv
 obtain ⟨xs,e1,how⟩:=((h2.at_ j _ ts hex hts o v _ hv ht).2 (fun ρ u hm=>by rw [hln] at hm;cases hm)).1 ty k hD hj
 cases e1
 have hv1:v.oneCell'=true:=(es[j]).one v (List.mem_of_getElem? hv)
 let E':Env:=⟨fun b=>match E.rl b with
  | .nst a b c=>if a=τ∧b=j∧c=o then .rw st.nx else .nst a b c
  | x=>x,E.bk,fun ρ u=>if ρ=st.nx then v else E.vl ρ u⟩
 have rl_n:∀ {b},E.rl b=.nst τ j o→E'.rl b=.rw st.nx:=fun {b} hb=>by simp only [E',hb,and_self,if_true]
 have rl_o:∀ {b},E.rl b≠.nst τ j o→E'.rl b=E.rl b:=fun {b} hb=>by
  simp only [E']
  split
  ·rename_i x y z e
   rw [if_neg]
   ·exact e.symm
   ·rintro ⟨rfl,rfl,rfl⟩
    exact hb e
  ·rfl
 have vl_o:∀ {ρ u},ρ < st.nx→E'.vl ρ u=E.vl ρ u:=fun {ρ u} hρ=>by
  simp only [E']
  rw [if_neg (by omega)]
 have one:∀ {τ' R'},lk [(τ,({ R with dp:=some ⟨d.D,d.c,[(j,o,st.nx,0)]⟩ }:Row)),(st.nx,⟨ty,k,0,ys,none⟩)] τ'=some R'→(τ'=τ∧R'={ R with dp:=some ⟨d.D,d.c,[(j,o,st.nx,0)]⟩ })∨τ'=st.nx∧R'=⟨ty,k,0,ys,none⟩:=fun {τ' R'} h=>by
  rw [lk_cons] at h
  split at h
  ·rename_i e
   cases h
   exact .inl ⟨e.symm,rfl⟩
  ·rw [lk_cons] at h
   split at h
   ·rename_i e
    cases h
    exact .inr ⟨e.symm,rfl⟩
   ·cases h
 have isY:∃ R',lk [(τ,({ R with dp:=some ⟨d.D,d.c,[(j,o,st.nx,0)]⟩ }:Row)),(st.nx,⟨ty,k,0,ys,none⟩)] τ=some R':=⟨_,lk_cons _ _ _ _ |>.trans (if_pos rfl)⟩
 have mv:Mv st E w E' w (fun i=>∃ cs,lk ([]:List (Nat × List Ce)) i=some cs) (fun τ'=>∃ R',lk [(τ,({ R with dp:=some ⟨d.D,d.c,[(j,o,st.nx,0)]⟩ }:Row)),(st.nx,⟨ty,k,0,ys,none⟩)] τ'=some R'):=by
  refine Mv.know (fun b hb=>rl_o fun e=>?_) rfl (fun τ' R' v hτ' _=>vl_o (r.sc.fr τ' R' hτ')) fun τ' hR' hY g=>⟨fun hg=>(rl_o fun e=>?_).trans hg,fun j' o' hg=>(rl_o fun e=>?_).trans hg⟩
  ·rw [e] at hb
   rcases hb with h|h|⟨i,h⟩ <;> cases h
  ·rw [e] at hg
   cases hg
  ·rw [e] at hg
   cases hg
   exact hY isY
 refine ⟨E',RepM.app (v:=.tuple #[]) (r.mono (Nat.le_add_right _ 1)) (t:=none) (fun _ h=>by cases h) mv ⟨fun τ' R1 R2 e1 e2=>?_,fun b hb=>(by cases hb),fun p hp=>(by cases hp),fun _ _ h=>(by cases h),fun τ' R' h=>?_,fun τ' R' d' h hd' l hl=>?_⟩ trivial (fun _ _ h=>by cases h) (fun τ' R' h=>?_)⟩
 ·rcases one e2 with ⟨rfl,rfl⟩|⟨rfl,rfl⟩
  ·rw [hR] at e1
   cases e1
   exact Nat.le_refl _
  ·exact absurd (r.sc.fr _ _ e1) (Nat.lt_irrefl _)
 ·rcases one h with ⟨rfl,rfl⟩|⟨rfl,rfl⟩ <;> omega
 ·rcases one h with ⟨rfl,rfl⟩|⟨rfl,rfl⟩
  ·cases hd'
   obtain rfl:l=(j,o,st.nx,0):=by simpa using hl
   refine .inr ⟨⟨ty,k,0,ys,none⟩,?_,Nat.le_refl _⟩
   rw [lk_cons,if_neg (by simp only;omega),lk_cons,if_pos rfl]
  ·cases hd'
 ·rcases one h with ⟨rfl,rfl⟩|⟨rfl,rfl⟩
  ·refine RD.rr rfl hM ⟨es,by show World.ownsRow _ _ _ _ (E'.vl τ' R.ver) _ _;rw [vl_o hτ];exact h1,⟨h2.len,h2.ln,h2.one,fun j' vs ts' q1 q2 o' v' t' q3 q4=>?_⟩,fun g hg=>?_⟩
   ·have hce:=h2.at_ j' vs ts' q1 q2 o' v' t' q3 q4
    have hno:∀ ρ u,(j',o',ρ,u)∉d.ln:=fun ρ u=>by rw [hln];exact List.not_mem_nil
    refine ⟨fun ρ u hm=>?_,fun hnl=>⟨fun ty' k' hm hlt=>?_,fun hm=>?_⟩⟩
    ·simp only [List.mem_singleton,Prod.mk.injEq] at hm
     obtain ⟨rfl,rfl,rfl,rfl⟩:=hm
     rw [hex] at q1
     cases q1
     rw [hv] at q3
     cases q3
     exact ⟨by simp only [E',if_true],hv1⟩
    ·obtain ⟨xs',e2,h5⟩:=(hce.2 hno).1 ty' k' hm hlt
     refine ⟨xs',e2,h5.to (Nat.le_refl _) (fun b hb _=>(rl_o (fun e=>by rw [hb] at e;cases e)).trans hb) fun g _ _ hg=>?_⟩
     refine (rl_o fun e=>?_).trans hg
     rw [hg] at e
     cases e
     exact hnl st.nx 0 List.mem_cons_self
    ·exact ((hce.2 hno).2 hm).frame (Nat.le_refl _) (fun _ _ _=>rfl) fun b hb _=>(rl_o (fun e=>by rw [show E.rl b=_ from hb] at e;cases e)).trans hb
   ·have hg:(E'.vl τ' R.ver).ownBlock=some g:=hg
    rw [vl_o hτ] at hg
    exact (rl_o fun e=>by rw [h3 g hg] at e;cases e).trans (h3 g hg)
  ·refine Ow.rr rfl ?_
   show Ow E' w w0.heap.size (.rw st.nx) ty k (E'.vl st.nx 0) ys
   rw [show E'.vl st.nx 0=v by simp only [E',if_true]]
   exact how.to (Nat.le_refl _) (fun b hb _=>(rl_o (fun e=>by rw [hb] at e;cases e)).trans hb) fun g _ _ hg=>rl_n hg
def lnRho (ρ:Nat):List (Nat × Nat × Nat × Nat)→Option Nat
 | []=>none
 | l :: r=>bif Nat.beq l.2.2.1 ρ then some l.2.1 else lnRho ρ r
def inD (o ty k:Nat):List (Nat × Nat × Nat)→Bool
 | []=>false
 | x :: r=>bif Nat.beq x.1 o&&(Nat.beq x.2.1 ty&&Nat.beq x.2.2 k) then true else inD o ty k r
theorem inD_mem {o ty k:Nat}:∀ {D:List (Nat × Nat × Nat)},inD o ty k D=true→(o,ty,k)∈D
 | (a,b,c) :: r,h=>by
  unfold inD at h
  cases hb:Nat.beq a o&&(Nat.beq b ty&&Nat.beq c k) with
  | true=>
   simp only [Bool.and_eq_true] at hb
   obtain ⟨rfl,rfl,rfl⟩:a=o∧b=ty∧c=k:=⟨Nat.eq_of_beq_eq_true hb.1,Nat.eq_of_beq_eq_true hb.2.1,Nat.eq_of_beq_eq_true hb.2.2⟩
   exact List.mem_cons_self
  | false=>
   simp only [hb,cond_false] at h
   exact List.mem_cons_of_mem _ (inD_mem h)
 | [],h=>by cases h
theorem ixN_ne {x:Nat}:∀ {l:List Nat},x∈l→ixN x l≠none
 | y :: r,hx,h=>by
  unfold ixN at h
  cases hq:Nat.beq y x with
  | true=>simp [hq] at h
  | false=>
   simp only [hq,cond_false] at h
   rcases List.mem_cons.1 hx with rfl|hx
   ·simp at hq
   ·have:=ixN_ne hx
    cases hz:ixN x r with
    | none=>exact this hz
    | some i=>simp [hz] at h
 | [],hx,_=>by cases hx
def fillT (D:List (Nat × Nat × Nat)) (rw:List (Nat × Row)):List (Nat × Nat × Nat × Nat)→List Tr→Option (List Tr × List (Nat × Row))
 | [],ts=>some (ts,[])
 | (_,o,ρ,u) :: l,ts=>match lk rw ρ,fillT D rw l ts with
  | some ⟨ty,k,ver,ys,none⟩,some (ts',rs)=>bif Nat.beq ver u&&inD o ty k D then some (ts'.set o (.sl k ys),(ρ,⟨ty,k,u+1,[],none⟩) :: rs) else none
  | _,_=>none
theorem fillT_ok {D:List (Nat × Nat × Nat)} {rw:List (Nat × Row)}:∀ {ln:List (Nat × Nat × Nat × Nat)} {ts ts':List Tr} {rs:List (Nat × Row)},fillT D rw ln ts=some (ts',rs)→nodupN (ln.map (·.2.1))=true→
  ts'.length=ts.length∧(∀ i o ρ u,(i,o,ρ,u)∈ln→∃ ty k ys,lk rw ρ=some ⟨ty,k,u,ys,none⟩∧(o,ty,k)∈D∧(o < ts.length→ts'[o]? = some (.sl k ys)))∧(∀ p,(∀ l∈ln,l.2.1≠p)→ts'[p]? = ts[p]?)∧
  (∀ ρ R',lk rs ρ=some R'→∃ i o u ty k ys,(i,o,ρ,u)∈ln∧lk rw ρ=some ⟨ty,k,u,ys,none⟩∧R'=⟨ty,k,u+1,[],none⟩)∧∀ l∈ln,∃ R',lk rs l.2.2.1=some R'
 | [],ts,ts',rs,h,_=>by
  cases h
  exact ⟨rfl,fun i o ρ u hm=>(by cases hm),fun p _=>rfl,fun ρ R' h=>(by cases h),fun l hm=>by cases hm⟩
 | (i0,o0,ρ0,u0) :: ln,ts,ts',rs,h,hn=>by
  unfold fillT at h
  split at h
  ·rename_i ty k ver ys ts1 rs1 h1 h2
   cases hb:Nat.beq ver u0&&inD o0 ty k D with
   | false=>rw [hb] at h;cases h
   | true=>
    rw [hb] at h
    cases h
    rw [Bool.and_eq_true] at hb
    obtain rfl:=Nat.eq_of_beq_eq_true hb.1
    have hn1:nodupN (ln.map (·.2.1))=true∧ixN o0 (ln.map (·.2.1))=none:=by
     rw [List.map_cons] at hn
     unfold nodupN at hn
     split at hn
     ·cases hn
     ·rename_i h3
      exact ⟨hn,h3⟩
    have hne:∀ l∈ln,l.2.1≠o0:=fun l hl e=>by
     exact ixN_ne (x:=o0) (l:=ln.map (·.2.1)) (List.mem_map.2 ⟨l,hl,e⟩) hn1.2
    obtain ⟨a1,a2,a3,a4,a5⟩:=fillT_ok h2 hn1.1
    refine ⟨by rw [List.length_set,a1],fun i o ρ u hm=>?_,fun p hp=>?_,fun ρ R' hl=>?_,fun l hm=>?_⟩
    ·rcases List.mem_cons.1 hm with e|hm
     ·cases e
      exact ⟨ty,k,ys,h1,inD_mem hb.2,fun hlt=>by rw [List.getElem?_set_self (by rw [a1];exact hlt)]⟩
     ·obtain ⟨ty',k',ys',g1,g2,g3⟩:=a2 i o ρ u hm
      exact ⟨ty',k',ys',g1,g2,fun hlt=>by rw [List.getElem?_set_ne (fun e=>hne _ hm e.symm)];exact g3 hlt⟩
    ·rw [List.getElem?_set_ne (fun e=>hp _ List.mem_cons_self e)]
     exact a3 p fun l hl=>hp l (List.mem_cons_of_mem _ hl)
    ·rw [lk_cons] at hl
     split at hl
     ·rename_i e
      subst e
      cases hl
      exact ⟨i0,o0,ver,ty,k,ys,List.mem_cons_self,h1,rfl⟩
     ·obtain ⟨i,o,u,ty',k',ys',g1,g2⟩:=a4 ρ R' hl
      exact ⟨i,o,u,ty',k',ys',List.mem_cons_of_mem _ g1,g2⟩
    ·rw [lk_cons]
     split
     ·exact ⟨_,rfl⟩
     ·rcases List.mem_cons.1 hm with rfl|hm
      ·rename_i e
       exact (e rfl).elim
      ·exact a5 l hm
  ·cases h
theorem lnRho_some {ρ o:Nat}:∀ {ln:List (Nat × Nat × Nat × Nat)},lnRho ρ ln=some o→∃ i u,(i,o,ρ,u)∈ln
 | (a,b,c,d) :: r,h=>by
  unfold lnRho at h
  cases hb:Nat.beq c ρ with
  | true=>
   simp only [hb,cond_true] at h
   cases h
   rw [Nat.eq_of_beq_eq_true hb]
   exact ⟨a,d,List.mem_cons_self⟩
  | false=>
   simp only [hb,cond_false] at h
   obtain ⟨i,u,h1⟩:=lnRho_some h
   exact ⟨i,u,List.mem_cons_of_mem _ h1⟩
 | [],h=>by cases h
theorem lnRho_of {i o ρ u:Nat}:∀ {ln:List (Nat × Nat × Nat × Nat)},nodupN (ln.map (·.2.2.1))=true→(i,o,ρ,u)∈ln→lnRho ρ ln=some o
 | (a,b,c,d) :: r,hn,h=>by
  rw [List.map_cons] at hn
  unfold nodupN at hn
  unfold lnRho
  rcases List.mem_cons.1 h with e|h
  ·cases e
   simp
  ·split at hn
   ·cases hn
   ·rename_i h3
    cases hb:Nat.beq c ρ with
    | true=>
     exfalso
     have e:=Nat.eq_of_beq_eq_true hb
     simp only at h3
     rw [e] at h3
     exact ixN_ne (x:=ρ) (l:=r.map (·.2.2.1)) (List.mem_map.2 ⟨_,h,rfl⟩) h3
    | false=>
     simp only [cond_false]
     exact lnRho_of hn h
 | [],_,h=>by cases h
def lnEl (j:Nat):List (Nat × Nat × Nat × Nat)→Prop
 | []=>True
 | l :: r=>l.1=j∧lnEl j r
theorem lnEl_ok {j:Nat}:∀ {ln:List (Nat × Nat × Nat × Nat)},lnEl j ln→∀ l∈ln,l.1=j
 | a :: r,h,l,hl=>by
  rcases List.mem_cons.1 hl with rfl|hl
  ·exact h.1
  ·exact lnEl_ok h.2 l hl
 | [],_,l,hl=>by cases hl
def spans (ln:List (Nat × Nat × Nat × Nat)):List (Nat × Nat × Nat)→Bool
 | []=>true
 | x :: r=>memN x.1 (ln.map (·.2.1))&&spans ln r
theorem spans_ok {ln:List (Nat × Nat × Nat × Nat)}:∀ {D:List (Nat × Nat × Nat)},spans ln D=true→∀ x∈D,∃ l∈ln,l.2.1=x.1
 | a :: r,h,x,hx=>by
  unfold spans at h
  rw [Bool.and_eq_true] at h
  rcases List.mem_cons.1 hx with rfl|hx
  ·obtain ⟨l,h1,h2⟩:=List.mem_map.1 (memN_mem h.1)
   exact ⟨l,h1,h2⟩
  ·exact spans_ok h.2 x hx
 | [],_,x,hx=>by cases hx
theorem nodup_D:∀ {D:List (Nat × Nat × Nat)},nodupN (D.map (·.1))=true→∀ {o ty k ty' k'},(o,ty,k)∈D→(o,ty',k')∈D→ty=ty'∧k=k'
 | (a,b,c) :: r,h,o,ty,k,ty',k',h1,h2=>by
  rw [List.map_cons] at h
  unfold nodupN at h
  split at h
  ·cases h
  ·rename_i h3
   have no:∀ {ty k},(a,ty,k)∈r→False:=fun {ty k} hm=>by
    exact ixN_ne (x:=a) (l:=r.map (·.1)) (List.mem_map.2 ⟨_,hm,rfl⟩) h3
   rcases List.mem_cons.1 h1 with e1|h1 <;> rcases List.mem_cons.1 h2 with e2|h2
   ·cases e1
    cases e2
    exact ⟨rfl,rfl⟩
   ·cases e1
    exact (no h2).elim
   ·cases e2
    exact (no h1).elim
   ·exact nodup_D h h1 h2
 | [],_,_,_,_,_,_,h1,_=>by cases h1
open Classical in
theorem Tp.put {N:Nat} {w0:World} {c:Code} {st:St} {Q:Ex→St→Prop} (τ j c':Nat) {R:Row} {d:Dp} {ts ts':List Tr} {rs:List (Nat × Row)} (hR:lk st.rw τ=some R) (hd:R.dp=some d) (hts:R.xs[j]? = some ts) (hf:fillT d.D st.rw d.ln ts=some (ts',rs)) (hj:lnEl j d.ln) (hnd:(nodupN (d.ln.map (·.2.1))&&(nodupN (d.ln.map (·.2.2.1))&&nodupN (d.D.map (·.1))))=true) (hc:c'=d.c∧j < d.c∨c'=d.c+1∧j=d.c∧spans d.ln d.D=true)
  (h:Tp P T N w0 O c ⟨st.sl,st.bx,((τ,{ R with xs:=R.xs.set j ts',dp:=some ⟨d.D,c',[]⟩ }) :: rs)++st.rw,st.nx⟩ Q) (hM:d.isM=false:=by rfl):Tp P T N w0 O c st Q:=by
 refine Tp.know ((τ,{ R with xs:=R.xs.set j ts',dp:=some ⟨d.D,c',[]⟩ }) :: rs) 0 (fun E w a r=>?_) h
 simp only [Bool.and_eq_true] at hnd
 obtain ⟨n1,n2,n3⟩:=hnd
 obtain ⟨f1,f2,f3,f4,f5⟩:=fillT_ok hf n1
 have hje:=lnEl_ok hj
 have hcc:d.c≤c'∧j < c':=by omega
 obtain ⟨es,h1,h2,h3⟩:=(r.row τ R hR).rd hd hM
 have hτn:∀ i o u,(i,o,τ,u)∉d.ln:=fun i o u hm=>by
  obtain ⟨ty,k,ys,g1,_⟩:=f2 i o τ u hm
  rw [hR] at g1
  cases g1
  cases hd
 let E':Env:=⟨fun b=>match E.rl b with
  | .rw ρ=>(match lnRho ρ d.ln with
   | some o=>.nst τ j o
   | none=>.rw ρ)
  | x=>x,E.bk,fun ρ u=>if ∃ i o u',(i,o,ρ,u')∈d.ln∧u=u'+1 then .slice none 0 0 else E.vl ρ u⟩
 have rl_x:∀ {b},(∀ ρ,E.rl b=.rw ρ→lnRho ρ d.ln=none)→E'.rl b=E.rl b:=fun {b} hb=>by
  simp only [E']
  split
  ·rename_i ρ e
   rw [hb ρ e]
   exact e.symm
  ·rfl
 have rl_c:∀ {b},E.rl b=.cold→E'.rl b=.cold:=fun {b} hb=>(rl_x fun ρ e=>by rw [hb] at e;cases e).trans hb
 have rl_s:∀ {b x y z},E.rl b=.nst x y z→E'.rl b=.nst x y z:=fun {b x y z} hb=>(rl_x fun ρ e=>by rw [hb] at e;cases e).trans hb
 have rl_r:∀ {b ρ},(∀ i o u,(i,o,ρ,u)∉d.ln)→E.rl b=.rw ρ→E'.rl b=.rw ρ:=fun {b ρ} hρ hb=>(rl_x fun ρ' e=>by
  rw [hb] at e
  cases e
  cases hq:lnRho ρ d.ln with
  | none=>rfl
  | some o=>
   obtain ⟨i,u,hm⟩:=lnRho_some hq
   exact (hρ i o u hm).elim).trans hb
 have rl_l:∀ {b i o ρ u},(i,o,ρ,u)∈d.ln→E.rl b=.rw ρ→E'.rl b=.nst τ j o:=fun {b i o ρ u} hm hb=>by
  simp only [E',hb,lnRho_of n2 hm]
 have vl_o:∀ {ρ u R'},lk st.rw ρ=some R'→u≤R'.ver→E'.vl ρ u=E.vl ρ u:=fun {ρ u R'} hρ hu=>by
  simp only [E']
  rw [if_neg]
  rintro ⟨i,o,u',hm,rfl⟩
  obtain ⟨ty,k,ys,g1,_⟩:=f2 i o ρ u' hm
  rw [hρ] at g1
  cases g1
  simp only at hu
  omega
 have one:∀ {τ' R'},lk ((τ,({ R with xs:=R.xs.set j ts',dp:=some ⟨d.D,c',[]⟩ }:Row)) :: rs) τ'=some R'→(τ'=τ∧R'={ R with xs:=R.xs.set j ts',dp:=some ⟨d.D,c',[]⟩ })∨∃ i o u ty k ys,(i,o,τ',u)∈d.ln∧lk st.rw τ'=some ⟨ty,k,u,ys,none⟩∧R'=⟨ty,k,u+1,[],none⟩:=fun {τ' R'} h=>by
  rw [lk_cons] at h
  split at h
  ·rename_i e
   cases h
   exact .inl ⟨e.symm,rfl⟩
  ·exact .inr (f4 _ _ h)
 have inY:∀ {τ'},(τ'=τ∨∃ i o u,(i,o,τ',u)∈d.ln)→∃ R',lk ((τ,({ R with xs:=R.xs.set j ts',dp:=some ⟨d.D,c',[]⟩ }:Row)) :: rs) τ'=some R':=fun {τ'} h=>by
  rw [lk_cons]
  split
  ·exact ⟨_,rfl⟩
  ·rename_i hne
   rcases h with rfl|⟨i,o,u,hm⟩
   ·exact (hne rfl).elim
   ·exact f5 _ hm
 have mv:Mv st E w E' w (fun i=>∃ cs,lk ([]:List (Nat × List Ce)) i=some cs) (fun τ'=>∃ R',lk ((τ,({ R with xs:=R.xs.set j ts',dp:=some ⟨d.D,c',[]⟩ }:Row)) :: rs) τ'=some R'):=by
  refine Mv.know (fun b hb=>rl_x fun ρ e=>?_) rfl (fun τ' R' v hτ' hv=>vl_o hτ' hv) fun τ' hR' hY g=>⟨fun hg=>rl_r (fun i o u hm=>hY (inY (.inr ⟨i,o,u,hm⟩))) hg,fun j' o' hg=>rl_s hg⟩
  rw [e] at hb
  rcases hb with h|h|⟨i,h⟩ <;> cases h
 refine ⟨E',RepM.app (v:=.tuple #[]) r (t:=none) (fun _ h=>by cases h) mv ⟨fun τ' R1 R2 e1 e2=>?_,fun b hb=>(by cases hb),fun p hp=>(by cases hp),fun _ _ h=>(by cases h),fun τ' R' h=>?_,fun τ' R' d' h hd' l hl=>?_⟩ trivial (fun _ _ h=>by cases h) (fun τ' R' h=>?_)⟩
 ·rcases one e2 with ⟨rfl,rfl⟩|⟨i,o,u,ty,k,ys,hm,hl,rfl⟩
  ·rw [hR] at e1
   cases e1
   exact Nat.le_refl _
  ·rw [hl] at e1
   cases e1
   exact Nat.le_succ u
 ·rcases one h with ⟨rfl,rfl⟩|⟨i,o,u,ty,k,ys,hm,hl,rfl⟩
  ·exact r.sc.fr _ R hR
  ·exact r.sc.fr _ _ hl
 ·rcases one h with ⟨rfl,rfl⟩|⟨i,o,u,ty,k,ys,hm,hl,rfl⟩
  ·cases hd'
   cases hl
  ·cases hd'
 ·rcases one h with ⟨rfl,rfl⟩|⟨i,o,u,ty,k,ys,hm,hl,rfl⟩
  ·refine RD.rr rfl hM ⟨es,by show World.ownsRow _ _ _ _ (E'.vl τ' R.ver) _ _;rw [vl_o hR (Nat.le_refl _)];exact h1,⟨by rw [List.length_set];exact h2.len,fun j' vs us q1 q2=>?_,h2.one,fun j' vs us q1 q2 o' v t q3 q4=>?_⟩,fun g hg=>?_⟩
   ·by_cases hjj:j=j'
    ·subst hjj
     rw [List.getElem?_set_self (List.getElem?_eq_some_iff.1 hts).1] at q2
     cases q2
     rw [f1]
     exact h2.ln j vs ts q1 hts
    ·rw [List.getElem?_set_ne hjj] at q2
     exact h2.ln j' vs us q1 q2
   ·refine ⟨fun ρ u hm=>(by cases hm),fun _=>?_⟩
    have unl:∀ {j'':Nat} {us0:List Tr} {t0:Tr},es[j'']? = some vs→R.xs[j'']? = some us0→us0[o']? = some t0→j''=j'→t=t0→(∀ ρ u,(j',o',ρ,u)∉d.ln)→(∀ ty k,(o',ty,k)∈d.D→j' < c'→∃ xs,t=.sl k xs∧Ow E' w w0.heap.size (.nst τ' j' o') ty k v xs)∧((∀ ty k,(o',ty,k)∈d.D→¬ j' < c')→RT E'.F w v t):=fun {j'' us0 t0} p1 p2 p3 p4 p5 hno=>by
     subst p4 p5
     obtain ⟨_,p6⟩:=h2.at_ j'' vs us0 p1 p2 o' v t q3 p3
     obtain ⟨p7,p8⟩:=p6 hno
     refine ⟨fun ty k hm hlt=>?_,fun hm=>(p8 fun ty k hm' hlt=>hm ty k hm' (by omega)).frame (Nat.le_refl _) (fun _ _ _=>rfl) fun b hb _=>rl_c hb⟩
     have hlt2:j'' < d.c:=by
      rcases hc with ⟨e,_⟩|⟨e1,e2,e3⟩
      ·omega
      ·by_cases hjc:j''=d.c
       ·obtain ⟨l,hl,e4⟩:=spans_ok e3 _ hm
        obtain ⟨l1,l2,l3,l4⟩:=l
        have e5:=hje _ hl
        simp only at e4 e5
        subst e4
        rw [e5,e2,← hjc] at hl
        exact (hno _ _ hl).elim
       ·omega
     obtain ⟨xs,p9,p10⟩:=p7 ty k hm hlt2
     exact ⟨xs,p9,p10.to (Nat.le_refl _) (fun b hb _=>rl_c hb) fun g _ _ hg=>rl_s hg⟩
    by_cases hjj:j=j'
    ·subst hjj
     rw [List.getElem?_set_self (List.getElem?_eq_some_iff.1 hts).1] at q2
     cases q2
     by_cases hlk:∃ ρ u,(j,o',ρ,u)∈d.ln
     ·obtain ⟨ρ,u,hm⟩:=hlk
      obtain ⟨ty,k,ys,g1,g2,g3⟩:=f2 j o' ρ u hm
      have hot:o' < ts.length:=by rw [← f1];exact (List.getElem?_eq_some_iff.1 q4).1
      have g4:=g3 hot
      rw [q4] at g4
      cases g4
      obtain ⟨t0,ht0⟩:∃ t0,ts[o']? = some t0:=⟨_,List.getElem?_eq_getElem hot⟩
      obtain ⟨p6,_⟩:=h2.at_ j vs ts q1 hts o' v t0 q3 ht0
      obtain ⟨p7,_⟩:=p6 ρ u hm
      refine ⟨fun ty' k' hm' _=>?_,fun hall=>(hall ty k g2 hcc.2).elim⟩
      obtain ⟨rfl,rfl⟩:=nodup_D n3 g2 hm'
      refine ⟨ys,rfl,?_⟩
      rw [p7]
      exact ((r.row ρ _ g1).ow rfl).to (Nat.le_refl _) (fun b hb _=>rl_c hb) fun g _ _ hg=>rl_l hm hg
     ·have hno:∀ ρ u,(j,o',ρ,u)∉d.ln:=fun ρ u hm=>hlk ⟨ρ,u,hm⟩
      have e:=f3 o' fun l hl e=>by
       obtain ⟨l1,l2,l3,l4⟩:=l
       have e5:=hje _ hl
       simp only at e e5
       subst e e5
       exact hno _ _ hl
      rw [q4] at e
      exact unl q1 hts e.symm rfl rfl hno
    ·rw [List.getElem?_set_ne hjj] at q2
     exact unl q1 q2 q4 rfl rfl fun ρ u hm=>hjj (hje _ hm).symm
   ·have hg:(E'.vl τ' R.ver).ownBlock=some g:=hg
    rw [vl_o hR (Nat.le_refl _)] at hg
    exact rl_r (fun i o u=>hτn i o u) (h3 g hg)
  ·refine Ow.rr rfl ?_
   show Ow E' w w0.heap.size (.rw τ') ty k (E'.vl τ' (u+1)) []
   rw [show E'.vl τ' (u+1)=.slice none 0 0 by
    simp only [E']
    rw [if_pos ⟨i,o,u,hm,rfl⟩]]
   exact ⟨[],World.ownsRow_nil _ _ _ _,⟨rfl,fun j vs ts h=>by simp at h⟩,fun g hg=>by cases hg⟩
end
section
variable {P:Program} {T:Nat→Option Ty} {N:Nat}
theorem cond_p {p:Prop} [Decidable p] {A B:Prop} (h1:p→A) (h2:¬ p→B):cond (decide p) A B:=by
 by_cases h:p
 ·rw [decide_eq_true h];exact h1 h
 ·rw [decide_eq_false h];exact h2 h
theorem cond_e {x y:Int} {A B:Prop} (h1:x=y→A) (h2:¬ x=y→B):cond (x==y) A B:=by
 by_cases h:x=y
 ·rw [beq_iff_eq.2 h];exact h1 h
 ·rw [beq_false_of_ne h];exact h2 h
theorem cond_n {b:Bool} {A B:Prop} (h:cond b B A):cond (!b) A B:=by cases b <;> exact h
theorem cond_ne {x y:Int} {A B:Prop} (h1:¬ x=y→A) (h2:x=y→B):cond (x != y) A B:=cond_n (cond_e h2 h1)
theorem ix_map {α:Type} {l:List α} {f:α→List Tr} {n:Int} {K:List Tr→Prop} (h0:0≤n) (h1:n < ((l.map f).length:Int)) (h:∀ x,x∈l→K (f x)):∃ (j:Nat) (ts:List Tr),n=j∧(l.map f)[j]? = some ts∧K ts:=by
 rw [Lm] at h1
 have hl:n.toNat < l.length:=by omega
 exact ⟨n.toNat,f l[n.toNat],by omega,by rw [List.getElem?_map,List.getElem?_eq_getElem hl];rfl,h _ (List.getElem_mem hl)⟩
theorem ix_mp {α:Type} {l:List α} {p:α→Prop} (hp:∀ y∈l,p y) {f:α→List Tr} {n:Int} {K:List Tr→Prop} (h0:0≤n) (h1:n < ((l.map f).length:Int)) (h:∀ x,x∈l→p x→K (f x)):∃ (j:Nat) (ts:List Tr),n=j∧(l.map f)[j]? = some ts∧K ts:=ix_map h0 h1 fun x hx=>h x hx (hp x hx)
theorem ix_str {s:ByteArray} {n:Int} {R:(j:Nat)→j < s.size→Prop} (h0:0≤n) (h1:n < (s.size:Int)) (h:∀ hl:n.toNat < s.size,R n.toNat hl):∃ (j:Nat) (h:j < s.size),n=j∧R j h:=by
 have hl:n.toNat < s.size:=by omega
 exact ⟨n.toNat,hl,by omega,h hl⟩
theorem sl_str {s:ByteArray} {A B:Nat→Prop} {R:Nat→Nat→Prop} (l h:Nat) (ha:A l) (hb:B h) (h1:l≤h) (h2:h≤s.size) (hk:(s.extract l h).size=h - l→R l h):∃ l h:Nat,A l∧B h∧l≤h∧h≤s.size∧R l h:=⟨l,h,ha,hb,h1,h2,hk (by rw [ByteArray.size_extract];omega)⟩
theorem cat_s {a b:ByteArray} {R:Prop} (h:a.size+b.size≤9223372036854775807) (hk:(a++b).size=a.size+b.size→R):a.size+b.size≤9223372036854775807∧R:=⟨h,hk ByteArray.size_append⟩
theorem call_x {ι:Type} {mk:ι→AV} {Φ:ι→Prop} {f:FuncId} {ars:List AV} {A:List AV→Prop} {B:Bool→Prop} {K:AV→List Row→Prop} {X:Prop} (ct:∃ b,Φ b∧Ct P f ars (mk b) [] true) (h1:A ars) (h2:B true) (h3:∀ b,Φ b→K (mk b) []):(∃ ars r rs fresh,A ars∧Ct P f ars r rs fresh∧B fresh∧K r rs)∨X:=by
 obtain ⟨b,hb,h⟩:=ct
 exact .inl ⟨ars,mk b,[],true,h1,h,h2,h3 b hb⟩
theorem call_f (f:FuncId) {A:List AV→Prop} {B:Bool→Prop} {K:AV→List Row→Prop} {X:Prop} (h:(∃ ars r rs fresh,A ars∧Ct P f ars r rs fresh∧B fresh∧K r rs)∨X):(∃ ars r rs fresh,A ars∧Ct P f ars r rs fresh∧B fresh∧K r rs)∨X:=h
theorem leaf_x {ι:Type} {mk:ι→AV} {Φ:ι→Prop} {fn:Func} {e:Ex} {st:St} (b:ι) (h:FinE T fn (mk b) [] e st) (hb:Φ b) (hr:resB (mk b) []=true):∃ rv rs,(∃ b,rv=mk b∧rs=[]∧Φ b)∧(Nat.ble rs.length 128=true∧resB rv rs=true)∧FinE T fn rv rs e st:=⟨mk b,[],⟨b,rfl,rfl,hb⟩,⟨rfl,hr⟩,h⟩
theorem ct_x {ι:Type} {mk:ι→AV} {Φ:ι→Prop} {f:FuncId} {ars:List AV} (hl:∀ b,litT (mk b)=true) (h:∃ rv rs,(∃ b,rv=mk b∧rs=[]∧Φ b)∧Ct P f ars rv rs false):∃ b,Φ b∧Ct P f ars (mk b) [] true:=by
 obtain ⟨rv,rs,⟨b,rfl,rfl,hb⟩,hc⟩:=h
 exact ⟨b,hb,Ct.litT hc (hl b)⟩
theorem lit_b (b:Bool):litT (AV.b b)=true:=rfl
theorem lit_i (b:Int):litT (AV.i b)=true:=rfl
theorem lit_s (b:ByteArray):litT (AV.s b)=true:=rfl
noncomputable def firstR (c:Code):Nat:=Code.rec (motive:=fun _=>Nat) 9999 (fun id _ _=>id) (fun _ _ a _=>a) (fun _ _ _ a _=>a+1000) (fun _ _ a=>a) (fun _ a=>a+2000) (fun _ _ _ _ _ _=>9999) (fun _=>9999) (fun _ _=>9999) (fun _=>9999) (fun _=>9999) 9999 (fun _=>9999) c
def WPY (P:Program) (T:Nat→Option Ty) (N:Nat) (cs ct:List Nat) (c:Code):St→(Ex→St→Prop)→Prop:=
 Code.rec (motive:=fun _=>St→(Ex→St→Prop)→Prop) (fun st Q=>Q .nrm st) (fun id ops d st Q=>WPrX P T N cs id ops d st Q) (fun a b iha ihb st Q=>match memb (firstR b) ct with
   | true=>TpX P T N (.seq a b) st Q
   | false=>iha st (nextQ (fun st'=>ihb st' Q) Q))
  (fun c _ _ iha ihb st Q=>WPc c st (iha st Q) (ihb st Q)) (fun id _ ih st Q=>ih st (blkQ id Q)) (fun c _ st Q=>LpX P T N c st Q) (fun _ _ _ _ _ _ _ _=>False) (fun id st Q=>Q (.exit id) st)
  (fun _ _ _ _=>False) (fun _ _ _=>False) (fun _ _ _=>False) (fun st Q=>Q .ret st) (fun _ _ _=>False) c
theorem TpX.mono {c:Code} {s:St} {Q Q':Ex→St→Prop} (h:TpX P T N c s Q) (hq:∀ e s,Q e s→Q' e s):TpX P T N c s Q':=by
 obtain ⟨e,s',h1,h2⟩:=h
 exact ⟨e,s',h1,hq _ _ h2⟩
theorem TpX.seq {a b:Code} {s:St} {Q:Ex→St→Prop} (h:TpX P T N a s (fun e s1=>match e with
  | .nrm=>TpX P T N b s1 Q
  | e=>Q e s1)):TpX P T N (.seq a b) s Q:=by
 obtain ⟨e,s1,h1,h2⟩:=h
 cases e with
 | nrm=>
  obtain ⟨e2,s2,h3,h4⟩:=h2
  exact ⟨e2,s2,h1.seq h3,h4⟩
 | exit id=>exact ⟨_,_,h1.out (by simp),h2⟩
 | ret=>exact ⟨_,_,h1.out (by simp),h2⟩
theorem TpX.block {id:Nat} {c:Code} {s:St} {Q:Ex→St→Prop} (h:TpX P T N c s (blkQ id Q)):TpX P T N (.block id c) s Q:=by
 obtain ⟨e,s',h1,h2⟩:=h
 cases e with
 | nrm=>exact ⟨.nrm,s',h1.block rfl,h2⟩
 | ret=>exact ⟨.ret,s',h1.block rfl,h2⟩
 | exit i=>
  unfold blkQ at h2
  cases hb:Nat.beq i id with
  | true=>
   simp only [hb] at h2
   exact ⟨.nrm,s',h1.block (by show _=(bif Nat.beq i id then Ex.nrm else Ex.exit i);rw [hb];rfl),h2⟩
  | false=>
   simp only [hb] at h2
   exact ⟨.exit i,s',h1.block (by show _=(bif Nat.beq i id then Ex.nrm else Ex.exit i);rw [hb];rfl),h2⟩
theorem TpX.cond {c:Operand} {a b:Code} {s:St} {Q:Ex→St→Prop} (h:WPc c s (TpX P T N a s Q) (TpX P T N b s Q)):TpX P T N (.cond c a b) s Q:=by
 unfold WPc at h
 split at h
 ·rename_i t ht
  cases t with
  | true=>
   obtain ⟨e,s',h1,h2⟩:=h
   exact ⟨e,s',Run.cond ht (fun _=>h1) (fun h=>by cases h),h2⟩
  | false=>
   obtain ⟨e,s',h1,h2⟩:=h
   exact ⟨e,s',Run.cond ht (fun h=>by cases h) (fun _=>h1),h2⟩
 ·exact h.elim
theorem TpX.runY (cs ct:List Nat):∀ {c:Code} {st:St} {Q:Ex→St→Prop},WPY P T N cs ct c st Q→TpX P T N c st Q
 | .skip,st,_,h=>⟨_,_,Run.skip st,h⟩
 | .region _ _ _,_,_,h=>TpX.run cs (c:=.region _ _ _) h
 | .seq a b,st,Q,h=>by
  change (match memb (firstR b) ct with
   | true=>TpX P T N (.seq a b) st Q
   | false=>WPY P T N cs ct a st (nextQ (fun st'=>WPY P T N cs ct b st' Q) Q)) at h
  split at h
  ·exact h
  ·refine TpX.seq ((TpX.runY cs ct h).mono fun e s hq=>?_)
   cases e with
   | nrm=>exact TpX.runY cs ct hq
   | exit id=>exact hq
   | ret=>exact hq
 | .cond c a b,st,Q,h=>by
  change WPc c st (WPY P T N cs ct a st Q) (WPY P T N cs ct b st Q) at h
  refine TpX.cond ?_
  unfold WPc at h ⊢
  split at h
  ·rename_i t ht
   cases t with
   | true=>exact TpX.runY cs ct (show WPY P T N cs ct a st Q from h)
   | false=>exact TpX.runY cs ct (show WPY P T N cs ct b st Q from h)
  ·exact h.elim
 | .block id c,st,Q,h=>TpX.block (TpX.runY cs ct (show WPY P T N cs ct c st (blkQ id Q) from h))
 | .loop c,st,Q,h=>LpX.tpx (show LpX P T N c st Q from h)
 | .scope ..,_,_,h=>h.elim
 | .exit id,st,Q,h=>⟨_,_,Run.exit id st,h⟩
 | .ret,st,Q,h=>⟨_,_,Run.ret st,h⟩
 | .label _,_,_,h=>h.elim
 | .goto _,_,_,h=>h.elim
 | .rangeFunc ..,_,_,h=>h.elim
 | .refuse _,_,_,h=>h.elim
def selfOk (bx:List (Nat × List Ce)) (v:AV):Bool:=match v with
 | .c x=>x.plain
 | .agg xs=>xs.all Ce.plain
 | .ptr b _=>hasK bx b
 | .nilp=>true
 | .iptr _ _=>true
 | .fn _ caps=>caps.all fun p=>hasK bx p.1
 | .fnI _ _=>true
 | _=>false
theorem selfOk_m {st:St} {m:List (Nat × Nat)} {rw':List (Nat × Row)} {bx:List (Nat × List Ce)} {v:AV} (h:selfOk bx v=true):AvM st m rw' bx v v:=by
 cases v with
 | c x=>cases x with
  | t _=>exact rfl
  | nil=>exact trivial
  | row _ _=>cases h
  | bot=>cases h
 | agg xs=>exact cesM_refl xs h
 | ptr b o=>exact ⟨rfl,rfl,h⟩
 | nilp=>exact trivial
 | iptr _ _=>exact ⟨rfl,rfl⟩
 | fn f caps=>exact ⟨rfl,rfl,h⟩
 | fnI _ _=>exact ⟨rfl,rfl⟩
 | eptr _ _ _ _ _=>cases h
 | sub _ _ _ _=>cases h
 | tup _=>cases h
 | bot=>cases h
theorem slM_self {st:St} {m:List (Nat × Nat)} {rw':List (Nat × Row)} {bx:List (Nat × List Ce)}:∀ {sl:List (Nat × AV)},sl.map (fun p=>(p.1,st.get p.1))=sl→sl.all (fun p=>selfOk bx p.2)=true→SlM st m rw' bx sl
 | [],_,_=>trivial
 | (t,v) :: r,h,h2=>by
  rw [List.map_cons] at h
  rw [List.all_cons,Bool.and_eq_true] at h2
  have h1:st.get t=v:=congrArg Prod.snd (List.cons.inj h).1
  refine ⟨?_,slM_self (List.cons.inj h).2 h2.2⟩
  rw [h1]
  exact selfOk_m h2.1
theorem bxM_self {st:St} {m:List (Nat × Nat)} {rw':List (Nat × Row)}:∀ {bx:List (Nat × List Ce)},bx.map (fun p=>lk st.bx p.1)=bx.map (fun p=>some p.2)→bx.all (fun p=>p.2.all Ce.plain)=true→BxM st m rw' bx
 | [],_,_=>trivial
 | (b,cs) :: r,h,h2=>by
  rw [List.map_cons,List.map_cons] at h
  rw [List.all_cons,Bool.and_eq_true] at h2
  refine ⟨?_,bxM_self (List.cons.inj h).2 h2.2⟩
  rw [(List.cons.inj h).1]
  exact cesM_refl cs h2.1
theorem wk_slim {st:St} {sl:List (Nat × AV)} {bx:List (Nat × List Ce)} {M:Nat} (h1:sl.map (fun p=>(p.1,st.get p.1))=sl) (h2:bx.map (fun p=>lk st.bx p.1)=bx.map (fun p=>some p.2)) (h3:(sl.all (fun p=>selfOk bx p.2)&&bx.all (fun p=>p.2.all Ce.plain))=true) (hn:below M bx []=true):Wk st ⟨sl,bx,[],M⟩:=by
 rw [Bool.and_eq_true] at h3
 exact wk_of [] rfl hn (slM_self h1 h3.1) (bxM_self h2 h3.2) trivial
def kpK (st:St):List Nat→(List (Nat × AV)→Prop)→Prop
 | [],K=>K []
 | t :: r,K=>(st.get t).open_ fun v=>kpK st r fun sl=>K ((t,v) :: sl)
theorem kpK_eq (st:St):∀ (ks:List Nat) (K:List (Nat × AV)→Prop),kpK st ks K=K (ks.map fun t=>(t,st.get t))
 | [],K=>rfl
 | t :: r,K=>by rw [kpK,AV.open_eq,kpK_eq st r];rfl
def kpB (st:St):List Nat→(List (Nat × List Ce)→Prop)→Prop
 | [],K=>K []
 | b :: r,K=>match lk st.bx b with
  | some cs=>forceSp cs fun cs=>kpB st r fun bx=>K ((b,cs) :: bx)
  | none=>False
theorem kpB_eq (st:St):∀ (bs:List Nat) (K:List (Nat × List Ce)→Prop),kpB st bs K→∃ bx,K bx
 | [],K,h=>⟨_,h⟩
 | b :: r,K,h=>by
  rw [kpB] at h
  split at h
  ·rw [forceSp_eq] at h
   obtain ⟨bx,h⟩:=kpB_eq st r _ h
   exact ⟨_,h⟩
  ·exact h.elim
theorem TpX.cut {α:Type} (id:Nat) (vs:α→List (Nat × AV)) (Φ:α→Prop) (ks bs:List Nat) (M:Nat) {a b:Code} {st:St} {Q:Ex→St→Prop} (_:firstR b=id)
  (h:kpK st ks fun sl=>kpB st bs fun bx=>TpX P T N a st (fun e s=>match e with
   | .nrm=>∃ x,Φ x∧Wk s ⟨vs x++sl,bx,[],M⟩
   | e=>Q e s)∧∀ x,Φ x→TpX P T N b ⟨vs x++sl,bx,[],M⟩ Q):TpX P T N (.seq a b) st Q:=by
 rw [kpK_eq] at h
 obtain ⟨bx,h1,h2⟩:=kpB_eq st bs _ h
 refine TpX.seq (h1.mono fun e s hq=>?_)
 cases e with
 | nrm=>
  obtain ⟨x,hx,hw⟩:=hq
  exact (h2 x hx).wk hw
 | exit id=>exact hq
 | ret=>exact hq
theorem LpX.at {α:Type} (id:Nat) (vs:α→List (Nat × AV)) (ok:α→Prop) (μ:α→Nat) (ks bs:List Nat) (M:Nat) {c:Code} {st:St} {Q:Ex→St→Prop} (_:firstR c=id)
  (h:kpK st ks fun sl=>kpB st bs fun bx=>(∃ x,ok x∧Wk st ⟨vs x++sl,bx,[],M⟩)∧∀ x,ok x→TpX P T N c ⟨vs x++sl,bx,[],M⟩ (fun e s=>match e with
   | .nrm=>∃ y,(ok y∧μ y < μ x)∧Wk s ⟨vs y++sl,bx,[],M⟩
   | e=>Q e s)):LpX P T N c st Q:=by
 rw [kpK_eq] at h
 obtain ⟨bx,⟨x0,h0,hw⟩,h2⟩:=kpB_eq st bs _ h
 refine LpX.loop (fun x=>⟨vs x++ks.map (fun t=>(t,st.get t)),bx,[],M⟩) ok μ x0 hw h0 fun x hx=>(h2 x hx).mono fun e s hq=>?_
 cases e with
 | nrm=>
  obtain ⟨y,⟨h3,h4⟩,h5⟩:=hq
  exact ⟨y,h3,h4,h5⟩
 | exit id=>exact hq
 | ret=>exact hq
theorem LpX.up {β:Type} (id t:Nat) (n:Int) (hn:n≤4611686018427387904) (hn0:0≤n) (vs:β→List (Nat × AV)) (Φ:Int→β→Prop) (ks bs:List Nat) (M:Nat) {c:Code} {st:St} {Q:Ex→St→Prop} (_:firstR c=id)
  (h:kpK st ks fun sl=>kpB st bs fun bx=>(∃ b,Φ 0 b∧Wk st ⟨(t,AV.i 0) :: (vs b++sl),bx,[],M⟩)∧∀ i b,0≤i→i≤n→Φ i b→TpX P T N c ⟨(t,AV.i i) :: (vs b++sl),bx,[],M⟩ (fun e s=>match e with
   | .nrm=>i < n∧∃ b,Φ (i+1) b∧Wk s ⟨(t,AV.i (IntKind.i64.wrap (i+1))) :: (vs b++sl),bx,[],M⟩
   | e=>Q e s)):LpX P T N c st Q:=by
 rw [kpK_eq] at h
 obtain ⟨bx,⟨b0,h0,hw⟩,h2⟩:=kpB_eq st bs _ h
 refine LpX.loop (fun x:Int × β=>⟨(t,AV.i x.1) :: (vs x.2++ks.map (fun t=>(t,st.get t))),bx,[],M⟩) (fun x=>0≤x.1∧x.1≤n∧Φ x.1 x.2) (fun x=>(n - x.1).toNat) (0,b0) hw ⟨Int.le_refl _,hn0,h0⟩ fun x hx=>(h2 x.1 x.2 hx.1 hx.2.1 hx.2.2).mono fun e s hq=>?_
 cases e with
 | nrm=>
  obtain ⟨h3,b,h4,h5⟩:=hq
  rw [IntKind.wrap_i64,show (x.1+1+9223372036854775808) % 18446744073709551616 - 9223372036854775808=x.1+1 by omega] at h5
  exact ⟨(x.1+1,b),⟨by have:=hx.1;show 0≤x.1+1;omega,by show x.1+1≤n;omega,h4⟩,by have:=hx.1;show (n - (x.1+1)).toNat < (n - x.1).toNat;omega,h5⟩
 | exit id=>exact hq
 | ret=>exact hq
theorem LpX.one (id:Nat) {c:Code} {st:St} {Q:Ex→St→Prop} (_:firstR c=id) (h:TpX P T N c st (fun e s1=>match e with
  | .nrm=>LpX P T N c s1 Q
  | e=>Q e s1)):LpX P T N c st Q:=LpX.once h
theorem len62 {α β:Type} {l:List α} {f:α→β} {b:Nat} (h:l.length*b≤limB) (hb:Nat.blt 0 b=true):(((l.map f).length:Nat):Int)≤4611686018427387904:=by
 unfold limB at h
 rw [Lm]
 have:=Nb hb
 have:l.length*1≤l.length*b:=Nat.mul_le_mul (Nat.le_refl _) this
 omega
theorem cat_l {a b:ByteArray} {R:Prop} (hl:Nat.ble a.size 40=true) (h:40+b.size≤9223372036854775807) (hk:(a++b).size≤40+b.size→R):a.size+b.size≤9223372036854775807∧R:=by
 have:=Nb hl
 exact ⟨by omega,hk (by rw [ByteArray.size_append];omega)⟩
theorem cat_r {a b:ByteArray} {R:Prop} (hl:Nat.ble b.size 40=true) (h:a.size+40≤9223372036854775807) (hk:(a++b).size≤a.size+40→R):a.size+b.size≤9223372036854775807∧R:=by
 have:=Nb hl
 exact ⟨by omega,hk (by rw [ByteArray.size_append];omega)⟩
theorem ix_n {n:Int} {m:Nat} {K:Nat→Prop} (h0:0≤n) (h1:n < (m:Int)) (h:n.toNat < m→K n.toNat):∃ j:Nat,n=j∧j < m∧K j:=⟨n.toNat,by omega,by omega,h (by omega)⟩
def allS:List (List Tr)→Bool
 | []=>true
 | [.lit (.string s)] :: r=>Nat.ble s.size 40&&allS r
 | _ :: _=>false
theorem allS_get:∀ {xs:List (List Tr)},allS xs=true→∀ (i:Nat),i < xs.length→∃ s:ByteArray,s.size≤40∧xs[i]? = some (eS s)
 | [.lit (.string s)] :: r,h,0,_=>by
  rw [allS,Bool.and_eq_true] at h
  exact ⟨s,Nb h.1,rfl⟩
 | [.lit (.string s)] :: r,h,i+1,hi=>by
  rw [allS,Bool.and_eq_true] at h
  obtain ⟨s,h1,h2⟩:=allS_get h.2 i (Nat.lt_of_succ_lt_succ hi)
  exact ⟨s,h1,by rw [List.getElem?_cons_succ];exact h2⟩
theorem ld_lit {xs:List (List Tr)} {i:Nat} {y:Ty} {K:AV→Prop} (ha:allS xs=true) (hi:i < xs.length) (hy:y.isAgg=false) (h:∀ s:ByteArray,s.size≤40→K (AV.s s)):∃ ts v,xs[i]? = some ts∧cutT y ts 0=some v∧K v:=by
 obtain ⟨s,h1,h2⟩:=allS_get ha i hi
 exact ⟨_,_,h2,by unfold cutT;rw [hy];rfl,h s h1⟩
theorem toList_len (s:ByteArray):s.toList.length=s.size:=by
 rw [ByteArray.toList_eq]
 rfl
theorem str_nil {s:ByteArray} (h:(s.toList==(⟨#[]⟩:ByteArray).toList)=true):s.size≤32:=by
 have:=toList_len s
 rw [eq_of_beq h,toList_len] at this
 rw [← this]
 exact Nat.zero_le _
theorem lp_at (id:Nat) {c:Code} {st:St} {Q:Ex→St→Prop} (_:firstR c=id) (h:LpX P T N c st Q):LpX P T N c st Q:=h
theorem wk_rr {st:St} {t r ρ ver ty k M:Nat} {X:List (List Tr)} {sl:List (Nat × AV)} {bx:List (Nat × List Ce)} (hg:st.get t=.c (.row ρ ver)) (hr:lk st.rw ρ=some ⟨ty,k,ver,X,none⟩) (h1:sl.map (fun p=>(p.1,st.get p.1))=sl) (h2:bx.map (fun p=>lk st.bx p.1)=bx.map (fun p=>some p.2)) (h3:(sl.all (fun p=>selfOk bx p.2)&&bx.all (fun p=>p.2.all Ce.plain))=true) (hn:below M bx [(r,⟨ty,k,0,X,none⟩)]=true):Wk st ⟨(t,.c (.row r 0)) :: sl,bx,[(r,⟨ty,k,0,X,none⟩)],M⟩:=by
 rw [Bool.and_eq_true] at h3
 refine wk_of [(r,ρ)] (by simp [mOk,lk,sw]) hn ⟨?_,slM_self h1 h3.1⟩ (bxM_self h2 h3.2) ⟨?_,trivial⟩
 ·rw [hg]
  show (match lk [(r,(⟨ty,k,0,X,none⟩:Row))] r with
   | some R'=>R'.ver=0∧(lk [(r,ρ)] r=some ρ∧(match lk st.rw ρ with
    | some R=>R.ver=ver
    | none=>False))
   | none=>False)
  simp [lk,hr]
 ·show (match lk [(r,ρ)] r with
   | some τ=>(match lk st.rw τ with
    | some R=>R.ty=ty∧R.k=k∧R.like ⟨ty,k,0,X,none⟩
    | none=>False)
   | none=>bi _ _)
  simp [lk,hr]
  exact lN rfl
theorem wk_rn {st:St} {t r ty k M:Nat} {sl:List (Nat × AV)} {bx:List (Nat × List Ce)} (hg:st.get t=.c .nil) (h1:sl.map (fun p=>(p.1,st.get p.1))=sl) (h2:bx.map (fun p=>lk st.bx p.1)=bx.map (fun p=>some p.2)) (h3:(sl.all (fun p=>selfOk bx p.2)&&bx.all (fun p=>p.2.all Ce.plain))=true) (hn:below M bx [(r,⟨ty,k,0,[],none⟩)]=true):Wk st ⟨(t,.c (.row r 0)) :: sl,bx,[(r,⟨ty,k,0,[],none⟩)],M⟩:=by
 rw [Bool.and_eq_true] at h3
 refine wk_of [] rfl hn ⟨?_,slM_self h1 h3.1⟩ (bxM_self h2 h3.2) ⟨?_,trivial⟩
 ·rw [hg]
  show (match lk [(r,(⟨ty,k,0,[],none⟩:Row))] r with
   | some R'=>R'.ver=0∧lk ([]:List (Nat × Nat)) r=none
   | none=>False)
  simp [lk]
 ·exact bS rfl
theorem TpX.cutL (id t r ty k:Nat) (Φ:List (List Tr)→Prop) (ks bs:List Nat) (M:Nat) {a b:Code} {st:St} {Q:Ex→St→Prop} (_:firstR b=id)
  (h:kpK st ks fun sl=>kpB st bs fun bx=>TpX P T N a st (fun e s=>match e with
   | .nrm=>∃ X,Φ X∧Wk s ⟨(t,.c (.row r 0)) :: sl,bx,[(r,⟨ty,k,0,X,none⟩)],M⟩
   | e=>Q e s)∧∀ X,Φ X→TpX P T N b ⟨(t,.c (.row r 0)) :: sl,bx,[(r,⟨ty,k,0,X,none⟩)],M⟩ Q):TpX P T N (.seq a b) st Q:=by
 rw [kpK_eq] at h
 obtain ⟨bx,h1,h2⟩:=kpB_eq st bs _ h
 refine TpX.seq (h1.mono fun e s hq=>?_)
 cases e with
 | nrm=>
  obtain ⟨x,hx,hw⟩:=hq
  exact (h2 x hx).wk hw
 | exit id=>exact hq
 | ret=>exact hq
theorem LpX.upL (id t u r ty k:Nat) (n:Int) (hn:n≤4611686018427387904) (hn0:0≤n) (Φ:Int→List (List Tr)→Prop) (ks bs:List Nat) (M:Nat) {c:Code} {st:St} {Q:Ex→St→Prop} (_:firstR c=id)
  (h:kpK st ks fun sl=>kpB st bs fun bx=>(∃ X,Φ 0 X∧Wk st ⟨(u,.c (.row r 0)) :: (t,AV.i 0) :: sl,bx,[(r,⟨ty,k,0,X,none⟩)],M⟩)∧∀ i X,0≤i→i≤n→Φ i X→TpX P T N c ⟨(u,.c (.row r 0)) :: (t,AV.i i) :: sl,bx,[(r,⟨ty,k,0,X,none⟩)],M⟩ (fun e s=>match e with
   | .nrm=>i < n∧∃ X,Φ (i+1) X∧Wk s ⟨(u,.c (.row r 0)) :: (t,AV.i (IntKind.i64.wrap (i+1))) :: sl,bx,[(r,⟨ty,k,0,X,none⟩)],M⟩
   | e=>Q e s)):LpX P T N c st Q:=by
 rw [kpK_eq] at h
 obtain ⟨bx,⟨b0,h0,hw⟩,h2⟩:=kpB_eq st bs _ h
 refine LpX.loop (fun x:Int × List (List Tr)=>⟨(u,.c (.row r 0)) :: (t,AV.i x.1) :: ks.map (fun t=>(t,st.get t)),bx,[(r,⟨ty,k,0,x.2,none⟩)],M⟩) (fun x=>0≤x.1∧x.1≤n∧Φ x.1 x.2) (fun x=>(n - x.1).toNat) (0,b0) hw ⟨Int.le_refl _,hn0,h0⟩ fun x hx=>(h2 x.1 x.2 hx.1 hx.2.1 hx.2.2).mono fun e s hq=>?_
 cases e with
 | nrm=>
  obtain ⟨h3,b,h4,h5⟩:=hq
  rw [IntKind.wrap_i64,show (x.1+1+9223372036854775808) % 18446744073709551616 - 9223372036854775808=x.1+1 by omega] at h5
  exact ⟨(x.1+1,b),⟨by have:=hx.1;show 0≤x.1+1;omega,by show x.1+1≤n;omega,h4⟩,by have:=hx.1;show (n - (x.1+1)).toNat < (n - x.1).toNat;omega,h5⟩
 | exit id=>exact hq
 | ret=>exact hq
def Shs (n:Int) (X:List (List Tr)):Prop:=(∀ ts∈X,∃ s:ByteArray,s.size≤2000∧ts=eS s)∧(X.length:Int)≤n
theorem Shs.nil {n:Int} (h:0≤n):Shs n []:=⟨fun _ h=>(by cases h),h⟩
theorem Shs.up {n m:Int} {X:List (List Tr)} (h:Shs n X) (hm:n≤m):Shs m X:=⟨h.1,Int.le_trans h.2 hm⟩
theorem Shs.snoc {n m:Int} {X:List (List Tr)} {s:ByteArray} (h:Shs n X) (hs:s.size≤2000) (hm:n+1≤m):Shs m (X++[[sv s]]):=⟨fun ts ht=>by
 rcases List.mem_append.1 ht with ht|ht
 ·exact h.1 ts ht
 ·exact ⟨s,hs,List.mem_singleton.1 ht⟩,by
 have:=h.2
 rw [List.length_append]
 simp
 omega⟩
theorem Shs.list:∀ {X:List (List Tr)} {n:Int},Shs n X→∃ L:List ByteArray,X=L.map eS∧(∀ y∈L,y.size≤2000)∧(L.length:Int)≤n
 | [],_,h=>⟨[],rfl,fun _ h=>(by cases h),h.2⟩
 | x :: X,n,h=>by
  obtain ⟨s,h1,rfl⟩:=h.1 x List.mem_cons_self
  obtain ⟨L,rfl,h2,h3⟩:=Shs.list (X:=X) (n:=n - 1) ⟨fun ts ht=>h.1 ts (List.mem_cons_of_mem _ ht),by have:=h.2;simp at this;omega⟩
  exact ⟨s :: L,rfl,fun y hy=>by
   rcases List.mem_cons.1 hy with rfl|hy
   ·exact h1
   ·exact h2 y hy,by simp;omega⟩
theorem ix_lit {xs:List (List Tr)} {n:Int} {K:List Tr→Prop} (ha:allS xs=true) (h0:0≤n) (h1:n < (xs.length:Int)) (h:∀ s:ByteArray,s.size≤40→K (eS s)):∃ (j:Nat) (ts:List Tr),n=j∧xs[j]? = some ts∧K ts:=by
 have hl:n.toNat < xs.length:=by omega
 obtain ⟨s,h2,h3⟩:=allS_get ha n.toNat hl
 exact ⟨n.toNat,eS s,by omega,h3,h s h2⟩
theorem sl_lit {s:ByteArray} {n m:Int} {A B:Nat→Prop} {R:Nat→Nat→Prop} (ha:∀ l:Nat,n=l→A l) (hb:∀ l:Nat,m=l→B l) (h0:0≤n) (h1:n≤m) (h2:m≤(s.size:Int)) (hk:(s.extract n.toNat m.toNat).size=m.toNat - n.toNat→R n.toNat m.toNat):∃ l h:Nat,A l∧B h∧l≤h∧h≤s.size∧R l h:=
 sl_str n.toNat m.toNat (ha _ (by omega)) (hb _ (by omega)) (by omega) (by omega) hk
def tupE (p:Int × Int):AV:=.tup [AV.i p.1,AV.i p.2]
theorem lit_e (p:Int × Int):litT (tupE p)=true:=rfl
theorem ix_k {α:Type} {l:List α} {f:α→List Tr} {n:Int} {K:List Tr→Prop} (h0:0≤n) (h1:n < ((l.map f).length:Int)) (h:∀ hl:n.toNat < l.length,K (f (l[n.toNat]'hl))):∃ (j:Nat) (ts:List Tr),n=j∧(l.map f)[j]? = some ts∧K ts:=by
 rw [Lm] at h1
 have hl:n.toNat < l.length:=by omega
 exact ⟨n.toNat,f l[n.toNat],by omega,by rw [List.getElem?_map,List.getElem?_eq_getElem hl];rfl,h hl⟩
theorem okmr {α:Type} {l:List α} {p:α→Prop} {x:α} (hx:x∈l) (h:∀ y∈l,p y):p x:=h x hx
theorem okmg {α:Type} {l:List α} {p:α→Prop} {n:Nat} (hn:n < l.length) (h:∀ y∈l,p y):p (l[n]'hn):=h _ (List.getElem_mem hn)
theorem ix_prev {α:Type} {l:List α} {f:α→List Tr} {i:Int} {K:List Tr→Prop} (d:α) (b:Nat) (hb:l.length*b≤limB) (hb0:Nat.blt 0 b=true) (h0:i > 0) (h1:i < ((l.map f).length:Int)) (h:i.toNat - 1 < l.length→K (f (l.getD (i.toNat - 1) d))):∃ (j:Nat) (ts:List Tr),IntKind.i64.wrap (i - 1)=j∧(l.map f)[j]? = some ts∧K ts:=by
 rw [Lm] at h1
 unfold limB at hb
 have hb1:=Nb hb0
 have:l.length*1≤l.length*b:=Nat.mul_le_mul (Nat.le_refl _) hb1
 have hl:i.toNat - 1 < l.length:=by omega
 refine ⟨i.toNat - 1,_,?_,?_,h hl⟩
 ·rw [IntKind.wrap_i64];omega
 ·rw [List.getElem?_map,List.getD_eq_getElem?_getD,List.getElem?_eq_getElem hl];rfl
theorem cut_at (id:Nat) {a b:Code} {st:St} {Q:Ex→St→Prop} (_:firstR b=id) (h:TpX P T N (.seq a b) st Q):TpX P T N (.seq a b) st Q:=h
end
end Cg
end
section
namespace Go.Proofs.YtpibcdnagnjokaaGreat
open Go Cg Go.RowKit Go.Shelf
theorem r02low (a:Int):∃ r:Bool,True∧Ct Tryz.prog 132 [.c (.t (.lit (.int .u8 a)))] (AV.b r) [] true:=by
 refine ct_x (Φ:=fun _=>True) lit_b (ctx_of Tryz.func132 rfl (enters_of Tryz.func132 (by kernel_rfl) rfl) tabOk (by kernel_rfl) rfl rfl (TpX.runY [] [] ?_))
 repeat' (first|(apply cond_p <;> intro _)|(apply leaf_x;exact Ei [] (Ai rfl (Ai trivial rfl));exact (trivial);rfl)|fail)
theorem r02is (a:ByteArray):∃ r:Bool,(r=true→a.size≤32)∧Ct Tryz.prog 93 [AV.s a] (AV.b r) [] true:=by
 refine ct_x (Φ:=fun (r:Bool)=>r=true→a.size≤32) lit_b (ctx_of Tryz.func93 rfl (enters_of Tryz.func93 (by kernel_rfl) rfl) tabOk (by kernel_rfl) rfl rfl (TpX.runY [] [] ?_))
 repeat' (first|(apply cond_p <;> intro _)|(apply cond_ne <;> intro _)|apply cond_n|(apply cS <;> intro _)|(apply leaf_x;exact Ei [] (Ai rfl (Ai trivial rfl));exact (by intro hr;first|exact Bool.noConfusion hr|omega);rfl)|(apply lp_at 4 rfl;refine LpX.up (β:=Unit) 4 3 (((a.size:Nat):Int)) (by first|omega|exact len62 (by first|assumption|exact okmr ‹_› ‹_› | exact okmg _ ‹_›) rfl) (by omega) (fun _=>[]) (fun _ _=>True) [0] [] 200000 rfl ?_;refine Ai ?_ (fun _ _ _ _ _=>TpX.runY [] [] ?_))|exact Ei () (Ai (trivial) (wk_slim rfl rfl rfl rfl))|exact Ai (by first|assumption|omega) (Ei () (Ai (trivial) (wk_slim rfl rfl rfl rfl)))|(apply ix_str;(first|assumption|omega|(simp only [IntKind.wrap_i64];omega)|(simp only [Lm] at *;omega)|decide);(first|assumption|omega|(simp only [IntKind.wrap_i64];omega)|(simp only [Lm] at *;omega)|decide);intro _)|(apply call_f 132;refine call_x (r02low _) ⟨rfl,trivial⟩ (.inl rfl) (fun _ _=>?_))|fail)
def r10superL:List ByteArray:=[⟨#[98,97,115,105,99]⟩,⟨#[117,110,105,113,117,101]⟩]
theorem r10super:Ct Tryz.prog 163 [] (.c (.row 0 0)) [⟨9,1,0,r10superL.map eS,none⟩] false:=by
 refine ct_of Tryz.func163 rfl (enters_of Tryz.func163 (by kernel_rfl) rfl) tabOk (by kernel_rfl) rfl rfl rfl rfl fun w0 O _=>Tp.run [] ?_
 refine Ei [(0,128)] (Ai rfl (Ai ?_ ?_))
 all_goals repeat' first|refine Ai ?_ ?_|exact rfl|exact trivial|exact Ei _ rfl|refine lN ?_|refine bS ?_|fail
def r10typeL:List ByteArray:=[⟨#[99,114,101,97,116,117,114,101]⟩,⟨#[105,110,115,116,97,110,116]⟩,⟨#[114,105,116,117,97,108]⟩,⟨#[114,101,108,105,99]⟩,⟨#[99,104,97,114,109]⟩,⟨#[108,97,110,100]⟩]
theorem r10type:Ct Tryz.prog 164 [] (.c (.row 0 0)) [⟨9,1,0,r10typeL.map eS,none⟩] false:=by
 refine ct_of Tryz.func164 rfl (enters_of Tryz.func164 (by kernel_rfl) rfl) tabOk (by kernel_rfl) rfl rfl rfl rfl fun w0 O _=>Tp.run [] ?_
 refine Ei [(0,128)] (Ai rfl (Ai ?_ ?_))
 all_goals repeat' first|refine Ai ?_ ?_|exact rfl|exact trivial|exact Ei _ rfl|refine lN ?_|refine bS ?_|fail
theorem r10index (a:List ByteArray) (b:ByteArray) (ha:a.length*16≤limB):∃ r:Int,True∧Ct Tryz.prog 162 [.c (.t (.sl 1 (a.map eS))),AV.s b] (AV.i r) [] true:=by
 refine ct_x (Φ:=fun _=>True) lit_i (ctx_of Tryz.func162 rfl (enters_of Tryz.func162 (by kernel_rfl) rfl) tabOk (by kernel_rfl) rfl rfl (TpX.runY [] [] ?_))
 repeat' (first|(apply cond_p <;> intro _)|(apply cS <;> intro _)|(apply leaf_x;exact Ei [] (Ai rfl (Ai trivial rfl));exact (trivial);rfl)|(apply lp_at 2 rfl;refine LpX.up (β:=Unit) 2 5 ((((a.map eS).length:Nat):Int)) (by first|omega|exact len62 (by first|assumption|exact okmr ‹_› ‹_› | exact okmg _ ‹_›) rfl) (by omega) (fun _=>[]) (fun _ _=>True) [0,1] [] 200000 rfl ?_;refine Ai ?_ (fun _ _ _ _ _=>TpX.runY [] [] ?_))|exact Ei () (Ai (trivial) (wk_slim rfl rfl rfl rfl))|exact Ai (by first|assumption|omega) (Ei () (Ai (trivial) (wk_slim rfl rfl rfl rfl)))|(apply ix_map;(first|assumption|omega|(simp only [IntKind.wrap_i64,IntKind.wrap_u64,List.length_cons,List.length_nil];omega)|(simp only [Lm] at *;omega)|decide);(first|assumption|omega|(simp only [IntKind.wrap_i64,IntKind.wrap_u64,List.length_cons,List.length_nil];omega)|(simp only [Lm] at *;omega)|decide);intro _ _)|fail)
theorem r10isSub (a:ByteArray):∃ r:Bool,(r=true→a.size≤32)∧Ct Tryz.prog 133 [AV.s a] (AV.b r) [] true:=by
 refine ct_x (Φ:=fun (r:Bool)=>r=true→a.size≤32) lit_b (ctx_of Tryz.func133 rfl (enters_of Tryz.func133 (by kernel_rfl) rfl) tabOk (by kernel_rfl) rfl rfl (TpX.runY [] [] ?_))
 repeat' (first|(apply cond_p <;> intro _)|(apply cS <;> intro _)|(apply leaf_x;exact Ei [] (Ai rfl (Ai trivial rfl));exact (by intro hr;first|exact Bool.noConfusion hr|solve_by_elim);rfl)|(apply call_f 93;refine call_x (r02is _) ⟨rfl,trivial⟩ (.inl rfl) (fun _ _=>?_))|(apply call_f 163;refine cI r10super trivial (.inr rfl) ?_)|(apply call_f 164;refine cI r10type trivial (.inr rfl) ?_)|(apply call_f 162;refine call_x (r10index r10superL _ (Nb rfl)) ⟨⟨rfl,rfl⟩,rfl,trivial⟩ (.inl rfl) (fun _ _=>?_))|(apply call_f 162;refine call_x (r10index r10typeL _ (Nb rfl)) ⟨⟨rfl,rfl⟩,rfl,trivial⟩ (.inl rfl) (fun _ _=>?_))|fail)
theorem r10bit (a:Int) (b:Int)  (hb:0≤b) (hb2:b≤64):∃ r:Bool,True∧Ct Tryz.prog 134 [.c (.t (iv a)),.c (.t (iv b))] (AV.b r) [] true:=by
 refine ct_x (Φ:=fun _=>True) lit_b (ctx_of Tryz.func134 rfl (enters_of Tryz.func134 (by kernel_rfl) rfl) tabOk (by kernel_rfl) rfl rfl (TpX.runY [] [] ?_))
 repeat' (first|(apply cond_p <;> intro _)|(apply leaf_x;exact Ei [] (Ai rfl (Ai trivial rfl));exact (trivial);rfl)|(apply lp_at 2 rfl;refine LpX.up (β:=Int) 2 5 (b) (by first|omega|exact len62 (by first|assumption|exact okmr ‹_› ‹_› | exact okmg _ ‹_›) rfl) (by omega) (fun p=>[(0,AV.i p)]) (fun _ _=>True) [1] [] 200000 rfl ?_;refine Ai ?_ (fun _ _ _ _ _=>TpX.runY [] [] ?_))|exact Ei _ (Ai (trivial) (wk_slim rfl rfl rfl rfl))|exact Ai (by first|assumption|omega) (Ei _ (Ai (trivial) (wk_slim rfl rfl rfl rfl)))|(refine Ai rfl (Ai (by first|decide|assumption|omega) ?_))|fail)
theorem r10is (a:GLine) (_ha:a.ok):∃ r:Bool,True∧Ct Tryz.prog 95 [.agg (a.enc.map .t)] (AV.b r) [] true:=by
 refine ct_x (Φ:=fun _=>True) lit_b (ctx_of Tryz.func95 rfl (enters_of Tryz.func95 (by kernel_rfl) rfl) tabOk (by kernel_rfl) rfl rfl (TpX.runY [] [] ?_))
 repeat' (first|(apply cond_p <;> intro _)|apply cond_n|(apply cS <;> intro _)|(apply leaf_x;exact Ei [] (Ai rfl (Ai trivial rfl));exact (trivial);rfl)|(apply lp_at 4 rfl;refine LpX.up (β:=Unit) 4 3 ((((a.subs.map eS).length:Nat):Int)) (by first|omega|exact len62 (by first|assumption|exact okmr ‹_› ‹_› | exact okmg _ ‹_›) rfl) (by omega) (fun _=>[]) (fun _ _=>True) [1] [0] 200000 rfl ?_;refine Ai ?_ (fun _ _ _ _ _=>TpX.runY [] [] ?_))|exact Ei () (Ai (trivial) (wk_slim rfl rfl rfl rfl))|exact Ai (by first|assumption|omega) (Ei () (Ai (trivial) (wk_slim rfl rfl rfl rfl)))|(apply ix_map;(first|assumption|omega|(simp only [IntKind.wrap_i64];omega)|(simp only [Lm] at *;omega)|decide);(first|assumption|omega|(simp only [IntKind.wrap_i64];omega)|(simp only [Lm] at *;omega)|decide);intro _ _)|(apply call_f 133;refine call_x (r10isSub _) ⟨rfl,trivial⟩ (.inl rfl) (fun _ _=>?_))|(apply call_f 134;refine call_x (r10bit _ _ (by first|assumption|omega|(simp only [IntKind.wrap_i64,IntKind.wrap_u64,List.length_cons,List.length_nil];omega)|(simp only [Lm] at *;omega)|decide) (by first|assumption|omega|(simp only [IntKind.wrap_i64,IntKind.wrap_u64,List.length_cons,List.length_nil];omega)|(simp only [Lm] at *;omega)|decide)) ⟨rfl,rfl,trivial⟩ (.inl rfl) (fun _ _=>?_))|fail)
theorem r11is (a:Int):∃ r:Bool,True∧Ct Tryz.prog 96 [.c (.t (iv a))] (AV.b r) [] true:=by
 refine ct_x (Φ:=fun _=>True) lit_b (ctx_of Tryz.func96 rfl (enters_of Tryz.func96 (by kernel_rfl) rfl) tabOk (by kernel_rfl) rfl rfl (TpX.runY [] [] ?_))
 repeat' (first|(apply cond_p <;> intro _)|(apply leaf_x;exact Ei [] (Ai rfl (Ai trivial rfl));exact (trivial);rfl)|fail)
theorem r08is (a:GCost):∃ r:Bool,(r=true→(0≤a.generic∧a.generic≤99)∧(0≤a.x∧a.x≤2)∧(0≤a.color0∧a.color0≤9)∧(0≤a.color1∧a.color1≤9)∧(0≤a.color2∧a.color2≤9)∧(0≤a.color3∧a.color3≤9)∧(0≤a.color4∧a.color4≤9))∧Ct Tryz.prog 94 [.agg (a.enc.map .t)] (AV.b r) [] true:=by
 refine ct_x (Φ:=fun (r:Bool)=>r=true→(0≤a.generic∧a.generic≤99)∧(0≤a.x∧a.x≤2)∧(0≤a.color0∧a.color0≤9)∧(0≤a.color1∧a.color1≤9)∧(0≤a.color2∧a.color2≤9)∧(0≤a.color3∧a.color3≤9)∧(0≤a.color4∧a.color4≤9)) lit_b (ctx_of Tryz.func94 rfl (enters_of Tryz.func94 (by kernel_rfl) rfl) tabOk (by kernel_rfl) rfl rfl (TpX.runY [] [] ?_))
 repeat' (first|(apply cond_p <;> intro _)|(apply leaf_x;exact Ei [] (Ai rfl (Ai trivial rfl));exact (by intro hr;first|exact Bool.noConfusion hr|omega|(simp only [IntKind.wrap_i64] at *;omega));rfl)|(apply lp_at 4 rfl;refine LpX.one 4 rfl (TpX.runY [] [] ?_))|(apply ix_n;(first|assumption|omega|(simp only [IntKind.wrap_i64];omega)|(simp only [Lm] at *;omega)|decide);(first|assumption|omega|(simp only [IntKind.wrap_i64];omega)|(simp only [Lm] at *;omega)|decide);intro _)|fail)
theorem r13bound (a:GBound):∃ r:Bool,(r=true→0≤a.kind∧a.kind≤3)∧Ct Tryz.prog 166 [.agg (a.enc.map .t)] (AV.b r) [] true:=by
 refine ct_x (Φ:=fun (r:Bool)=>r=true→0≤a.kind∧a.kind≤3) lit_b (ctx_of Tryz.func166 rfl (enters_of Tryz.func166 (by kernel_rfl) rfl) tabOk (by kernel_rfl) rfl rfl (TpX.runY [] [] ?_))
 repeat' (first|(apply cond_p <;> intro _)|(apply cond_ne <;> intro _)|(apply leaf_x;exact Ei [] (Ai rfl (Ai trivial rfl));exact (by intro hr;first|exact Bool.noConfusion hr|omega);rfl)|fail)
theorem r13apart (a:Int) (b:Int) (c:Int):∃ r:Bool,True∧Ct Tryz.prog 165 [.c (.t (iv a)),.c (.t (iv b)),.c (.t (iv c))] (AV.b r) [] true:=by
 refine ct_x (Φ:=fun _=>True) lit_b (ctx_of Tryz.func165 rfl (enters_of Tryz.func165 (by kernel_rfl) rfl) tabOk (by kernel_rfl) rfl rfl (TpX.runY [] [] ?_))
 repeat' (first|(apply cond_p <;> intro _)|(apply leaf_x;exact Ei [] (Ai rfl (Ai trivial rfl));exact (trivial);rfl)|(apply lp_at 4 rfl;refine LpX.up (β:=Int × Int) 4 7 (6) (by first|omega|exact len62 (by first|assumption|exact okmr ‹_› ‹_› | exact okmg _ ‹_›) rfl) (by omega) (fun p=>[(0,AV.i p.1),(1,AV.i p.2)]) (fun _ _=>True) [] [] 200000 rfl ?_;refine Ai ?_ (fun _ p _ _ hp=>?_);rotate_left;obtain ⟨p_,p_⟩:=p;(try dsimp only at hp);apply TpX.runY [] [])|exact Ei ⟨_,_⟩ (Ai (trivial) (wk_slim rfl rfl rfl rfl))|exact Ai (by first|assumption|omega) (Ei ⟨_,_⟩ (Ai (trivial) (wk_slim rfl rfl rfl rfl)))|(refine Ai rfl (Ai (by first|decide|assumption|omega) ?_))|fail)
theorem r13is (a:GFilter):∃ r:Bool,(r=true→(0≤a.zone∧a.zone≤5)∧(0≤a.who∧a.who≤2)∧(0≤a.self∧a.self≤2)∧(0≤a.tap∧a.tap≤2)∧(0≤a.power.kind∧a.power.kind≤3)∧(0≤a.tough.kind∧a.tough.kind≤3)∧(0≤a.value.kind∧a.value.kind≤3)∧a.sub.size≤32)∧Ct Tryz.prog 135 [.agg (a.enc.map .t)] (AV.b r) [] true:=by
 refine ct_x (Φ:=fun (r:Bool)=>r=true→(0≤a.zone∧a.zone≤5)∧(0≤a.who∧a.who≤2)∧(0≤a.self∧a.self≤2)∧(0≤a.tap∧a.tap≤2)∧(0≤a.power.kind∧a.power.kind≤3)∧(0≤a.tough.kind∧a.tough.kind≤3)∧(0≤a.value.kind∧a.value.kind≤3)∧a.sub.size≤32) lit_b (ctx_of Tryz.func135 rfl (enters_of Tryz.func135 (by kernel_rfl) rfl) tabOk (by kernel_rfl) rfl rfl (TpX.runY [] [] ?_))
 repeat' (first|(apply cond_p <;> intro _)|apply cond_n|(apply cS <;> intro _)|(apply leaf_x;exact Ei [] (Ai rfl (Ai trivial rfl));exact (by intro hr;first|exact Bool.noConfusion hr|(have hs:a.sub.size≤32:=by first|exact str_nil ‹_› | solve_by_elim);simp_all <;> omega);rfl)|(apply call_f 165;refine call_x (r13apart _ _ _) ⟨rfl,rfl,rfl,trivial⟩ (.inl rfl) (fun _ _=>?_))|(apply call_f 133;refine call_x (r10isSub _) ⟨rfl,trivial⟩ (.inl rfl) (fun _ _=>?_))|(apply call_f 166;refine call_x (r13bound _) ⟨fL (GBound.enc _),trivial⟩ (.inl rfl) (fun _ _=>?_))|fail)
theorem r12name (a:Int):∃ r:ByteArray,(r.size≤40)∧Ct Tryz.prog 200 [.c (.t (iv a))] (AV.s r) [] true:=by
 refine ct_x (Φ:=fun (r:ByteArray)=>r.size≤40) lit_s (ctx_of Tryz.func200 rfl (enters_of Tryz.func200 (by kernel_rfl) rfl) tabOk (by kernel_rfl) rfl rfl (TpX.runY [] [] ?_))
 repeat' (first|(apply cond_p <;> intro _)|(apply leaf_x;exact Ei [] (Ai rfl (Ai trivial rfl));exact (by first|exact Nb rfl|omega|(simp only [Lm] at *;omega));rfl)|fail)
theorem r09name (a:Int):∃ r:ByteArray,(r.size≤40)∧Ct Tryz.prog 207 [.c (.t (iv a))] (AV.s r) [] true:=by
 refine ct_x (Φ:=fun (r:ByteArray)=>r.size≤40) lit_s (ctx_of Tryz.func207 rfl (enters_of Tryz.func207 (by kernel_rfl) rfl) tabOk (by kernel_rfl) rfl rfl (TpX.runY [] [] ?_))
 repeat' (first|(apply cond_p <;> intro _)|(apply leaf_x;exact Ei [] (Ai rfl (Ai trivial rfl));exact (by first|exact Nb rfl|omega|(simp only [Lm] at *;omega));rfl)|fail)
theorem r18word (a:Int):∃ r:ByteArray,(r.size≤40)∧Ct Tryz.prog 167 [.c (.t (iv a))] (AV.s r) [] true:=by
 refine ct_x (Φ:=fun (r:ByteArray)=>r.size≤40) lit_s (ctx_of Tryz.func167 rfl (enters_of Tryz.func167 (by kernel_rfl) rfl) tabOk (by kernel_rfl) rfl rfl (TpX.runY [] [] ?_))
 repeat' (first|(apply cond_p <;> intro _)|(apply leaf_x;exact Ei [] (Ai rfl (Ai trivial rfl));exact (by first|exact Nb rfl|omega|(simp only [Lm] at *;omega));rfl)|fail)
theorem r18hasWho (a:Int):∃ r:Bool,True∧Ct Tryz.prog 168 [.c (.t (iv a))] (AV.b r) [] true:=by
 refine ct_x (Φ:=fun _=>True) lit_b (ctx_of Tryz.func168 rfl (enters_of Tryz.func168 (by kernel_rfl) rfl) tabOk (by kernel_rfl) rfl rfl (TpX.runY [] [] ?_))
 repeat' (first|(apply cond_p <;> intro _)|(apply leaf_x;exact Ei [] (Ai rfl (Ai trivial rfl));exact (trivial);rfl)|fail)
theorem r18hasFilter (a:Int):∃ r:Bool,True∧Ct Tryz.prog 169 [.c (.t (iv a))] (AV.b r) [] true:=by
 refine ct_x (Φ:=fun _=>True) lit_b (ctx_of Tryz.func169 rfl (enters_of Tryz.func169 (by kernel_rfl) rfl) tabOk (by kernel_rfl) rfl rfl (TpX.runY [] [] ?_))
 repeat' (first|apply cond_n|(apply cS <;> intro _)|(apply leaf_x;exact Ei [] (Ai rfl (Ai trivial rfl));exact (trivial);rfl)|(apply call_f 167;refine call_x (r18word _) ⟨rfl,trivial⟩ (.inl rfl) (fun _ _=>?_))|(apply call_f 168;refine call_x (r18hasWho _) ⟨rfl,trivial⟩ (.inl rfl) (fun _ _=>?_))|fail)
theorem r18is (a:GTrigger):∃ r:Bool,True∧Ct Tryz.prog 137 [.agg (a.enc.map .t)] (AV.b r) [] true:=by
 refine ct_x (Φ:=fun _=>True) lit_b (ctx_of Tryz.func137 rfl (enters_of Tryz.func137 (by kernel_rfl) rfl) tabOk (by kernel_rfl) rfl rfl (TpX.runY [] [] ?_))
 repeat' (first|(apply cond_p <;> intro _)|(apply cond_ne <;> intro _)|apply cond_n|(apply cS <;> intro _)|(apply leaf_x;exact Ei [] (Ai rfl (Ai trivial rfl));exact (trivial);rfl)|(apply call_f 167;refine call_x (r18word _) ⟨rfl,trivial⟩ (.inl rfl) (fun _ _=>?_))|(apply call_f 168;refine call_x (r18hasWho _) ⟨rfl,trivial⟩ (.inl rfl) (fun _ _=>?_))|(apply call_f 169;refine call_x (r18hasFilter _) ⟨rfl,trivial⟩ (.inl rfl) (fun _ _=>?_))|(apply call_f 135;refine call_x (r13is _) ⟨fL (GFilter.enc _),trivial⟩ (.inl rfl) (fun _ _=>?_))|fail)
theorem r19field (a:GFilter):∃ r:Bool,True∧Ct Tryz.prog 172 [.agg (a.enc.map .t)] (AV.b r) [] true:=by
 refine ct_x (Φ:=fun _=>True) lit_b (ctx_of Tryz.func172 rfl (enters_of Tryz.func172 (by kernel_rfl) rfl) tabOk (by kernel_rfl) rfl rfl (TpX.runY [] [] ?_))
 repeat' (first|(apply cS <;> intro _)|(apply leaf_x;exact Ei [] (Ai rfl (Ai trivial rfl));exact (trivial);rfl)|(apply call_f 135;refine call_x (r13is _) ⟨fL (GFilter.enc _),trivial⟩ (.inl rfl) (fun _ _=>?_))|fail)
theorem r19plain (a:GReplace):∃ r:Bool,True∧Ct Tryz.prog 171 [.agg (a.enc.map .t)] (AV.b r) [] true:=by
 refine ct_x (Φ:=fun _=>True) lit_b (ctx_of Tryz.func171 rfl (enters_of Tryz.func171 (by kernel_rfl) rfl) tabOk (by kernel_rfl) rfl rfl (TpX.runY [] [] ?_))
 repeat' (first|(apply cond_p <;> intro _)|(apply cond_ne <;> intro _)|(apply leaf_x;exact Ei [] (Ai rfl (Ai trivial rfl));exact (trivial);rfl)|fail)
theorem r19moves (a:GReplace):∃ r:Bool,True∧Ct Tryz.prog 170 [.agg (a.enc.map .t)] (AV.b r) [] true:=by
 refine ct_x (Φ:=fun _=>True) lit_b (ctx_of Tryz.func170 rfl (enters_of Tryz.func170 (by kernel_rfl) rfl) tabOk (by kernel_rfl) rfl rfl (TpX.runY [] [] ?_))
 repeat' (first|(apply cond_p <;> intro _)|(apply cond_ne <;> intro _)|apply cond_n|(apply cS <;> intro _)|(apply leaf_x;exact Ei [] (Ai rfl (Ai trivial rfl));exact (trivial);rfl)|(apply call_f 172;refine call_x (r19field _) ⟨fL (GFilter.enc _),trivial⟩ (.inl rfl) (fun _ _=>?_))|fail)
theorem r19is (a:GReplace):∃ r:Bool,True∧Ct Tryz.prog 138 [.agg (a.enc.map .t)] (AV.b r) [] true:=by
 refine ct_x (Φ:=fun _=>True) lit_b (ctx_of Tryz.func138 rfl (enters_of Tryz.func138 (by kernel_rfl) rfl) tabOk (by kernel_rfl) rfl rfl (TpX.runY [] [] ?_))
 repeat' (first|(apply cond_p <;> intro _)|(apply cond_ne <;> intro _)|apply cond_n|(apply cS <;> intro _)|(apply leaf_x;exact Ei [] (Ai rfl (Ai trivial rfl));exact (trivial);rfl)|(apply call_f 170;refine call_x (r19moves _) ⟨fL (GReplace.enc _),trivial⟩ (.inl rfl) (fun _ _=>?_))|(apply call_f 171;refine call_x (r19plain _) ⟨fL (GReplace.enc _),trivial⟩ (.inl rfl) (fun _ _=>?_))|(apply call_f 172;refine call_x (r19field _) ⟨fL (GFilter.enc _),trivial⟩ (.inl rfl) (fun _ _=>?_))|fail)
theorem r20spec (a:GSpec):∃ r:Bool,True∧Ct Tryz.prog 173 [.agg (a.enc.map .t)] (AV.b r) [] true:=by
 refine ct_x (Φ:=fun _=>True) lit_b (ctx_of Tryz.func173 rfl (enters_of Tryz.func173 (by kernel_rfl) rfl) tabOk (by kernel_rfl) rfl rfl (TpX.runY [] [] ?_))
 repeat' (first|(apply cond_p <;> intro _)|apply cond_n|(apply cS <;> intro _)|(apply leaf_x;exact Ei [] (Ai rfl (Ai trivial rfl));exact (trivial);rfl)|(apply call_f 135;refine call_x (r13is _) ⟨fL (GFilter.enc _),trivial⟩ (.inl rfl) (fun _ _=>?_))|fail)
theorem r20specs (a:List GSpec) (ha:a.length*144≤limB):∃ r:Bool,True∧Ct Tryz.prog 139 [.c (.t (.sl 18 (a.map GSpec.enc)))] (AV.b r) [] true:=by
 refine ct_x (Φ:=fun _=>True) lit_b (ctx_of Tryz.func139 rfl (enters_of Tryz.func139 (by kernel_rfl) rfl) tabOk (by kernel_rfl) rfl rfl (TpX.runY [] [] ?_))
 repeat' (first|(apply cond_p <;> intro _)|apply cond_n|(apply cS <;> intro _)|(apply leaf_x;exact Ei [] (Ai rfl (Ai trivial rfl));exact (trivial);rfl)|(apply lp_at 2 rfl;refine LpX.up (β:=Unit) 2 3 ((((a.map GSpec.enc).length:Nat):Int)) (by first|omega|exact len62 (by first|assumption|exact okmr ‹_› ‹_› | exact okmg _ ‹_›) rfl) (by omega) (fun _=>[]) (fun _ _=>True) [0] [] 200000 rfl ?_;refine Ai ?_ (fun _ _ _ _ _=>TpX.runY [] [] ?_))|exact Ei () (Ai (trivial) (wk_slim rfl rfl rfl rfl))|exact Ai (by first|assumption|omega) (Ei () (Ai (trivial) (wk_slim rfl rfl rfl rfl)))|(apply ix_map;(first|assumption|omega|(simp only [IntKind.wrap_i64,IntKind.wrap_u64,List.length_cons,List.length_nil];omega)|(simp only [Lm] at *;omega)|decide);(first|assumption|omega|(simp only [IntKind.wrap_i64,IntKind.wrap_u64,List.length_cons,List.length_nil];omega)|(simp only [Lm] at *;omega)|decide);intro _ _)|(apply call_f 173;refine call_x (r20spec _) ⟨fL (GSpec.enc _),trivial⟩ (.inl rfl) (fun _ _=>?_))|fail)
theorem r20price (a:GPrice):∃ r:Bool,True∧Ct Tryz.prog 136 [.agg (a.enc.map .t)] (AV.b r) [] true:=by
 refine ct_x (Φ:=fun _=>True) lit_b (ctx_of Tryz.func136 rfl (enters_of Tryz.func136 (by kernel_rfl) rfl) tabOk (by kernel_rfl) rfl rfl (TpX.runY [] [] ?_))
 repeat' (first|(apply cond_p <;> intro _)|(apply cS <;> intro _)|(apply leaf_x;exact Ei [] (Ai rfl (Ai trivial rfl));exact (trivial);rfl)|(apply call_f 94;refine call_x (r08is _) ⟨fL (GCost.enc _),trivial⟩ (.inl rfl) (fun _ _=>?_))|fail)
theorem r16numbered (a:Int):∃ r:Bool,True∧Ct Tryz.prog 225 [.c (.t (iv a))] (AV.b r) [] true:=by
 refine ct_x (Φ:=fun _=>True) lit_b (ctx_of Tryz.func225 rfl (enters_of Tryz.func225 (by kernel_rfl) rfl) tabOk (by kernel_rfl) rfl rfl (TpX.runY [] [] ?_))
 repeat' (first|(apply cond_p <;> intro _)|(apply leaf_x;exact Ei [] (Ai rfl (Ai trivial rfl));exact (trivial);rfl)|fail)
theorem r16is (a:GRef) (b:Int):∃ r:Bool,True∧Ct Tryz.prog 199 [.agg (a.enc.map .t),.c (.t (iv b))] (AV.b r) [] true:=by
 refine ct_x (Φ:=fun _=>True) lit_b (ctx_of Tryz.func199 rfl (enters_of Tryz.func199 (by kernel_rfl) rfl) tabOk (by kernel_rfl) rfl rfl (TpX.runY [] [] ?_))
 repeat' (first|(apply cond_p <;> intro _)|(apply cond_ne <;> intro _)|(apply cS <;> intro _)|(apply leaf_x;exact Ei [] (Ai rfl (Ai trivial rfl));exact (trivial);rfl)|(apply call_f 225;refine call_x (r16numbered _) ⟨rfl,trivial⟩ (.inl rfl) (fun _ _=>?_))|(apply call_f 135;refine call_x (r13is _) ⟨fL (GFilter.enc _),trivial⟩ (.inl rfl) (fun _ _=>?_))|fail)
theorem r14is (a:GAmount):∃ r:Bool,True∧Ct Tryz.prog 201 [.agg (a.enc.map .t)] (AV.b r) [] true:=by
 refine ct_x (Φ:=fun _=>True) lit_b (ctx_of Tryz.func201 rfl (enters_of Tryz.func201 (by kernel_rfl) rfl) tabOk (by kernel_rfl) rfl rfl (TpX.runY [] [] ?_))
 repeat' (first|(apply cond_p <;> intro _)|apply cond_n|(apply cS <;> intro _)|(apply leaf_x;exact Ei [] (Ai rfl (Ai trivial rfl));exact (trivial);rfl)|(apply call_f 135;refine call_x (r13is _) ⟨fL (GFilter.enc _),trivial⟩ (.inl rfl) (fun _ _=>?_))|(apply call_f 200;refine call_x (r12name _) ⟨rfl,trivial⟩ (.inl rfl) (fun _ _=>?_))|fail)
theorem r17filter (a:Int) (b:GFilter):∃ r:Bool,True∧Ct Tryz.prog 204 [.c (.t (iv a)),.agg (b.enc.map .t)] (AV.b r) [] true:=by
 refine ct_x (Φ:=fun _=>True) lit_b (ctx_of Tryz.func204 rfl (enters_of Tryz.func204 (by kernel_rfl) rfl) tabOk (by kernel_rfl) rfl rfl (TpX.runY [] [] ?_))
 repeat' (first|(apply cond_p <;> intro _)|(apply cS <;> intro _)|(apply leaf_x;exact Ei [] (Ai rfl (Ai trivial rfl));exact (trivial);rfl)|(apply call_f 135;refine call_x (r13is _) ⟨fL (GFilter.enc _),trivial⟩ (.inl rfl) (fun _ _=>?_))|fail)
theorem r17word (a:Int):∃ r:ByteArray,(r.size≤40)∧Ct Tryz.prog 197 [.c (.t (iv a))] (AV.s r) [] true:=by
 refine ct_x (Φ:=fun (r:ByteArray)=>r.size≤40) lit_s (ctx_of Tryz.func197 rfl (enters_of Tryz.func197 (by kernel_rfl) rfl) tabOk (by kernel_rfl) rfl rfl (TpX.runY [] [] ?_))
 repeat' (first|(apply cond_p <;> intro _)|(apply leaf_x;exact Ei [] (Ai rfl (Ai trivial rfl));exact (by first|exact Nb rfl|omega|(simp only [Lm] at *;omega));rfl)|(apply ix_n;(first|assumption|omega|(simp only [IntKind.wrap_i64];omega)|(simp only [Lm] at *;omega)|decide);(first|assumption|omega|(simp only [IntKind.wrap_i64,List.length_cons,List.length_nil];omega)|(simp only [Lm] at *;omega)|decide);intro _)|(apply ld_lit;exact rfl;assumption;exact rfl;intro _ _)|fail)
theorem r17Uses (a:Int):∃ r:ByteArray,(r.size≤40)∧Ct Tryz.prog 224 [.c (.t (iv a))] (AV.s r) [] true:=by
 refine ct_x (Φ:=fun (r:ByteArray)=>r.size≤40) lit_s (ctx_of Tryz.func224 rfl (enters_of Tryz.func224 (by kernel_rfl) rfl) tabOk (by kernel_rfl) rfl rfl (TpX.runY [] [1009,1014,1029,30] ?_))
 repeat' (first|(apply cond_p <;> intro _)|(apply cS <;> intro _)|(apply leaf_x;exact Ei [] (Ai rfl (Ai trivial rfl));exact (by first|exact Nb rfl|omega|(simp only [Lm] at *;omega));rfl)|(apply cut_at 1009 rfl;refine TpX.cut (α:=Bool) 1009 (fun p=>[(4,AV.b p)]) (fun _=>True) [3] [] 200000 rfl ?_;refine Ai (TpX.runY [] [1009,1014,1029,30] ?_) (fun _ _=>TpX.runY [] [1009,1014,1029,30] ?_))|(apply cut_at 1014 rfl;refine TpX.cut (α:=Bool) 1014 (fun p=>[(14,AV.b p)]) (fun _=>True) [3] [] 300000 rfl ?_;refine Ai (TpX.runY [] [1009,1014,1029,30] ?_) (fun _ _=>TpX.runY [] [1009,1014,1029,30] ?_))|(apply cut_at 1029 rfl;refine TpX.cut (α:=Bool) 1029 (fun p=>[(29,AV.b p)]) (fun _=>True) [] [] 400000 rfl ?_;refine Ai (TpX.runY [] [1009,1014,1029,30] ?_) (fun _ _=>TpX.runY [] [1009,1014,1029,30] ?_))|(apply cut_at 30 rfl;refine TpX.cut (α:=Unit) 30 (fun _=>[]) (fun _=>True) [] [] 500000 rfl ?_;refine Ai (TpX.runY [] [1009,1014,1029,30] ?_) (fun _ _=>TpX.runY [] [1009,1014,1029,30] ?_))|exact Ei () (Ai (trivial) (wk_slim rfl rfl rfl rfl))|exact Ei _ (Ai (trivial) (wk_slim rfl rfl rfl rfl))|fail)
theorem r17uses (a:Int) (b:Int):∃ r:Bool,True∧Ct Tryz.prog 198 [.c (.t (iv a)),.c (.t (.lit (.int .u8 b)))] (AV.b r) [] true:=by
 refine ct_x (Φ:=fun _=>True) lit_b (ctx_of Tryz.func198 rfl (enters_of Tryz.func198 (by kernel_rfl) rfl) tabOk (by kernel_rfl) rfl rfl (TpX.runY [] [] ?_))
 repeat' (first|(apply cond_p <;> intro _)|(apply leaf_x;exact Ei [] (Ai rfl (Ai trivial rfl));exact (trivial);rfl)|(apply lp_at 3 rfl;rename_i s hs;refine LpX.up (β:=Unit) 3 6 (((s.size:Nat):Int)) (by first|omega|exact len62 (by first|assumption|exact okmr ‹_› ‹_› | exact okmg _ ‹_›) rfl) (by omega) (fun _=>[]) (fun _ _=>True) [1,5] [] 200000 rfl ?_;refine Ai ?_ (fun _ _ _ _ _=>TpX.runY [] [] ?_))|exact Ei () (Ai (trivial) (wk_slim rfl rfl rfl rfl))|exact Ai (by first|assumption|omega) (Ei () (Ai (trivial) (wk_slim rfl rfl rfl rfl)))|(apply ix_str;(first|assumption|omega|(simp only [IntKind.wrap_i64,IntKind.wrap_u64,List.length_cons,List.length_nil];omega)|(simp only [Lm] at *;omega)|decide);(first|assumption|omega|(simp only [IntKind.wrap_i64,IntKind.wrap_u64,List.length_cons,List.length_nil];omega)|(simp only [Lm] at *;omega)|decide);intro _)|(apply call_f 224;refine call_x (r17Uses _) ⟨rfl,trivial⟩ (.inl rfl) (fun _ _=>?_))|fail)
theorem one_cat {c:UInt8} {s:ByteArray} {R:Prop} (h:s.size≤9223372036854775806) (hk:((⟨[c].toArray⟩:ByteArray)++s).size=1+s.size→R):(⟨[c].toArray⟩:ByteArray).size+s.size≤9223372036854775807∧R:=cat_s (by have:(⟨[c].toArray⟩:ByteArray).size=1:=rfl;omega) hk
theorem r01digits (u:Int) (h0:0≤u) (_h1:u < 18446744073709551616):∃ r:ByteArray,r.size≤70∧Ct Tryz.prog 218 [.c (.t (.lit (.int .u64 u)))] (AV.s r) [] true:=by
 refine ct_x (Φ:=fun (r:ByteArray)=>r.size≤70) lit_s (ctx_of Tryz.func218 rfl (enters_of Tryz.func218 (by kernel_rfl) rfl) tabOk (by kernel_rfl) rfl rfl (TpX.runY [] [] ?_))
 refine Ai rfl (Ai (by decide) ?_)
 refine Ai rfl (Ai (by decide) ?_)
 refine LpX.at (α:=Int × ByteArray × Nat) 3 (fun p=>[(0,.c (.t (.lit (.int .u64 p.1)))),(3,AV.s p.2.1)]) (fun p=>0≤p.1∧p.1 < 2 ^ p.2.2∧p.2.1.size+p.2.2≤66) (fun p=>p.2.2) [] [] 100000 rfl ?_
 refine Ai (Ei (_,_,64) (Ai ?_ (wk_slim rfl rfl rfl rfl))) ?_
 ·have hd:u.tdiv 10=u / 10:=Int.tdiv_eq_ediv_of_nonneg h0
  show 0≤IntKind.u64.wrap (u.tdiv 10)∧IntKind.u64.wrap (u.tdiv 10) < 18446744073709551616∧_
  refine ⟨?_,?_,Nb rfl⟩
  ·simp only [IntKind.wrap_u64,hd]
   omega
  ·simp only [IntKind.wrap_u64,hd]
   omega
 rintro ⟨n,s,k⟩ ⟨g0,g1,g2⟩
 simp only at g0 g1 g2
 refine TpX.runY [] [] ?_
 refine cond_p (fun hn=>?_) (fun _=>?_)
 ·have hk:∃ j,k=j+1:=by
   cases k with
   | zero=>simp at g1;omega
   | succ j=>exact ⟨j,rfl⟩
  obtain ⟨j,rfl⟩:=hk
  have g3:n < 2 ^ j*2:=by rw [← Int.pow_succ];exact g1
  have hj:(0:Int) < 2 ^ j:=Int.pow_pos (by decide)
  have hd:n.tdiv 10=n / 10:=Int.tdiv_eq_ediv_of_nonneg g0
  refine Ai rfl (Ai (by decide) ?_)
  refine one_cat (s:=s) (by omega) (fun hs=>?_)
  refine Ai rfl (Ai (by decide) ?_)
  refine Ei (_,_,j) (Ai (Ai ⟨?_,?_,?_⟩ (Nat.lt_succ_self j)) (wk_slim rfl rfl rfl rfl))
  ·simp only [hd]
   omega
  ·show IntKind.u64.wrap (n.tdiv 10) < 2 ^ j
   rw [hd,IntKind.wrap_u64]
   have h8:n / 10 % 18446744073709551616≤n / 10:=by omega
   omega
  ·exact Nat.le_trans (Nat.add_le_add_right (Nat.le_of_eq hs) j) (show 1+s.size+j≤66 by omega)
 ·exact leaf_x s (Ei [] (Ai rfl (Ai trivial rfl))) (by omega) rfl
theorem r01text (a:Int):∃ r:ByteArray,(r.size≤110)∧Ct Tryz.prog 181 [.c (.t (iv a))] (AV.s r) [] true:=by
 refine ct_x (Φ:=fun (r:ByteArray)=>r.size≤110) lit_s (ctx_of Tryz.func181 rfl (enters_of Tryz.func181 (by kernel_rfl) rfl) tabOk (by kernel_rfl) rfl rfl (TpX.runY [] [] ?_))
 repeat' (first|(apply cond_p <;> intro _)|(apply leaf_x;exact Ei [] (Ai rfl (Ai trivial rfl));exact (by first|exact Nb rfl|((try dsimp only at *);omega)|exact Int.le_refl 0|(simp only [Lm] at *;omega));rfl)|(apply cat_l;exact rfl;(first|exact Nb rfl|omega|(simp only [Lm] at *;omega));intro _)|(apply call_f 218;refine call_x (r01digits _ (by first|assumption|omega|(simp only [IntKind.wrap_u64];omega)|(simp only [Lm] at *;omega)|decide) (by first|assumption|omega|(simp only [IntKind.wrap_u64];omega)|(simp only [Lm] at *;omega)|decide)) ⟨rfl,trivial⟩ (.inl rfl) (fun _ _=>?_))|fail)
theorem r02join (a:List ByteArray) (b:ByteArray) (ha:a.length*16≤limB) (hs:∀ y∈a,y.size≤2000) (hn:a.length≤100) (hc:b.size≤10):∃ r:ByteArray,(r.size≤201000)∧Ct Tryz.prog 217 [.c (.t (.sl 1 (a.map eS))),AV.s b] (AV.s r) [] true:=by
 refine ct_x (Φ:=fun (r:ByteArray)=>r.size≤201000) lit_s (ctx_of Tryz.func217 rfl (enters_of Tryz.func217 (by kernel_rfl) rfl) tabOk (by kernel_rfl) rfl rfl (TpX.runY [] [] ?_))
 repeat' (first|(apply ix_mp hs;(first|assumption|omega|(simp only [IntKind.wrap_i64,IntKind.wrap_u64,List.length_cons,List.length_nil];omega)|(simp only [Lm] at *;omega)|decide);(first|assumption|omega|(simp only [IntKind.wrap_i64,IntKind.wrap_u64,List.length_cons,List.length_nil];omega)|(simp only [Lm] at *;omega)|decide);intro _ _ _)|(apply cond_p <;> intro _)|(apply leaf_x;exact Ei [] (Ai rfl (Ai trivial rfl));exact (by first|exact Nb rfl|((try dsimp only at *);omega)|exact Int.le_refl 0|(simp only [Lm] at *;omega));rfl)|(apply lp_at 3 rfl;refine LpX.up (β:=ByteArray) 3 6 ((((a.map eS).length:Nat):Int)) (by first|omega|exact len62 (by first|assumption|exact okmr ‹_› ‹_› | exact okmg _ ‹_›) rfl) (by omega) (fun p=>[(5,AV.s p)]) (fun i (p:ByteArray)=>(p.size:Int)≤i*2010) [0,1] [] 200000 rfl ?_;refine Ai ?_ (fun _ _ _ _ _=>TpX.runY [] [] ?_))|exact Ei _ (Ai (by first|exact Nb rfl|((try dsimp only at *);omega)|exact Int.le_refl 0|(simp only [Lm] at *;omega)) (wk_slim rfl rfl rfl rfl))|exact Ai (by first|assumption|omega) (Ei _ (Ai (by first|exact Nb rfl|((try dsimp only at *);omega)|exact Int.le_refl 0|(simp only [Lm] at *;omega)) (wk_slim rfl rfl rfl rfl)))|(apply cat_s;(first|exact Nb rfl|omega|(simp only [Lm] at *;omega));intro _)|fail)
theorem r10joined (a:List ByteArray) (b:Int) (c:ByteArray) (ha:a.length*16≤limB) (hs:∀ y∈a,y.size≤40) (hn:a.length≤20) (hc:c.size≤10):∃ r:ByteArray,(r.size≤1000)∧Ct Tryz.prog 205 [.c (.t (.sl 1 (a.map eS))),.c (.t (iv b)),AV.s c] (AV.s r) [] true:=by
 refine ct_x (Φ:=fun (r:ByteArray)=>r.size≤1000) lit_s (ctx_of Tryz.func205 rfl (enters_of Tryz.func205 (by kernel_rfl) rfl) tabOk (by kernel_rfl) rfl rfl (TpX.runY [] [] ?_))
 repeat' (first|(apply ix_mp hs;(first|assumption|omega|(simp only [IntKind.wrap_i64,IntKind.wrap_u64,List.length_cons,List.length_nil];omega)|(simp only [Lm] at *;omega)|decide);(first|assumption|omega|(simp only [IntKind.wrap_i64,IntKind.wrap_u64,List.length_cons,List.length_nil];omega)|(simp only [Lm] at *;omega)|decide);intro _ _ _)|(apply cond_p <;> intro _)|apply cond_n|(apply cS <;> intro _)|(apply leaf_x;exact Ei [] (Ai rfl (Ai trivial rfl));exact (by first|exact Nb rfl|((try dsimp only at *);omega)|exact Int.le_refl 0|(simp only [Lm] at *;omega));rfl)|(apply lp_at 3 rfl;refine LpX.up (β:=ByteArray) 3 8 ((((a.map eS).length:Nat):Int)) (by first|omega|exact len62 (by first|assumption|exact okmr ‹_› ‹_› | exact okmg _ ‹_›) rfl) (by omega) (fun p=>[(7,AV.s p)]) (fun i (p:ByteArray)=>(p.size:Int)≤i*50) [0,1,2] [] 200000 rfl ?_;refine Ai ?_ (fun _ _ _ _ _=>TpX.runY [] [] ?_))|exact Ei _ (Ai (by first|exact Nb rfl|((try dsimp only at *);omega)|exact Int.le_refl 0|(simp only [Lm] at *;omega)) (wk_slim rfl rfl rfl rfl))|exact Ai (by first|assumption|omega) (Ei _ (Ai (by first|exact Nb rfl|((try dsimp only at *);omega)|exact Int.le_refl 0|(simp only [Lm] at *;omega)) (wk_slim rfl rfl rfl rfl)))|(apply cat_s;(first|exact Nb rfl|omega|(simp only [Lm] at *;omega));intro _)|(apply call_f 134;refine call_x (r10bit _ _ (by first|assumption|omega|(simp only [IntKind.wrap_i64,IntKind.wrap_u64,List.length_cons,List.length_nil];omega)|(simp only [Lm] at *;omega)|decide) (by first|assumption|omega|(simp only [IntKind.wrap_i64,IntKind.wrap_u64,List.length_cons,List.length_nil];omega)|(simp only [Lm] at *;omega)|decide)) ⟨rfl,rfl,trivial⟩ (.inl rfl) (fun _ _=>?_))|fail)
theorem r10type_sz:∀ y∈r10typeL,y.size≤40:=by decide
theorem r10typesText (a:Int):∃ r:ByteArray,(r.size≤1000)∧Ct Tryz.prog 177 [.c (.t (iv a))] (AV.s r) [] true:=by
 refine ct_x (Φ:=fun (r:ByteArray)=>r.size≤1000) lit_s (ctx_of Tryz.func177 rfl (enters_of Tryz.func177 (by kernel_rfl) rfl) tabOk (by kernel_rfl) rfl rfl (TpX.runY [] [] ?_))
 repeat' (first|(apply cond_p <;> intro _)|(apply leaf_x;exact Ei [] (Ai rfl (Ai trivial rfl));exact (by first|exact Nb rfl|((try dsimp only at *);omega)|exact Int.le_refl 0|(simp only [Lm] at *;omega));rfl)|(apply call_f 164;refine cI r10type trivial (.inr rfl) ?_)|(apply call_f 205;refine call_x (r10joined r10typeL _ _ (Nb rfl) r10type_sz (Nb rfl) (Nb rfl)) ⟨⟨rfl,rfl⟩,rfl,rfl,trivial⟩ (.inl rfl) (fun _ _=>?_))|fail)
theorem r09is (a:Int):∃ r:Bool,True∧Ct Tryz.prog 206 [.c (.t (iv a))] (AV.b r) [] true:=by
 refine ct_x (Φ:=fun _=>True) lit_b (ctx_of Tryz.func206 rfl (enters_of Tryz.func206 (by kernel_rfl) rfl) tabOk (by kernel_rfl) rfl rfl (TpX.runY [] [] ?_))
 repeat' (first|(apply cond_p <;> intro _)|(apply leaf_x;exact Ei [] (Ai rfl (Ai trivial rfl));exact (trivial);rfl)|fail)
theorem r09text (a:Int):∃ r:ByteArray,(r.size≤500)∧Ct Tryz.prog 178 [.c (.t (iv a))] (AV.s r) [] true:=by
 refine ct_x (Φ:=fun (r:ByteArray)=>r.size≤500) lit_s (ctx_of Tryz.func178 rfl (enters_of Tryz.func178 (by kernel_rfl) rfl) tabOk (by kernel_rfl) rfl rfl (TpX.runY [] [] ?_))
 repeat' (first|(apply cond_p <;> intro _)|apply cond_n|(apply cS <;> intro _)|(apply leaf_x;exact Ei [] (Ai rfl (Ai trivial rfl));exact (by first|exact Nb rfl|((try dsimp only at *);omega)|exact Int.le_refl 0|(simp only [Lm] at *;omega));rfl)|(apply lp_at 7 rfl;refine LpX.up (β:=ByteArray) 7 4 (5) (by first|omega|exact len62 (by first|assumption|exact okmr ‹_› ‹_› | exact okmg _ ‹_›) rfl) (by omega) (fun p=>[(3,AV.s p)]) (fun i (p:ByteArray)=>(p.size:Int)≤i*90) [0] [] 200000 rfl ?_;refine Ai ?_ ?_;rotate_left;intro i p h0 h1 hp;(rcases (by omega:i=0∨i=1∨i=2∨i=3∨i=4∨i=5) with rfl|rfl|rfl|rfl|rfl|rfl) <;> apply TpX.runY [] [])|exact Ei _ (Ai (by first|exact Nb rfl|((try dsimp only at *);omega)|exact Int.le_refl 0|(simp only [Lm] at *;omega)) (wk_slim rfl rfl rfl rfl))|exact Ai (by first|assumption|omega) (Ei _ (Ai (by first|exact Nb rfl|((try dsimp only at *);omega)|exact Int.le_refl 0|(simp only [Lm] at *;omega)) (wk_slim rfl rfl rfl rfl)))|(apply cat_r;exact rfl;(first|exact Nb rfl|omega|(simp only [Lm] at *;omega));intro _)|(apply cat_s;(first|exact Nb rfl|omega|(simp only [Lm] at *;omega));intro _)|(refine Ai rfl (Ai (by first|decide|assumption|omega) ?_))|(apply call_f 206;refine call_x (r09is _) ⟨rfl,trivial⟩ (.inl rfl) (fun _ _=>?_))|(apply call_f 207;refine call_x (r09name _) ⟨rfl,trivial⟩ (.inl rfl) (fun _ _=>?_))|fail)
theorem r11names:Ct Tryz.prog 228 [] (.c (.row 0 0)) [⟨9,1,0,[eS ⟨#[102,108,121,105,110,103]⟩,eS ⟨#[114,101,97,99,104]⟩,eS ⟨#[104,97,115,116,101]⟩,eS ⟨#[118,105,103,105,108,97,110,116]⟩,eS ⟨#[116,114,97,109,112,108,101]⟩,eS ⟨#[102,105,114,115,116,45,115,116,114,105,107,101]⟩,eS ⟨#[100,111,117,98,108,101,45,115,116,114,105,107,101]⟩,eS ⟨#[100,101,97,100,108,121]⟩,eS ⟨#[108,105,102,101,108,105,110,107]⟩,eS ⟨#[109,101,110,97,99,101]⟩,eS ⟨#[100,101,102,101,110,100,101,114]⟩,eS ⟨#[119,97,114,100,101,100]⟩,eS ⟨#[115,116,117,114,100,121]⟩,eS ⟨#[101,108,117,115,105,118,101]⟩,eS ⟨#[110,111,45,97,116,116,97,99,107]⟩,eS ⟨#[110,111,45,98,108,111,99,107]⟩,eS ⟨#[109,117,115,116,45,97,116,116,97,99,107]⟩],none⟩] false:=by
 refine ct_of Tryz.func228 rfl (enters_of Tryz.func228 (by kernel_rfl) rfl) tabOk (by kernel_rfl) rfl rfl rfl rfl fun w0 O _=>Tp.run [] ?_
 refine Ei [(0,128)] (Ai rfl (Ai ?_ ?_))
 all_goals repeat' first|refine Ai ?_ ?_|exact rfl|exact trivial|exact Ei _ rfl|refine lN ?_|refine bS ?_|fail
theorem r11name (a:Int):∃ r:ByteArray,(r.size≤40)∧Ct Tryz.prog 208 [.c (.t (iv a))] (AV.s r) [] true:=by
 refine ct_x (Φ:=fun (r:ByteArray)=>r.size≤40) lit_s (ctx_of Tryz.func208 rfl (enters_of Tryz.func208 (by kernel_rfl) rfl) tabOk (by kernel_rfl) rfl rfl (TpX.runY [] [] ?_))
 repeat' (first|(apply cond_p <;> intro _)|(apply leaf_x;exact Ei [] (Ai rfl (Ai trivial rfl));exact (by first|exact Nb rfl|((try dsimp only at *);omega)|exact Int.le_refl 0|(simp only [Lm] at *;omega));rfl)|(apply call_f 228;refine cI r11names trivial (.inr rfl) ?_)|(apply ix_n;(first|assumption|omega|(simp only [IntKind.wrap_i64,IntKind.wrap_u64,List.length_cons,List.length_nil];omega)|(simp only [Lm] at *;omega)|decide);(first|assumption|omega|(simp only [List.length_cons,List.length_nil];omega)|(simp only [Lm] at *;omega)|decide);intro _)|(apply ld_lit;exact rfl;assumption;exact rfl;intro _ _)|fail)
theorem r11text (a:Int):∃ r:ByteArray,(r.size≤2000)∧Ct Tryz.prog 179 [.c (.t (iv a))] (AV.s r) [] true:=by
 refine ct_x (Φ:=fun (r:ByteArray)=>r.size≤2000) lit_s (ctx_of Tryz.func179 rfl (enters_of Tryz.func179 (by kernel_rfl) rfl) tabOk (by kernel_rfl) rfl rfl (TpX.runY [] [] ?_))
 repeat' (first|(apply cond_p <;> intro _)|apply cond_n|(apply cS <;> intro _)|(apply leaf_x;exact Ei [] (Ai rfl (Ai trivial rfl));exact (by first|exact Nb rfl|((try dsimp only at *);omega)|exact Int.le_refl 0|(simp only [Lm] at *;omega));rfl)|(apply lp_at 5 rfl;refine LpX.up (β:=Int × ByteArray) 5 4 (17) (by first|omega|exact len62 (by first|assumption|exact okmr ‹_› ‹_› | exact okmg _ ‹_›) rfl) (by omega) (fun p=>[(0,AV.i p.1),(3,AV.s p.2)]) (fun i p=>(p.2.size:Int)≤i*90) [] [] 200000 rfl ?_;refine Ai ?_ (fun _ p _ _ hp=>?_);rotate_left;obtain ⟨p_,p_⟩:=p;(try dsimp only at hp);apply TpX.runY [] [])|exact Ei ⟨_,_⟩ (Ai (by first|exact Nb rfl|((try dsimp only at *);omega)|exact Int.le_refl 0|(simp only [Lm] at *;omega)) (wk_slim rfl rfl rfl rfl))|exact Ai (by first|assumption|omega) (Ei ⟨_,_⟩ (Ai (by first|exact Nb rfl|((try dsimp only at *);omega)|exact Int.le_refl 0|(simp only [Lm] at *;omega)) (wk_slim rfl rfl rfl rfl)))|(apply cat_r;exact rfl;(first|exact Nb rfl|omega|(simp only at *;omega));intro _)|(apply cat_s;(first|exact Nb rfl|omega|(simp only at *;omega));intro _)|(refine Ai rfl (Ai (by first|decide|assumption|omega) ?_))|(apply call_f 96;refine call_x (r11is _) ⟨rfl,trivial⟩ (.inl rfl) (fun _ _=>?_))|(apply call_f 208;refine call_x (r11name _) ⟨rfl,trivial⟩ (.inl rfl) (fun _ _=>?_))|fail)
theorem r13zone:Ct Tryz.prog 209 [] (.c (.row 0 0)) [⟨9,1,0,[eS ⟨#[]⟩,eS ⟨#[105,110,45,104,97,110,100]⟩,eS ⟨#[105,110,45,108,105,98,114,97,114,121]⟩,eS ⟨#[105,110,45,103,114,97,118,101,121,97,114,100]⟩,eS ⟨#[105,110,45,101,120,105,108,101]⟩,eS ⟨#[111,110,45,115,116,97,99,107]⟩],none⟩] false:=by
 refine ct_of Tryz.func209 rfl (enters_of Tryz.func209 (by kernel_rfl) rfl) tabOk (by kernel_rfl) rfl rfl rfl rfl fun w0 O _=>Tp.run [] ?_
 refine Ei [(0,128)] (Ai rfl (Ai ?_ ?_))
 all_goals repeat' first|refine Ai ?_ ?_|exact rfl|exact trivial|exact Ei _ rfl|refine lN ?_|refine bS ?_|fail
theorem r13who:Ct Tryz.prog 210 [] (.c (.row 0 0)) [⟨9,1,0,[eS ⟨#[]⟩,eS ⟨#[121,111,117,114,115]⟩,eS ⟨#[116,104,101,105,114,115]⟩],none⟩] false:=by
 refine ct_of Tryz.func210 rfl (enters_of Tryz.func210 (by kernel_rfl) rfl) tabOk (by kernel_rfl) rfl rfl rfl rfl fun w0 O _=>Tp.run [] ?_
 refine Ei [(0,128)] (Ai rfl (Ai ?_ ?_))
 all_goals repeat' first|refine Ai ?_ ?_|exact rfl|exact trivial|exact Ei _ rfl|refine lN ?_|refine bS ?_|fail
theorem r13self:Ct Tryz.prog 211 [] (.c (.row 0 0)) [⟨9,1,0,[eS ⟨#[]⟩,eS ⟨#[115,101,108,102]⟩,eS ⟨#[111,116,104,101,114]⟩],none⟩] false:=by
 refine ct_of Tryz.func211 rfl (enters_of Tryz.func211 (by kernel_rfl) rfl) tabOk (by kernel_rfl) rfl rfl rfl rfl fun w0 O _=>Tp.run [] ?_
 refine Ei [(0,128)] (Ai rfl (Ai ?_ ?_))
 all_goals repeat' first|refine Ai ?_ ?_|exact rfl|exact trivial|exact Ei _ rfl|refine lN ?_|refine bS ?_|fail
theorem r13tap:Ct Tryz.prog 212 [] (.c (.row 0 0)) [⟨9,1,0,[eS ⟨#[]⟩,eS ⟨#[116,97,112,112,101,100]⟩,eS ⟨#[117,110,116,97,112,112,101,100]⟩],none⟩] false:=by
 refine ct_of Tryz.func212 rfl (enters_of Tryz.func212 (by kernel_rfl) rfl) tabOk (by kernel_rfl) rfl rfl rfl rfl fun w0 O _=>Tp.run [] ?_
 refine Ei [(0,128)] (Ai rfl (Ai ?_ ?_))
 all_goals repeat' first|refine Ai ?_ ?_|exact rfl|exact trivial|exact Ei _ rfl|refine lN ?_|refine bS ?_|fail
theorem r13signs:Ct Tryz.prog 229 [] (.c (.row 0 0)) [⟨9,1,0,[eS ⟨#[]⟩,eS ⟨#[62,61]⟩,eS ⟨#[60,61]⟩,eS ⟨#[61]⟩],none⟩] false:=by
 refine ct_of Tryz.func229 rfl (enters_of Tryz.func229 (by kernel_rfl) rfl) tabOk (by kernel_rfl) rfl rfl rfl rfl fun w0 O _=>Tp.run [] ?_
 refine Ei [(0,128)] (Ai rfl (Ai ?_ ?_))
 all_goals repeat' first|refine Ai ?_ ?_|exact rfl|exact trivial|exact Ei _ rfl|refine lN ?_|refine bS ?_|fail
theorem r13bit (a:Int) (b:Int)  (hb:0≤b) (hb2:b≤64):∃ r:Bool,True∧Ct Tryz.prog 214 [.c (.t (iv a)),.c (.t (iv b))] (AV.b r) [] true:=by
 refine ct_x (Φ:=fun _=>True) lit_b (ctx_of Tryz.func214 rfl (enters_of Tryz.func214 (by kernel_rfl) rfl) tabOk (by kernel_rfl) rfl rfl (TpX.runY [] [] ?_))
 repeat' (first|(apply cond_p <;> intro _)|(apply leaf_x;exact Ei [] (Ai rfl (Ai trivial rfl));exact (trivial);rfl)|(apply lp_at 2 rfl;refine LpX.up (β:=Int) 2 5 (b) (by first|omega|exact len62 (by first|assumption|exact okmr ‹_› ‹_› | exact okmg _ ‹_›) rfl) (by omega) (fun p=>[(0,AV.i p)]) (fun _ _=>True) [1] [] 200000 rfl ?_;refine Ai ?_ (fun _ _ _ _ _=>TpX.runY [] [] ?_))|exact Ei _ (Ai (trivial) (wk_slim rfl rfl rfl rfl))|exact Ai (by first|assumption|omega) (Ei _ (Ai (trivial) (wk_slim rfl rfl rfl rfl)))|(refine Ai rfl (Ai (by first|decide|assumption|omega) ?_))|fail)
theorem r13typeWord (a:Int)  (ha:0≤a) (ha2:a≤64):∃ r:ByteArray,(r.size≤1000)∧Ct Tryz.prog 215 [.c (.t (iv a))] (AV.s r) [] true:=by
 refine ct_x (Φ:=fun (r:ByteArray)=>r.size≤1000) lit_s (ctx_of Tryz.func215 rfl (enters_of Tryz.func215 (by kernel_rfl) rfl) tabOk (by kernel_rfl) rfl rfl (TpX.runY [] [] ?_))
 repeat' (first|(apply cond_p <;> intro _)|(apply leaf_x;exact Ei [] (Ai rfl (Ai trivial rfl));exact (by first|exact Nb rfl|((try dsimp only at *);omega)|exact Int.le_refl 0|(simp only [Lm] at *;omega));rfl)|(apply lp_at 3 rfl;refine LpX.up (β:=Int) 3 4 (a) (by first|omega|exact len62 (by first|assumption|exact okmr ‹_› ‹_› | exact okmg _ ‹_›) rfl) (by omega) (fun p=>[(3,AV.i p)]) (fun _ _=>True) [0] [] 200000 rfl ?_;refine Ai ?_ (fun _ _ _ _ _=>TpX.runY [] [] ?_))|exact Ei _ (Ai (trivial) (wk_slim rfl rfl rfl rfl))|exact Ai (by first|assumption|omega) (Ei _ (Ai (trivial) (wk_slim rfl rfl rfl rfl)))|(apply call_f 177;refine call_x (r10typesText _) ⟨rfl,trivial⟩ (.inl rfl) (fun _ _=>?_))|fail)
theorem r13boundWord (a:ByteArray) (b:GBound)  (hs:a.size≤20) (hk:0≤b.kind) (hk2:b.kind≤3):∃ r:ByteArray,(r.size≤1000)∧Ct Tryz.prog 216 [AV.s a,.agg (b.enc.map .t)] (AV.s r) [] true:=by
 refine ct_x (Φ:=fun (r:ByteArray)=>r.size≤1000) lit_s (ctx_of Tryz.func216 rfl (enters_of Tryz.func216 (by kernel_rfl) rfl) tabOk (by kernel_rfl) rfl rfl (TpX.runY [] [] ?_))
 repeat' (first|(apply cond_p <;> intro _)|(apply leaf_x;exact Ei [] (Ai rfl (Ai trivial rfl));exact (by first|exact Nb rfl|((try dsimp only at *);omega)|exact Int.le_refl 0|(simp only [Lm] at *;omega));rfl)|(apply cat_s;(first|exact Nb rfl|omega|(simp only [Lm] at *;omega));intro _)|(apply call_f 181;refine call_x (r01text _) ⟨rfl,trivial⟩ (.inl rfl) (fun _ _=>?_))|(apply call_f 229;refine cI r13signs trivial (.inr rfl) ?_)|(apply ix_n;(first|assumption|omega|(simp only [IntKind.wrap_i64,IntKind.wrap_u64,List.length_cons,List.length_nil];omega)|(simp only [Lm] at *;omega)|decide);(first|assumption|omega|(simp only [List.length_cons,List.length_nil];omega)|(simp only [Lm] at *;omega)|decide);intro _)|(apply ld_lit;exact rfl;assumption;exact rfl;intro _ _)|fail)
theorem r13add (X:List (List Tr)) (s:ByteArray) (hX:X.length≤1000):CtM Tryz.prog 213 [.c (.row 0 0),AV.s s] [] [⟨9,1,0,X,none⟩] (.c (.row 0 0)) [] [⟨9,1,0,X,none⟩] []∨CtM Tryz.prog 213 [.c (.row 0 0),AV.s s] [] [⟨9,1,0,X,none⟩] (.c (.row 0 1)) [] [⟨9,1,1,X++[[sv s]],none⟩] []:=by
 cases h:(s.toList==(⟨#[]⟩:ByteArray).toList) with
 | true=>
  refine .inl ?_
  refine ctm_of 2 Tryz.func213 rfl (enters_of Tryz.func213 (by kernel_rfl) rfl) tabOk (by kernel_rfl) rfl rfl rfl rfl rfl fun w0 O _=>Tp.run [2,3] ?_
  refine cond_t h ?_
  refine Tp.run [] ?_
  refine Ei [(0,0)] (Ai (Ai rfl (Ai ?_ (Ai ?_ ?_))) ?_)
  all_goals repeat' first|refine Ai ?_ ?_|exact rfl|exact trivial|exact Ei _ rfl|refine lN ?_|refine bS ?_|fail
 | false=>
  refine .inr ?_
  refine ctm_of 2 Tryz.func213 rfl (enters_of Tryz.func213 (by kernel_rfl) rfl) tabOk (by kernel_rfl) rfl rfl rfl rfl rfl fun w0 O _=>Tp.run [2,3] ?_
  refine cond_f h ?_
  refine Tp.run [] ?_
  refine Ai (.inl rfl) (Ai (show (X.length+1)*16≤140737488355328 by omega) (Ai (show X.length+1 < 140737488355328 by omega) ?_))
  refine Ei [(0,0)] (Ai (Ai rfl (Ai ?_ (Ai ?_ ?_))) ?_)
  all_goals repeat' first|refine Ai ?_ ?_|exact rfl|exact trivial|exact Ei _ rfl|refine lN ?_|refine bS ?_|fail
theorem r13text (a:GFilter):∃ r:ByteArray,(r.size≤201000)∧Ct Tryz.prog 180 [.agg (a.enc.map .t)] (AV.s r) [] true:=by
 refine ct_x (Φ:=fun (r:ByteArray)=>r.size≤201000) lit_s (ctx_of Tryz.func180 rfl (enters_of Tryz.func180 (by kernel_rfl) rfl) tabOk (by kernel_rfl) rfl rfl (TpX.runY [] [8,9,10,11,33,39,40,41,42] ?_))
 refine call_x (r13is a) ⟨fL (GFilter.enc _),trivial⟩ (.inl rfl) (fun b hb=>?_)
 refine cond_n (cS (fun hc=>?_) (fun hc=>?_))
 rotate_left
 ·exact leaf_x _ (Ei [] (Ai rfl (Ai trivial rfl))) (by first|exact Nb rfl|((try dsimp only at *);omega)|exact Int.le_refl 0|(simp only [Lm] at *;omega)) rfl
 obtain ⟨k1,k2,k3,k4,k5,k6,k7,k8⟩:=hb hc
 repeat' (first|(apply cond_p <;> intro _)|apply cond_n|(apply cS <;> intro _)|(apply leaf_x;exact Ei [] (Ai rfl (Ai trivial rfl));exact (by first|exact Nb rfl|((try dsimp only at *);omega)|exact Int.le_refl 0|(simp only [Lm] at *;omega));rfl)|(apply cut_at 8 rfl;refine TpX.frz [] ?_;refine TpX.cutL 8 7 500000 9 1 (Shs 0) [1,3,4,5,6] [0] 500001 rfl ?_;refine Ai (TpX.runY [] [8,9,10,11,33,39,40,41,42] ?_) (fun X hX=>TpX.runY [] [8,9,10,11,33,39,40,41,42] ?_))|(refine TpX.cutL 9 7 500000 9 1 (Shs 1) [1,4,5,6] [0] 500001 rfl ?_;refine Ai (TpX.runY [] [8,9,10,11,33,39,40,41,42] ?_) (fun X hX=>TpX.runY [] [8,9,10,11,33,39,40,41,42] ?_))|(refine TpX.cutL 10 7 500000 9 1 (Shs 2) [1,5,6] [0] 500001 rfl ?_;refine Ai (TpX.runY [] [8,9,10,11,33,39,40,41,42] ?_) (fun X hX=>TpX.runY [] [8,9,10,11,33,39,40,41,42] ?_))|(refine TpX.cutL 11 7 500000 9 1 (Shs 3) [1,6] [0] 500001 rfl ?_;refine Ai (TpX.runY [] [8,9,10,11,33,39,40,41,42] ?_) (fun X hX=>TpX.runY [] [8,9,10,11,33,39,40,41,42] ?_))|(refine TpX.cutL 33 7 500000 9 1 (Shs 26) [1,6] [0] 500001 rfl ?_;refine Ai (TpX.runY [] [8,9,10,11,33,39,40,41,42] ?_) (fun X hX=>TpX.runY [] [8,9,10,11,33,39,40,41,42] ?_))|(refine TpX.cutL 39 7 500000 9 1 (Shs 44) [1] [0] 500001 rfl ?_;refine Ai (TpX.runY [] [8,9,10,11,33,39,40,41,42] ?_) (fun X hX=>TpX.runY [] [8,9,10,11,33,39,40,41,42] ?_))|(refine TpX.cutL 40 7 500000 9 1 (Shs 45) [1] [0] 500001 rfl ?_;refine Ai (TpX.runY [] [8,9,10,11,33,39,40,41,42] ?_) (fun X hX=>TpX.runY [] [8,9,10,11,33,39,40,41,42] ?_))|(refine TpX.cutL 41 7 500000 9 1 (Shs 46) [1] [0] 500001 rfl ?_;refine Ai (TpX.runY [] [8,9,10,11,33,39,40,41,42] ?_) (fun X hX=>TpX.runY [] [8,9,10,11,33,39,40,41,42] ?_))|(refine TpX.cutL 42 7 500000 9 1 (Shs 47) [] [] 500001 rfl ?_;refine Ai (TpX.runY [] [8,9,10,11,33,39,40,41,42] ?_) (fun X hX=>TpX.runY [] [8,9,10,11,33,39,40,41,42] ?_))|(refine LpX.upL 12 8 7 500000 9 1 6 (by omega) (by omega) (fun i=>Shs (3+i)) [1,6] [0] 500001 rfl ?_;refine Ai ?_ (fun i X h0 h1 hX=>TpX.runY [] [8,9,10,11,33,39,40,41,42] ?_))|(refine LpX.upL 17 9 7 500000 9 1 6 (by omega) (by omega) (fun i=>Shs (9+i)) [1,6] [0] 500001 rfl ?_;refine Ai ?_ (fun i X h0 h1 hX=>TpX.runY [] [8,9,10,11,33,39,40,41,42] ?_))|(refine LpX.upL 22 10 7 500000 9 1 5 (by omega) (by omega) (fun i=>Shs (15+i)) [1,6] [0] 500001 rfl ?_;refine Ai ?_ (fun i X h0 h1 hX=>TpX.runY [] [8,9,10,11,33,39,40,41,42] ?_))|(refine LpX.upL 27 11 7 500000 9 1 5 (by omega) (by omega) (fun i=>Shs (20+i)) [1,6] [0] 500001 rfl ?_;refine Ai ?_ (fun i X h0 h1 hX=>TpX.runY [] [8,9,10,11,33,39,40,41,42] ?_))|(refine LpX.upL 34 12 7 500000 9 1 17 (by omega) (by omega) (fun i=>Shs (26+i)) [1,6] [0] 500001 rfl ?_;refine Ai ?_ (fun i X h0 h1 hX=>TpX.runY [] [8,9,10,11,33,39,40,41,42] ?_))|exact Ei [] (Ai (Shs.nil (by omega)) (wk_rn rfl rfl rfl rfl rfl))|exact Ei _ (Ai (by first|exact hX|exact hX.up (by omega)|exact hX.snoc (by omega) (by omega)) (wk_rr rfl rfl rfl rfl rfl rfl))|exact Ai ‹_› (Ei _ (Ai (by first|exact hX|exact hX.up (by omega)|exact hX.snoc (by omega) (by omega)) (wk_rr rfl rfl rfl rfl rfl rfl)))|(apply ix_lit;exact rfl;(first|assumption|omega|(simp only [IntKind.wrap_i64,IntKind.wrap_u64,List.length_cons,List.length_nil];omega)|(simp only [Lm] at *;omega)|decide);(first|assumption|omega|(simp only [List.length_cons,List.length_nil];omega)|(simp only [Lm] at *;omega)|decide);intro s hs)|(apply call_f 209;refine cI r13zone trivial (.inr rfl) ?_)|(apply call_f 210;refine cI r13who trivial (.inr rfl) ?_)|(apply call_f 211;refine cI r13self trivial (.inr rfl) ?_)|(apply call_f 212;refine cI r13tap trivial (.inr rfl) ?_)|(apply call_f 213;rcases r13add X s (by have:=hX.2;omega) with hc|hc <;> refine cM [] [(500000,0)] hc ⟨⟨⟨rfl,rfl⟩,rfl,trivial⟩,trivial,⟨⟨rfl,rfl,rfl,rfl,rfl,rfl,rfl⟩,trivial⟩⟩ rfl ?_)|(apply call_f 214;refine call_x (r13bit _ _ (by first|assumption|omega|(simp only [IntKind.wrap_i64,IntKind.wrap_u64,List.length_cons,List.length_nil];omega)|(simp only [Lm] at *;omega)|decide) (by first|assumption|omega|(simp only [IntKind.wrap_i64,IntKind.wrap_u64,List.length_cons,List.length_nil];omega)|(simp only [Lm] at *;omega)|decide)) ⟨rfl,rfl,trivial⟩ (.inl rfl) (fun _ _=>?_))|(apply call_f 215;refine call_x (r13typeWord _ (by first|assumption|omega|(simp only [IntKind.wrap_i64,IntKind.wrap_u64,List.length_cons,List.length_nil];omega)|(simp only [Lm] at *;omega)|decide) (by first|assumption|omega|(simp only [IntKind.wrap_i64,IntKind.wrap_u64,List.length_cons,List.length_nil];omega)|(simp only [Lm] at *;omega)|decide)) ⟨rfl,trivial⟩ (.inl rfl) (fun s hs=>?_))|(apply call_f 216;refine call_x (r13boundWord _ _ (Nb rfl) (by first|assumption|omega|(simp only [IntKind.wrap_i64,IntKind.wrap_u64,List.length_cons,List.length_nil];omega)|(simp only [Lm] at *;omega)|decide) (by first|assumption|omega|(simp only [IntKind.wrap_i64,IntKind.wrap_u64,List.length_cons,List.length_nil];omega)|(simp only [Lm] at *;omega)|decide)) ⟨rfl,fL (GBound.enc _),trivial⟩ (.inl rfl) (fun s hs=>?_))|(apply call_f 207;refine call_x (r09name _) ⟨rfl,trivial⟩ (.inl rfl) (fun s hs=>?_))|(apply call_f 208;refine call_x (r11name _) ⟨rfl,trivial⟩ (.inl rfl) (fun s hs=>?_))|(apply cat_l;exact rfl;(first|exact Nb rfl|omega|(simp only [Lm] at *;omega));intro _)|refine Ai (.inl rfl) (Ai (by have:=hX.2;exact (show (X.length+1)*16≤140737488355328 by omega)) (Ai (by have:=hX.2;exact (show X.length+1 < 140737488355328 by omega)) ?_))|(apply call_f 217;obtain ⟨L,rfl,g1,g2⟩:=hX.list;refine call_x (r02join L _ (by unfold limB;omega) g1 (by omega) (Nb rfl)) ⟨⟨rfl,rfl⟩,rfl,trivial⟩ (.inl rfl) (fun _ _=>?_))|fail)
theorem r15types (a:Int):∃ r:Bool,True∧Ct Tryz.prog 176 [.c (.t (iv a))] (AV.b r) [] true:=by
 refine ct_x (Φ:=fun _=>True) lit_b (ctx_of Tryz.func176 rfl (enters_of Tryz.func176 (by kernel_rfl) rfl) tabOk (by kernel_rfl) rfl rfl (TpX.runY [] [] ?_))
 repeat' (first|(apply cond_p <;> intro _)|(apply leaf_x;exact Ei [] (Ai rfl (Ai trivial rfl));exact (trivial);rfl)|fail)
theorem r15used (a:GMod):∃ r:GMod,True∧Ct Tryz.prog 175 [.agg (a.enc.map .t)] ((fun r=>.agg (r.enc.map .t)) r) [] true:=by
 refine ct_x (Φ:=fun _=>True) (fun _=>rfl) (ctx_of Tryz.func175 rfl (enters_of Tryz.func175 (by kernel_rfl) rfl) tabOk (by kernel_rfl) rfl rfl (TpX.runY [] [] ?_))
 repeat' (first|(apply cond_p <;> intro _)|(apply leaf_x ⟨_,_,_,_,⟨_,_,_,_,_,_,_,_,_,_,⟨_,_⟩,⟨_,_⟩,⟨_,_⟩⟩⟩;refine Ei [] (Ai rfl (Ai trivial ?_));(repeat' first|refine Ai ?_ ?_|exact rfl|exact trivial|exact Ei _ rfl|refine lN ?_|refine bS ?_|fail);done)|fail)
theorem r15is (a:GMod):∃ r:Bool,(r=true→(a.kind=4∨a.kind=5)→a.sub.size≤32)∧Ct Tryz.prog 147 [.agg (a.enc.map .t)] (AV.b r) [] true:=by
 refine ct_x (Φ:=fun (r:Bool)=>r=true→(a.kind=4∨a.kind=5)→a.sub.size≤32) lit_b (ctx_of Tryz.func147 rfl (enters_of Tryz.func147 (by kernel_rfl) rfl) tabOk (by kernel_rfl) rfl rfl (TpX.runY [] [] ?_))
 repeat' (first|(apply cond_p <;> intro _)|apply cond_n|(apply cS <;> intro _)|(apply leaf_x;exact Ei [] (Ai rfl (Ai trivial rfl));exact (by intro hr hk;first|exact Bool.noConfusion hr|(apply_assumption;assumption)|(exfalso;omega));rfl)|(apply call_f 175;refine call_x (r15used _) ⟨fL (GMod.enc _),trivial⟩ (.inl rfl) (fun _ _=>?_))|(apply call_f 176;refine call_x (r15types _) ⟨rfl,trivial⟩ (.inl rfl) (fun _ _=>?_))|(apply call_f 133;refine call_x (r10isSub _) ⟨rfl,trivial⟩ (.inl rfl) (fun _ _=>?_))|(apply call_f 135;refine call_x (r13is _) ⟨fL (GFilter.enc _),trivial⟩ (.inl rfl) (fun _ _=>?_))|fail)
theorem r15text (a:GMod):∃ r:ByteArray,(r.size≤300000)∧Ct Tryz.prog 148 [.agg (a.enc.map .t)] (AV.s r) [] true:=by
 refine ct_x (Φ:=fun (r:ByteArray)=>r.size≤300000) lit_s (ctx_of Tryz.func148 rfl (enters_of Tryz.func148 (by kernel_rfl) rfl) tabOk (by kernel_rfl) rfl rfl (TpX.runY [] [] ?_))
 repeat' (first|(apply cat_l;exact rfl;((have hh:a.sub.size≤32:=by solve_by_elim [Or.inl,Or.inr]);omega);intro _)|(apply cond_p <;> intro _)|apply cond_n|(apply cS <;> intro _)|(apply leaf_x;exact Ei [] (Ai rfl (Ai trivial rfl));exact (by first|exact Nb rfl|omega|(have hh:a.sub.size≤32:=by solve_by_elim [Or.inl,Or.inr]);omega);rfl)|(apply cat_l;exact rfl;(first|exact Nb rfl|omega|(simp only [Lm] at *;omega));intro _)|(apply cat_r;exact rfl;(first|exact Nb rfl|omega|(simp only [Lm] at *;omega));intro _)|(apply cat_s;(first|exact Nb rfl|omega|(simp only [Lm] at *;omega));intro _)|(apply call_f 147;refine call_x (r15is _) ⟨fL (GMod.enc _),trivial⟩ (.inl rfl) (fun _ _=>?_))|(apply call_f 177;refine call_x (r10typesText _) ⟨rfl,trivial⟩ (.inl rfl) (fun _ _=>?_))|(apply call_f 178;refine call_x (r09text _) ⟨rfl,trivial⟩ (.inl rfl) (fun _ _=>?_))|(apply call_f 179;refine call_x (r11text _) ⟨rfl,trivial⟩ (.inl rfl) (fun _ _=>?_))|(apply call_f 180;refine call_x (r13text _) ⟨fL (GFilter.enc _),trivial⟩ (.inl rfl) (fun _ _=>?_))|(apply call_f 181;refine call_x (r01text _) ⟨rfl,trivial⟩ (.inl rfl) (fun _ _=>?_))|fail)
theorem r15listText (a:List GMod) (_ha:a.length*176≤limB):∃ r:ByteArray,True∧Ct Tryz.prog 107 [.c (.t (.sl 20 (a.map GMod.enc)))] (AV.s r) [] true:=by
 refine ct_x (Φ:=fun _=>True) lit_s (ctx_of Tryz.func107 rfl (enters_of Tryz.func107 (by kernel_rfl) rfl) tabOk (by kernel_rfl) rfl rfl (TpX.runY [] [] ?_))
 repeat' (first|(apply cond_p <;> intro _)|apply cond_n|(apply cS <;> intro _)|(apply leaf_x;exact Ei [] (Ai rfl (Ai trivial rfl));exact (trivial);rfl)|(apply lp_at 5 rfl;refine LpX.up (β:=ByteArray) 5 4 ((((a.map GMod.enc).length:Nat):Int)) (by first|omega|exact len62 (by first|assumption|exact okmr ‹_› ‹_› | exact okmg _ ‹_›) rfl) (by omega) (fun p=>[(3,AV.s p)]) (fun i (p:ByteArray)=>(p.size:Int)≤i*400000) [0] [] 200000 rfl ?_;refine Ai ?_ (fun _ _ _ _ _=>TpX.runY [] [] ?_))|exact Ei _ (Ai (by first|exact Nb rfl|((try dsimp only at *);omega)|exact Int.le_refl 0|(simp only [Lm] at *;omega)) (wk_slim rfl rfl rfl rfl))|exact Ai (by first|assumption|omega) (Ei _ (Ai (by first|exact Nb rfl|((try dsimp only at *);omega)|exact Int.le_refl 0|(simp only [Lm] at *;omega)) (wk_slim rfl rfl rfl rfl)))|(apply ix_map;(first|assumption|omega|(simp only [IntKind.wrap_i64,IntKind.wrap_u64,List.length_cons,List.length_nil];omega)|(simp only [Lm] at *;omega)|decide);(first|assumption|omega|(simp only [IntKind.wrap_i64,IntKind.wrap_u64,List.length_cons,List.length_nil];omega)|(simp only [Lm] at *;omega)|decide);intro _ _)|(apply cat_r;exact rfl;(first|exact Nb rfl|omega|(simp only [Lm] at *;omega));intro _)|(apply cat_s;(first|exact Nb rfl|omega|(simp only [Lm] at *;omega));intro _)|(apply call_f 147;refine call_x (r15is _) ⟨fL (GMod.enc _),trivial⟩ (.inl rfl) (fun _ _=>?_))|(apply call_f 148;refine call_x (r15text _) ⟨fL (GMod.enc _),trivial⟩ (.inl rfl) (fun _ _=>?_))|fail)
theorem r17mods (a:List GMod) (ha:a.length*176≤limB):∃ r:Bool,True∧Ct Tryz.prog 202 [.c (.t (.sl 20 (a.map GMod.enc)))] (AV.b r) [] true:=by
 refine ct_x (Φ:=fun _=>True) lit_b (ctx_of Tryz.func202 rfl (enters_of Tryz.func202 (by kernel_rfl) rfl) tabOk (by kernel_rfl) rfl rfl (TpX.runY [] [] ?_))
 repeat' (first|(apply leaf_x;exact Ei [] (Ai rfl (Ai trivial rfl));exact (trivial);rfl)|(apply call_f 107;refine call_x (r15listText _ (by first|assumption|exact okmr ‹_› ‹_› | exact okmg _ ‹_›)) ⟨rfl,trivial⟩ (.inl rfl) (fun _ _=>?_))|fail)
theorem r08cost (a0:Int) (a1:Int) (a2:Int) (a3:Int) (a4:Int) (a5:Int):∃ r:GCost,True∧Ct Tryz.prog 227 [.agg [.t (iv a0),.t (iv a1),.t (iv a2),.t (iv a3),.t (iv a4),.t (iv a5)]] ((fun r=>.agg (r.enc.map .t)) r) [] true:=by
 refine ct_x (Φ:=fun _=>True) (fun _=>rfl) (ctx_of Tryz.func227 rfl (enters_of Tryz.func227 (by kernel_rfl) rfl) tabOk (by kernel_rfl) rfl rfl (TpX.runY [] [] ?_))
 repeat' (first|(apply leaf_x ⟨_,_,_,_,_,_,_⟩;refine Ei [] (Ai rfl (Ai trivial ?_));(repeat' first|refine Ai ?_ ?_|exact rfl|exact trivial|exact Ei _ rfl|refine lN ?_|refine bS ?_|fail);done)|(apply lp_at 3 rfl;refine LpX.one 3 rfl (TpX.runY [] [] ?_))|(apply ix_n;(first|assumption|omega|(simp only [IntKind.wrap_i64];omega)|(simp only [Lm] at *;omega)|decide);(first|assumption|omega|(simp only [IntKind.wrap_i64];omega)|(simp only [Lm] at *;omega)|decide);intro _)|fail)
theorem r08text (a:GCost):∃ r:ByteArray,(r.size≤5000)∧Ct Tryz.prog 226 [.agg (a.enc.map .t)] (AV.s r) [] true:=by
 refine ct_x (Φ:=fun (r:ByteArray)=>r.size≤5000) lit_s (ctx_of Tryz.func226 rfl (enters_of Tryz.func226 (by kernel_rfl) rfl) tabOk (by kernel_rfl) rfl rfl (TpX.runY [] [] ?_))
 refine call_x (r08is a) ⟨fL (GCost.enc _),trivial⟩ (.inl rfl) (fun b hb=>?_)
 refine cond_n (cS (fun hc=>?_) (fun hc=>?_))
 rotate_left
 ·exact leaf_x _ (Ei [] (Ai rfl (Ai trivial rfl))) (by first|exact Nb rfl|((try dsimp only at *);omega)|exact Int.le_refl 0|(simp only [Lm] at *;omega)) rfl
 obtain ⟨k1,k2,k3,k4,k5,k6,k7⟩:=hb hc
 repeat' (first|(apply cond_p <;> intro _)|(apply cond_ne <;> intro _)|(apply cS <;> intro _)|(apply leaf_x;exact Ei [] (Ai rfl (Ai trivial rfl));exact (by first|exact Nb rfl|((try dsimp only at *);omega)|exact Int.le_refl 0|(simp only [Lm] at *;omega));rfl)|(apply lp_at 5 rfl;refine LpX.up (β:=ByteArray) 5 4 (2) (by first|omega|exact len62 (by first|assumption|exact okmr ‹_› ‹_› | exact okmg _ ‹_›) rfl) (by omega) (fun p=>[(3,AV.s p)]) (fun i (p:ByteArray)=>(p.size:Int)≤i*40) [1] [0] 200000 rfl ?_;refine Ai ?_ (fun _ _ _ _ _=>TpX.runY [] [] ?_))|(apply lp_at 11 rfl;refine LpX.up (β:=ByteArray) 11 5 (5) (by first|omega|exact len62 (by first|assumption|exact okmr ‹_› ‹_› | exact okmg _ ‹_›) rfl) (by omega) (fun p=>[(3,AV.s p)]) (fun i (p:ByteArray)=>(p.size:Int)≤300+i*400) [1] [0] 300000 rfl ?_;refine Ai ?_ ?_;rotate_left;intro i p h0 h1 hp;(rcases (by omega:i=0∨i=1∨i=2∨i=3∨i=4∨i=5) with rfl|rfl|rfl|rfl|rfl|rfl) <;> apply TpX.runY [] [])|(apply lp_at 14 rfl;refine LpX.up (β:=ByteArray) 14 6 (9) (by first|omega|exact len62 (by first|assumption|exact okmr ‹_› ‹_› | exact okmg _ ‹_›) rfl) (by omega) (fun p=>[(3,AV.s p)]) (fun i (q:ByteArray)=>(q.size:Int)≤p.size+i*40) [1,5] [0] 400000 rfl ?_;refine Ai ?_ (fun _ _ _ _ _=>TpX.runY [] [] ?_))|exact Ei _ (Ai (by first|exact Nb rfl|((try dsimp only at *);omega)|exact Int.le_refl 0|(simp only [Lm] at *;omega)) (wk_slim rfl rfl rfl rfl))|exact Ai (by first|assumption|omega) (Ei _ (Ai (by first|exact Nb rfl|((try dsimp only at *);omega)|exact Int.le_refl 0|(simp only [Lm] at *;omega)) (wk_slim rfl rfl rfl rfl)))|(apply sl_lit;(intro _ hh;exact hh);(intro _ hh;exact hh);(first|assumption|omega|(simp only [IntKind.wrap_i64,IntKind.wrap_u64,List.length_cons,List.length_nil];omega)|(simp only [Lm] at *;omega)|decide);(first|assumption|omega|(simp only [IntKind.wrap_i64];omega)|(simp only [Lm] at *;omega)|decide);(first|assumption|omega|(simp only [IntKind.wrap_i64];omega)|(simp only [Lm] at *;omega)|decide);intro _)|(apply ix_n;(first|assumption|omega|(simp only [IntKind.wrap_i64,IntKind.wrap_u64,List.length_cons,List.length_nil];omega)|(simp only [Lm] at *;omega)|decide);(first|assumption|omega|(simp only [IntKind.wrap_i64,IntKind.wrap_u64,List.length_cons,List.length_nil];omega)|(simp only [Lm] at *;omega)|decide);intro _)|(apply cat_r;exact rfl;(first|exact Nb rfl|omega|(simp only [Lm] at *;omega));intro _)|(apply cat_s;(first|exact Nb rfl|omega|(simp only [Lm] at *;omega));intro _)|(apply call_f 181;refine call_x (r01text _) ⟨rfl,trivial⟩ (.inl rfl) (fun _ _=>?_))|fail)
theorem r08poolText (a0:Int) (a1:Int) (a2:Int) (a3:Int) (a4:Int) (a5:Int):∃ r:ByteArray,(r.size≤5000)∧Ct Tryz.prog 203 [.agg [.t (iv a0),.t (iv a1),.t (iv a2),.t (iv a3),.t (iv a4),.t (iv a5)]] (AV.s r) [] true:=by
 refine ct_x (Φ:=fun (r:ByteArray)=>r.size≤5000) lit_s (ctx_of Tryz.func203 rfl (enters_of Tryz.func203 (by kernel_rfl) rfl) tabOk (by kernel_rfl) rfl rfl (TpX.runY [] [] ?_))
 repeat' (first|(apply leaf_x;exact Ei [] (Ai rfl (Ai trivial rfl));exact (by first|exact Nb rfl|((try dsimp only at *);omega)|exact Int.le_refl 0|(simp only [Lm] at *;omega));rfl)|(apply call_f 227;refine call_x (r08cost _ _ _ _ _ _) ⟨⟨rfl,rfl,rfl,rfl,rfl,rfl,trivial⟩,trivial⟩ (.inl rfl) (fun _ _=>?_))|(apply call_f 226;refine call_x (r08text _) ⟨fL (GCost.enc _),trivial⟩ (.inl rfl) (fun _ _=>?_))|fail)
theorem r17is (a:GEffect) (b:Int) (ha:a.ok):∃ r:Bool,True∧Ct Tryz.prog 174 [.agg (a.enc.map .t),.c (.t (iv b))] (AV.b r) [] true:=by
 have ha_:=ha
 obtain ⟨oa0,oa1,oa2,oa3,oa4⟩:=ha_
 refine ct_x (Φ:=fun _=>True) lit_b (ctx_of Tryz.func174 rfl (enters_of Tryz.func174 (by kernel_rfl) rfl) tabOk (by kernel_rfl) rfl rfl (TpX.runY [] [6,7,8,11,14,17,20,23] ?_))
 repeat' (first|(apply cond_p <;> intro _)|apply cond_n|(apply cS <;> intro _)|(apply leaf_x;exact Ei [] (Ai rfl (Ai trivial rfl));exact (trivial);rfl)|(apply cut_at 6 rfl;refine TpX.cut (α:=Bool) 6 (fun p=>[(5,AV.b p)]) (fun _=>True) [2] [0] 200000 rfl ?_;refine Ai (TpX.runY [] [6,7,8,11,14,17,20,23] ?_) (fun _ _=>TpX.runY [] [6,7,8,11,14,17,20,23] ?_))|(apply cut_at 7 rfl;refine TpX.cut (α:=Bool) 7 (fun p=>[(6,AV.b p)]) (fun _=>True) [2,5] [0] 300000 rfl ?_;refine Ai (TpX.runY [] [6,7,8,11,14,17,20,23] ?_) (fun _ _=>TpX.runY [] [6,7,8,11,14,17,20,23] ?_))|(apply cut_at 8 rfl;refine TpX.cut (α:=Bool) 8 (fun p=>[(7,AV.b p)]) (fun _=>True) [2,5,6] [0] 400000 rfl ?_;refine Ai (TpX.runY [] [6,7,8,11,14,17,20,23] ?_) (fun _ _=>TpX.runY [] [6,7,8,11,14,17,20,23] ?_))|(apply cut_at 11 rfl;refine TpX.cut (α:=Bool) 11 (fun p=>[(8,AV.b p)]) (fun _=>True) [2,5,6,7] [0] 500000 rfl ?_;refine Ai (TpX.runY [] [6,7,8,11,14,17,20,23] ?_) (fun _ _=>TpX.runY [] [6,7,8,11,14,17,20,23] ?_))|(apply cut_at 14 rfl;refine TpX.cut (α:=Bool) 14 (fun p=>[(9,AV.b p)]) (fun _=>True) [2,5,6,7,8] [0] 600000 rfl ?_;refine Ai (TpX.runY [] [6,7,8,11,14,17,20,23] ?_) (fun _ _=>TpX.runY [] [6,7,8,11,14,17,20,23] ?_))|(apply cut_at 17 rfl;refine TpX.cut (α:=Bool) 17 (fun p=>[(10,AV.b p)]) (fun _=>True) [2,5,6,7,8,9] [0] 700000 rfl ?_;refine Ai (TpX.runY [] [6,7,8,11,14,17,20,23] ?_) (fun _ _=>TpX.runY [] [6,7,8,11,14,17,20,23] ?_))|(apply cut_at 20 rfl;refine TpX.cut (α:=Bool) 20 (fun p=>[(11,AV.b p)]) (fun _=>True) [2,5,6,7,8,9,10] [0] 800000 rfl ?_;refine Ai (TpX.runY [] [6,7,8,11,14,17,20,23] ?_) (fun _ _=>TpX.runY [] [6,7,8,11,14,17,20,23] ?_))|(apply cut_at 23 rfl;refine TpX.cut (α:=Bool) 23 (fun p=>[(12,AV.b p)]) (fun _=>True) [5,6,7,8,9,10,11] [] 900000 rfl ?_;refine Ai (TpX.runY [] [6,7,8,11,14,17,20,23] ?_) (fun _ _=>TpX.runY [] [6,7,8,11,14,17,20,23] ?_))|exact Ei _ (Ai (trivial) (wk_slim rfl rfl rfl rfl))|(apply call_f 197;refine call_x (r17word _) ⟨rfl,trivial⟩ (.inl rfl) (fun _ _=>?_))|(apply call_f 198;refine call_x (r17uses _ _) ⟨rfl,rfl,trivial⟩ (.inl rfl) (fun _ _=>?_))|(apply call_f 199;refine call_x (r16is _ _) ⟨fL (GRef.enc _),rfl,trivial⟩ (.inl rfl) (fun _ _=>?_))|(apply call_f 200;refine call_x (r12name _) ⟨rfl,trivial⟩ (.inl rfl) (fun _ _=>?_))|(apply call_f 93;refine call_x (r02is _) ⟨rfl,trivial⟩ (.inl rfl) (fun _ _=>?_))|(apply call_f 201;refine call_x (r14is _) ⟨fL (GAmount.enc _),trivial⟩ (.inl rfl) (fun _ _=>?_))|(apply call_f 202;refine call_x (r17mods _ (by first|assumption|exact okmr ‹_› ‹_› | exact okmg _ ‹_›)) ⟨rfl,trivial⟩ (.inl rfl) (fun _ _=>?_))|(apply call_f 203;refine call_x (r08poolText _ _ _ _ _ _) ⟨⟨rfl,rfl,rfl,rfl,rfl,rfl,trivial⟩,trivial⟩ (.inl rfl) (fun _ _=>?_))|(apply call_f 204;refine call_x (r17filter _ _) ⟨rfl,fL (GFilter.enc _),trivial⟩ (.inl rfl) (fun _ _=>?_))|fail)
theorem r20effects (a:List GEffect) (b:Int) (ha:a.length*560≤limB) (ma:∀ y∈a,GEffect.ok y):∃ r:Bool,True∧Ct Tryz.prog 140 [.c (.t (.sl 64 (a.map GEffect.enc))),.c (.t (iv b))] (AV.b r) [] true:=by
 refine ct_x (Φ:=fun _=>True) lit_b (ctx_of Tryz.func140 rfl (enters_of Tryz.func140 (by kernel_rfl) rfl) tabOk (by kernel_rfl) rfl rfl (TpX.runY [] [] ?_))
 repeat' (first|(apply cond_p <;> intro _)|apply cond_n|(apply cS <;> intro _)|(apply leaf_x;exact Ei [] (Ai rfl (Ai trivial rfl));exact (trivial);rfl)|(apply lp_at 2 rfl;refine LpX.up (β:=Unit) 2 5 ((((a.map GEffect.enc).length:Nat):Int)) (by first|omega|exact len62 (by first|assumption|exact okmr ‹_› ‹_› | exact okmg _ ‹_›) rfl) (by omega) (fun _=>[]) (fun _ _=>True) [0,1] [] 200000 rfl ?_;refine Ai ?_ (fun _ _ _ _ _=>TpX.runY [] [] ?_))|exact Ei () (Ai (trivial) (wk_slim rfl rfl rfl rfl))|exact Ai (by first|assumption|omega) (Ei () (Ai (trivial) (wk_slim rfl rfl rfl rfl)))|(apply ix_map;(first|assumption|omega|(simp only [IntKind.wrap_i64,IntKind.wrap_u64,List.length_cons,List.length_nil];omega)|(simp only [Lm] at *;omega)|decide);(first|assumption|omega|(simp only [IntKind.wrap_i64,IntKind.wrap_u64,List.length_cons,List.length_nil];omega)|(simp only [Lm] at *;omega)|decide);intro _ _)|(apply call_f 174;refine call_x (r17is _ _ (by first|assumption|exact okmr ‹_› ‹_› | exact okmg _ ‹_›)) ⟨fL (GEffect.enc _),rfl,trivial⟩ (.inl rfl) (fun _ _=>?_))|fail)
theorem r20is (a:GAbility) (ha:a.ok):∃ r:Bool,True∧Ct Tryz.prog 98 [.agg (a.enc.map .t)] (AV.b r) [] true:=by
 have ha_:=ha
 obtain ⟨oa0,oa1,oa2,oa3,oa4,oa5,oa6,oa7,oa8,oa9⟩:=ha_
 refine ct_x (Φ:=fun _=>True) lit_b (ctx_of Tryz.func98 rfl (enters_of Tryz.func98 (by kernel_rfl) rfl) tabOk (by kernel_rfl) rfl rfl (TpX.runY [] [1002,3,4,1006,1008,9,1013,14,1018,19,24] ?_))
 repeat' (first|(apply cond_p <;> intro _)|(apply cond_ne <;> intro _)|apply cond_n|(apply cS <;> intro _)|(apply leaf_x;exact Ei [] (Ai rfl (Ai trivial rfl));exact (trivial);rfl)|(apply cut_at 1002 rfl;refine TpX.cut (α:=Bool) 1002 (fun p=>[(11,AV.b p)]) (fun _=>True) [1] [0] 200000 rfl ?_;refine Ai (TpX.runY [] [1002,3,4,1006,1008,9,1013,14,1018,19,24] ?_) (fun _ _=>TpX.runY [] [1002,3,4,1006,1008,9,1013,14,1018,19,24] ?_))|(apply cut_at 3 rfl;refine TpX.cut (α:=Unit) 3 (fun _=>[]) (fun _=>True) [1] [0] 300000 rfl ?_;refine Ai (TpX.runY [] [1002,3,4,1006,1008,9,1013,14,1018,19,24] ?_) (fun _ _=>TpX.runY [] [1002,3,4,1006,1008,9,1013,14,1018,19,24] ?_))|(apply cut_at 4 rfl;refine TpX.cut (α:=Bool) 4 (fun p=>[(3,AV.b p)]) (fun _=>True) [1] [0] 400000 rfl ?_;refine Ai (TpX.runY [] [1002,3,4,1006,1008,9,1013,14,1018,19,24] ?_) (fun _ _=>TpX.runY [] [1002,3,4,1006,1008,9,1013,14,1018,19,24] ?_))|(apply cut_at 1006 rfl;refine TpX.cut (α:=Bool) 1006 (fun p=>[(43,AV.b p)]) (fun _=>True) [1,3] [0] 500000 rfl ?_;refine Ai (TpX.runY [] [1002,3,4,1006,1008,9,1013,14,1018,19,24] ?_) (fun _ _=>TpX.runY [] [1002,3,4,1006,1008,9,1013,14,1018,19,24] ?_))|(apply cut_at 1008 rfl;refine TpX.cut (α:=Bool) 1008 (fun p=>[(53,AV.b p)]) (fun _=>True) [1,3] [0] 600000 rfl ?_;refine Ai (TpX.runY [] [1002,3,4,1006,1008,9,1013,14,1018,19,24] ?_) (fun _ _=>TpX.runY [] [1002,3,4,1006,1008,9,1013,14,1018,19,24] ?_))|(apply cut_at 9 rfl;refine TpX.cut (α:=Unit) 9 (fun _=>[]) (fun _=>True) [1,3] [0] 700000 rfl ?_;refine Ai (TpX.runY [] [1002,3,4,1006,1008,9,1013,14,1018,19,24] ?_) (fun _ _=>TpX.runY [] [1002,3,4,1006,1008,9,1013,14,1018,19,24] ?_))|(apply cut_at 1013 rfl;refine TpX.cut (α:=Bool) 1013 (fun p=>[(68,AV.b p)]) (fun _=>True) [1,3] [0] 800000 rfl ?_;refine Ai (TpX.runY [] [1002,3,4,1006,1008,9,1013,14,1018,19,24] ?_) (fun _ _=>TpX.runY [] [1002,3,4,1006,1008,9,1013,14,1018,19,24] ?_))|(apply cut_at 14 rfl;refine TpX.cut (α:=Unit) 14 (fun _=>[]) (fun _=>True) [1,3] [0] 900000 rfl ?_;refine Ai (TpX.runY [] [1002,3,4,1006,1008,9,1013,14,1018,19,24] ?_) (fun _ _=>TpX.runY [] [1002,3,4,1006,1008,9,1013,14,1018,19,24] ?_))|(apply cut_at 1018 rfl;refine TpX.cut (α:=Bool) 1018 (fun p=>[(83,AV.b p)]) (fun _=>True) [1,3] [0] 1000000 rfl ?_;refine Ai (TpX.runY [] [1002,3,4,1006,1008,9,1013,14,1018,19,24] ?_) (fun _ _=>TpX.runY [] [1002,3,4,1006,1008,9,1013,14,1018,19,24] ?_))|(apply cut_at 19 rfl;refine TpX.cut (α:=Unit) 19 (fun _=>[]) (fun _=>True) [1,3] [0] 1100000 rfl ?_;refine Ai (TpX.runY [] [1002,3,4,1006,1008,9,1013,14,1018,19,24] ?_) (fun _ _=>TpX.runY [] [1002,3,4,1006,1008,9,1013,14,1018,19,24] ?_))|(apply cut_at 24 rfl;refine TpX.cut (α:=Unit) 24 (fun _=>[]) (fun _=>True) [1,3] [0] 1200000 rfl ?_;refine Ai (TpX.runY [] [1002,3,4,1006,1008,9,1013,14,1018,19,24] ?_) (fun _ _=>TpX.runY [] [1002,3,4,1006,1008,9,1013,14,1018,19,24] ?_))|exact Ei () (Ai (trivial) (wk_slim rfl rfl rfl rfl))|exact Ei _ (Ai (trivial) (wk_slim rfl rfl rfl rfl))|(apply call_f 135;refine call_x (r13is _) ⟨fL (GFilter.enc _),trivial⟩ (.inl rfl) (fun _ _=>?_))|(apply call_f 107;refine call_x (r15listText _ (by first|assumption|exact okmr ‹_› ‹_› | exact okmg _ ‹_›)) ⟨rfl,trivial⟩ (.inl rfl) (fun _ _=>?_))|(apply call_f 136;refine call_x (r20price _) ⟨fL (GPrice.enc _),trivial⟩ (.inl rfl) (fun _ _=>?_))|(apply call_f 137;refine call_x (r18is _) ⟨fL (GTrigger.enc _),trivial⟩ (.inl rfl) (fun _ _=>?_))|(apply call_f 138;refine call_x (r19is _) ⟨fL (GReplace.enc _),trivial⟩ (.inl rfl) (fun _ _=>?_))|(apply call_f 139;refine call_x (r20specs _ (by first|assumption|exact okmr ‹_› ‹_› | exact okmg _ ‹_›)) ⟨rfl,trivial⟩ (.inl rfl) (fun _ _=>?_))|(apply call_f 140;refine call_x (r20effects _ _ (by first|assumption|exact okmr ‹_› ‹_› | exact okmg _ ‹_›) (by first|assumption|exact okmr ‹_› ‹_› | exact okmg _ ‹_›)) ⟨rfl,rfl,trivial⟩ (.inl rfl) (fun _ _=>?_))|fail)
theorem r17sameMods (a:List GMod) (b:List GMod) (ha:a.length*176≤limB) (_hb:b.length*176≤limB):∃ r:Bool,True∧Ct Tryz.prog 151 [.c (.t (.sl 20 (a.map GMod.enc))),.c (.t (.sl 20 (b.map GMod.enc)))] (AV.b r) [] true:=by
 refine ct_x (Φ:=fun _=>True) lit_b (ctx_of Tryz.func151 rfl (enters_of Tryz.func151 (by kernel_rfl) rfl) tabOk (by kernel_rfl) rfl rfl (TpX.runY [] [] ?_))
 repeat' (first|(apply cond_p <;> intro _)|(apply cond_ne <;> intro _)|apply cond_n|(apply cS <;> intro _)|(apply leaf_x;exact Ei [] (Ai rfl (Ai trivial rfl));exact (trivial);rfl)|(apply lp_at 4 rfl;refine LpX.up (β:=Unit) 4 5 ((((a.map GMod.enc).length:Nat):Int)) (by first|omega|exact len62 (by first|assumption|exact okmr ‹_› ‹_› | exact okmg _ ‹_›) rfl) (by omega) (fun _=>[]) (fun _ _=>True) [0,1] [] 200000 rfl ?_;refine Ai ?_ (fun _ _ _ _ _=>TpX.runY [] [] ?_))|exact Ei () (Ai (trivial) (wk_slim rfl rfl rfl rfl))|exact Ai (by first|assumption|omega) (Ei () (Ai (trivial) (wk_slim rfl rfl rfl rfl)))|(apply ix_map;(first|assumption|omega|(simp only [IntKind.wrap_i64,IntKind.wrap_u64,List.length_cons,List.length_nil];omega)|(simp only [Lm] at *;omega)|decide);(first|assumption|omega|(simp only [IntKind.wrap_i64,IntKind.wrap_u64,List.length_cons,List.length_nil];omega)|(simp only [Lm] at *;omega)|decide);intro _ _)|fail)
theorem r17same (a:GEffect) (b:GEffect) (ha:a.ok) (hb:b.ok):∃ r:Bool,True∧Ct Tryz.prog 182 [.agg (a.enc.map .t),.agg (b.enc.map .t)] (AV.b r) [] true:=by
 have ha_:=ha
 obtain ⟨oa0,oa1,oa2,oa3,oa4⟩:=ha_
 have hb_:=hb
 obtain ⟨ob0,ob1,ob2,ob3,ob4⟩:=hb_
 refine ct_x (Φ:=fun _=>True) lit_b (ctx_of Tryz.func182 rfl (enters_of Tryz.func182 (by kernel_rfl) rfl) tabOk (by kernel_rfl) rfl rfl (TpX.runY [] [] ?_))
 repeat' (first|(apply cond_p <;> intro _)|(apply cS <;> intro _)|(apply leaf_x;exact Ei [] (Ai rfl (Ai trivial rfl));exact (trivial);rfl)|(apply call_f 151;refine call_x (r17sameMods _ _ (by first|assumption|exact okmr ‹_› ‹_› | exact okmg _ ‹_›) (by first|assumption|exact okmr ‹_› ‹_› | exact okmg _ ‹_›)) ⟨rfl,rfl,trivial⟩ (.inl rfl) (fun _ _=>?_))|fail)
theorem r17sameList (a:List GEffect) (b:List GEffect) (ha:a.length*560≤limB) (ma:∀ y∈a,GEffect.ok y) (_hb:b.length*560≤limB) (mb:∀ y∈b,GEffect.ok y):∃ r:Bool,True∧Ct Tryz.prog 152 [.c (.t (.sl 64 (a.map GEffect.enc))),.c (.t (.sl 64 (b.map GEffect.enc)))] (AV.b r) [] true:=by
 refine ct_x (Φ:=fun _=>True) lit_b (ctx_of Tryz.func152 rfl (enters_of Tryz.func152 (by kernel_rfl) rfl) tabOk (by kernel_rfl) rfl rfl (TpX.runY [] [] ?_))
 repeat' (first|(apply cond_p <;> intro _)|(apply cond_ne <;> intro _)|apply cond_n|(apply cS <;> intro _)|(apply leaf_x;exact Ei [] (Ai rfl (Ai trivial rfl));exact (trivial);rfl)|(apply lp_at 4 rfl;refine LpX.up (β:=Unit) 4 5 ((((a.map GEffect.enc).length:Nat):Int)) (by first|omega|exact len62 (by first|assumption|exact okmr ‹_› ‹_› | exact okmg _ ‹_›) rfl) (by omega) (fun _=>[]) (fun _ _=>True) [0,1] [] 200000 rfl ?_;refine Ai ?_ (fun _ _ _ _ _=>TpX.runY [] [] ?_))|exact Ei () (Ai (trivial) (wk_slim rfl rfl rfl rfl))|exact Ai (by first|assumption|omega) (Ei () (Ai (trivial) (wk_slim rfl rfl rfl rfl)))|(apply ix_map;(first|assumption|omega|(simp only [IntKind.wrap_i64,IntKind.wrap_u64,List.length_cons,List.length_nil];omega)|(simp only [Lm] at *;omega)|decide);(first|assumption|omega|(simp only [IntKind.wrap_i64,IntKind.wrap_u64,List.length_cons,List.length_nil];omega)|(simp only [Lm] at *;omega)|decide);intro _ _)|(apply call_f 182;refine call_x (r17same _ _ (by first|assumption|exact okmr ‹_› ‹_› | exact okmg _ ‹_›) (by first|assumption|exact okmr ‹_› ‹_› | exact okmg _ ‹_›)) ⟨fL (GEffect.enc _),fL (GEffect.enc _),trivial⟩ (.inl rfl) (fun _ _=>?_))|fail)
theorem r20same (a:GAbility) (b:GAbility) (ha:a.ok) (hb:b.ok):∃ r:Bool,True∧Ct Tryz.prog 112 [.agg (a.enc.map .t),.agg (b.enc.map .t)] (AV.b r) [] true:=by
 have ha_:=ha
 obtain ⟨oa0,oa1,oa2,oa3,oa4,oa5,oa6,oa7,oa8,oa9⟩:=ha_
 have hb_:=hb
 obtain ⟨ob0,ob1,ob2,ob3,ob4,ob5,ob6,ob7,ob8,ob9⟩:=hb_
 refine ct_x (Φ:=fun _=>True) lit_b (ctx_of Tryz.func112 rfl (enters_of Tryz.func112 (by kernel_rfl) rfl) tabOk (by kernel_rfl) rfl rfl (TpX.runY [] [] ?_))
 repeat' (first|(apply cond_p <;> intro _)|(apply cond_ne <;> intro _)|apply cond_n|(apply cS <;> intro _)|(apply leaf_x;exact Ei [] (Ai rfl (Ai trivial rfl));exact (trivial);rfl)|(apply lp_at 4 rfl;refine LpX.up (β:=Unit) 4 5 ((((a.specs.map GSpec.enc).length:Nat):Int)) (by first|omega|exact len62 (by first|assumption|exact okmr ‹_› ‹_› | exact okmg _ ‹_›) rfl) (by omega) (fun _=>[]) (fun _ _=>True) [2,3] [0,128] 200000 rfl ?_;refine Ai ?_ (fun _ _ _ _ _=>TpX.runY [] [] ?_))|exact Ei () (Ai (trivial) (wk_slim rfl rfl rfl rfl))|exact Ai (by first|assumption|omega) (Ei () (Ai (trivial) (wk_slim rfl rfl rfl rfl)))|(apply ix_map;(first|assumption|omega|(simp only [IntKind.wrap_i64,IntKind.wrap_u64,List.length_cons,List.length_nil];omega)|(simp only [Lm] at *;omega)|decide);(first|assumption|omega|(simp only [IntKind.wrap_i64,IntKind.wrap_u64,List.length_cons,List.length_nil];omega)|(simp only [Lm] at *;omega)|decide);intro _ _)|(apply call_f 151;refine call_x (r17sameMods _ _ (by first|assumption|exact okmr ‹_› ‹_› | exact okmg _ ‹_›) (by first|assumption|exact okmr ‹_› ‹_› | exact okmg _ ‹_›)) ⟨rfl,rfl,trivial⟩ (.inl rfl) (fun _ _=>?_))|(apply call_f 152;refine call_x (r17sameList _ _ (by first|assumption|exact okmr ‹_› ‹_› | exact okmg _ ‹_›) (by first|assumption|exact okmr ‹_› ‹_› | exact okmg _ ‹_›) (by first|assumption|exact okmr ‹_› ‹_› | exact okmg _ ‹_›) (by first|assumption|exact okmr ‹_› ‹_› | exact okmg _ ‹_›)) ⟨rfl,rfl,trivial⟩ (.inl rfl) (fun _ _=>?_))|fail)
end Go.Proofs.YtpibcdnagnjokaaGreat
end
section
namespace Go.Proofs.YtpibcdnagnjokaaGreat
open Go Cg Go.RowKit
theorem ints_row (xs:List (List Tr)) (h:xs.length*8≤limB):Ct Tryz.prog 47 [.c (.t (.sl 1 xs))] (.c (.row 0 0)) [⟨3,1,0,xs,none⟩] false:=by
 refine ct_of Tryz.func47 rfl (enters_of Tryz.func47 (by kernel_rfl) rfl) tabOk (by kernel_rfl) rfl rfl rfl rfl fun w0 O _=>Tp.run [] ?_
 refine Ai (.inl rfl) (Ai (all_bound xs 8 h) (Ai (all_bound2 xs 8 (by decide) h) ?_))
 exact Ei [(0,128)] (Ai rfl (Ai (Ai ⟨rfl,rfl,rfl⟩ trivial) (Ai rfl ⟨rfl,rfl⟩)))
theorem ints_ct2 (l:List Int) (h:l.length*8 < 140737488355328):Ct Tryz.prog 47 [.c (.t (.sl 1 (l.map eI)))] (.c (.t (.sl 1 (l.map eI)))) [] false:=by
 refine ct_of Tryz.func47 rfl (enters_of Tryz.func47 (by kernel_rfl) rfl) tabOk (by kernel_rfl) rfl rfl rfl rfl fun w0 O _=>Tp.run [] ?_
 refine Ai (.inl rfl) (Ai (show (([]:List (List Tr)).length+(l.map eI).length)*8≤_ by rw [Lm,List.length_nil];omega) (Ai (show ([]:List (List Tr)).length+(l.map eI).length < _ by rw [Lm,List.length_nil];omega) ?_))
 exact Ei [] (Ai rfl (Ai trivial ⟨rfl,rfl,rfl⟩))
theorem ints_ct (xs:List (List Tr)) (h:xs.length*8≤limB):Ct Tryz.prog 47 [.c (.t (.sl 1 xs))] (.c (.t (.sl 1 xs))) [] false:=by
 refine ct_of Tryz.func47 rfl (enters_of Tryz.func47 (by kernel_rfl) rfl) tabOk (by kernel_rfl) rfl rfl rfl rfl fun w0 O _=>Tp.run [] ?_
 refine Ai (.inl rfl) (Ai (all_bound xs 8 h) (Ai (all_bound2 xs 8 (by decide) h) ?_))
 exact Ei [] (Ai rfl (Ai trivial ⟨rfl,rfl,rfl⟩))
theorem ability_ct (a:GAbility) (h:a.ok):Ct Tryz.prog 48 [.agg (a.enc.map .t)] (.agg (a.enc.map .t)) [] false:=by
 obtain ⟨_,hm,hm2,_,_,hs,hs2,he,he2,_⟩:=h
 refine ct_of Tryz.func48 rfl (enters_of Tryz.func48 (by kernel_rfl) rfl) tabOk (by kernel_rfl) rfl rfl rfl rfl fun w0 O _=>Tp.run [10] ?_
 refine Ai (.inl rfl) (Ai (all_bound _ 176 (map_bound _ _ _ hm)) (Ai (all_bound2 _ 176 (by decide) (map_bound _ _ _ hm)) ?_))
 refine Ai (.inl rfl) (Ai (all_bound _ 144 (map_bound _ _ _ hs)) (Ai (all_bound2 _ 144 (by decide) (map_bound _ _ _ hs)) ?_))
 refine Tp.loop (fun k:Nat=>⟨[(1,.ptr 0 0),(2,.ptr 128 0),(3,.ptr 384 0),(4,AV.i k)],[(0,a.enc.map .t),(128,List.replicate 72 .bot),(384,(a.enc.map .t).set 49 (.row 9000 0))],[(9000,⟨154,64,0,(a.effects.take k).map GEffect.enc,none⟩)],10000⟩) (fun k=>k≤a.effects.length) (fun k=>a.effects.length - k) 0 ?_ (Nat.zero_le _) ?_
 ·refine wk_of [] rfl rfl ?_ ?_ ?_
  all_goals repeat' first|refine Ai ?_ ?_|exact rfl|exact trivial|exact Ei _ rfl|refine lN ?_|refine bS ?_|fail
 rintro k hk
 refine Tp.run [10] ?_
 refine cS (fun h=>?_) (fun h=>?_)
 ·have hlt:=len_lt h
  obtain ⟨_,_,_,hem,hem2⟩:=he2 a.effects[k] (List.getElem_mem hlt)
  refine Ei k (Ei (a.effects[k].enc) (Ai rfl (Ai (map_get _ _ k hlt) ?_)))
  refine Ai (.inl rfl) (Ai (all_bound _ 176 (map_bound _ _ _ hem)) (Ai (all_bound2 _ 176 (by decide) (map_bound _ _ _ hem)) ?_))
  refine Tp.frz [9000] (Tp.run [] ?_)
  refine Ai (.inl rfl) (Ai (take_bound a.effects GEffect.enc k hlt _ 560 (by decide) he) (Ai (take_bound2 a.effects GEffect.enc k hlt _ 560 (by decide) he) ?_))
  refine Ei (k+1) (Ai (show k+1≤_ by omega) (Ai (show a.effects.length - (k+1) < a.effects.length - k by omega) ?_))
  refine wk_of [(9000,9000)] rfl rfl ?_ ?_ ?_
  ·repeat' first|refine Ai ?_ ?_|exact rfl|exact trivial|exact Ei _ rfl|refine lN ?_|refine bS ?_|fail
   exact succ_eq k hlt 560 (by decide) he
  ·repeat' first|refine Ai ?_ ?_|exact rfl|exact trivial|exact Ei _ rfl|refine lN ?_|refine bS ?_|fail
  ·repeat' first|refine Ai ?_ ?_|exact rfl|exact trivial|exact Ei _ rfl|refine lN ?_|refine bS ?_|fail
   exact take_succ_map a.effects GEffect.enc k hlt
 ·have hk2:=len_ge h hk
  subst hk2
  refine Ei [] (Ai rfl (Ai trivial ?_))
  repeat' first|refine Ai ?_ ?_|exact rfl|exact trivial|exact Ei _ rfl|refine lN ?_|refine bS ?_|fail
  exact take_all a.effects GEffect.enc 64
theorem take_m {α β:Type} (l:List α) (f:α→β):(l.take l.length).map f=l.map f:=by rw [List.take_length]
theorem copy_ct (s:GState) (h:s.ok):Ct Tryz.prog 16 [.agg (s.enc.map .t)] (.agg ([.row 0 0,.row 1 0,.row 2 0]++(s.enc.drop 3).map .t)) [⟨44,14,0,s.players.map GPlayer.enc,none⟩,⟨47,19,0,s.objects.map GObject.enc,none⟩,⟨3,1,0,s.battlefield.map eI,none⟩] false:=by
 obtain ⟨hp,hp2,ho,ho2,hb,hx,hs,hs2,hw,hw2,hc,hc2,hxt⟩:=h
 refine ct_of Tryz.func16 rfl (enters_of Tryz.func16 (by kernel_rfl) rfl) tabOk (by kernel_rfl) rfl rfl rfl rfl fun w0 O _=>Tp.run [] ?_
 refine Tp.loop (fun k:Nat=>⟨[(1,.ptr 0 0),(2,.ptr 128 0),(3,.ptr 384 0),(4,AV.i k)],[(0,s.enc.map .t),(128,List.replicate 19 .bot),(384,((s.enc.map .t).set 0 (.row 9000 0)))],[(9000,⟨44,14,0,(s.players.take k).map GPlayer.enc,none⟩)],10000⟩) (fun k=>k≤s.players.length) (fun k=>s.players.length - k) 0 ?_ (Nat.zero_le _) ?_
 ·refine wk_of [] rfl rfl ?_ ?_ ?_
  all_goals repeat' first|refine Ai ?_ ?_|exact rfl|exact trivial|exact Ei _ rfl|refine lN ?_|refine bS ?_|fail
 rintro k hk
 refine Tp.run [10] ?_
 refine cS (fun h=>?_) (fun h=>?_)
 ·have hlt:=len_lt h
  obtain ⟨e1,e2,e3⟩:=hp2 s.players[k] (List.getElem_mem hlt)
  refine Ei k (Ei (s.players[k].enc) (Ai rfl (Ai (map_get _ _ k hlt) ?_)))
  refine cI (ints_ct _ (map_bound _ _ _ e1)) ⟨rfl,trivial⟩ (.inr rfl) ?_
  refine cI (ints_ct _ (map_bound _ _ _ e2)) ⟨rfl,trivial⟩ (.inr rfl) ?_
  refine cI (ints_ct _ (map_bound _ _ _ e3)) ⟨rfl,trivial⟩ (.inr rfl) ?_
  refine Tp.frz [9000] (Tp.run [] ?_)
  refine Ai (.inl rfl) (Ai (take_bound s.players GPlayer.enc k hlt _ 152 (by decide) hp) (Ai (take_bound2 s.players GPlayer.enc k hlt _ 152 (by decide) hp) ?_))
  refine Ei (k+1) (Ai (show k+1≤_ by omega) (Ai (show s.players.length - (k+1) < s.players.length - k by omega) ?_))
  refine wk_of [(9000,9000)] rfl rfl ?_ ?_ ?_
  ·repeat' first|refine Ai ?_ ?_|exact rfl|exact trivial|exact Ei _ rfl|refine lN ?_|refine bS ?_|fail
   exact succ_eq k hlt 152 (by decide) hp
  ·repeat' first|refine Ai ?_ ?_|exact rfl|exact trivial|exact Ei _ rfl|refine lN ?_|refine bS ?_|fail
  ·repeat' first|refine Ai ?_ ?_|exact rfl|exact trivial|exact Ei _ rfl|refine lN ?_|refine bS ?_|fail
   exact take_succ_map s.players GPlayer.enc k hlt
 have hk0:=len_ge h hk
 subst hk0
 clear h hk
 refine Ai (.inl rfl) (Ai (all_bound _ 128 (map_bound _ _ _ ho)) (Ai (all_bound2 _ 128 (by decide) (map_bound _ _ _ ho)) ?_))
 refine cI (ints_row _ (map_bound _ _ _ hb)) ⟨rfl,trivial⟩ (.inr rfl) ?_
 refine cI (ints_ct _ (map_bound _ _ _ hx)) ⟨rfl,trivial⟩ (.inr rfl) ?_
 refine Tp.loop (fun k:Nat=>⟨[(1,.ptr 0 0),(2,.ptr 128 0),(3,.ptr 384 0),(6,AV.i k)],[(0,s.enc.map .t),(128,List.replicate 19 .bot),(384,(((((s.enc.map .t).set 0 (.row 9000 0)).set 1 (.row 9001 0)).set 2 (.row 9002 0)).set 4 (.row 9003 0)))],[(9000,⟨44,14,0,s.players.map GPlayer.enc,none⟩),(9001,⟨47,19,0,s.objects.map GObject.enc,none⟩),(9002,⟨3,1,0,s.battlefield.map eI,none⟩),(9003,⟨91,94,0,(s.stack.take k).map GItem.enc,none⟩)],20000⟩) (fun k=>k≤s.stack.length) (fun k=>s.stack.length - k) 0 ?_ (Nat.zero_le _) ?_
 ·refine wk_of [(9000,9000),(9001,10640),(9002,11664)] rfl rfl ?_ ?_ ?_
  ·repeat' first|refine Ai ?_ ?_|exact rfl|exact trivial|exact Ei _ rfl|refine lN ?_|refine bS ?_|fail
   all_goals exact take_m s.players GPlayer.enc
  ·repeat' first|refine Ai ?_ ?_|exact rfl|exact trivial|exact Ei _ rfl|refine lN ?_|refine bS ?_|fail
   all_goals exact take_m s.players GPlayer.enc
  ·repeat' first|refine Ai ?_ ?_|exact rfl|exact trivial|exact Ei _ rfl|refine lN ?_|refine bS ?_|fail
   all_goals exact take_m s.players GPlayer.enc
 rintro k hk
 refine Tp.run [21] ?_
 refine cS (fun h=>?_) (fun h=>?_)
 ·have hlt:=len_lt h
  obtain ⟨e1,e2,_⟩:=hs2 s.stack[k] (List.getElem_mem hlt)
  refine Ei k (Ei (s.stack[k].enc) (Ai rfl (Ai (map_get _ _ k hlt) ?_)))
  refine cI (ability_ct s.stack[k].ability e1) ⟨fL s.stack[k].ability.enc,trivial⟩ (.inr rfl) ?_
  refine Ai (.inl rfl) (Ai (all_bound _ 16 (map_bound _ _ _ e2)) (Ai (all_bound2 _ 16 (by decide) (map_bound _ _ _ e2)) ?_))
  refine Tp.frz [9000,9001,9002,9003] (Tp.run [] ?_)
  refine Ai (.inl rfl) (Ai (take_bound s.stack GItem.enc k hlt _ 824 (by decide) hs) (Ai (take_bound2 s.stack GItem.enc k hlt _ 824 (by decide) hs) ?_))
  refine Ei (k+1) (Ai (show k+1≤_ by omega) (Ai (show s.stack.length - (k+1) < s.stack.length - k by omega) ?_))
  refine wk_of [(9000,9000),(9001,9001),(9002,9002),(9003,9003)] rfl rfl ?_ ?_ ?_
  ·repeat' first|refine Ai ?_ ?_|exact rfl|exact trivial|exact Ei _ rfl|refine lN ?_|refine bS ?_|fail
   exact succ_eq k hlt 824 (by decide) hs
  ·repeat' first|refine Ai ?_ ?_|exact rfl|exact trivial|exact Ei _ rfl|refine lN ?_|refine bS ?_|fail
  ·repeat' first|refine Ai ?_ ?_|exact rfl|exact trivial|exact Ei _ rfl|refine lN ?_|refine bS ?_|fail
   exact take_succ_map s.stack GItem.enc k hlt
 have hk1:=len_ge h hk
 subst hk1
 clear h hk
 refine Tp.loop (fun k:Nat=>⟨[(1,.ptr 0 0),(2,.ptr 128 0),(3,.ptr 384 0),(8,AV.i k)],[(0,s.enc.map .t),(128,List.replicate 19 .bot),(384,(((((s.enc.map .t).set 0 (.row 9000 0)).set 1 (.row 9001 0)).set 2 (.row 9002 0)).set 5 (.row 9003 0)))],[(9000,⟨44,14,0,s.players.map GPlayer.enc,none⟩),(9001,⟨47,19,0,s.objects.map GObject.enc,none⟩),(9002,⟨3,1,0,s.battlefield.map eI,none⟩),(9003,⟨97,89,0,(s.waiting.take k).map GWaiting.enc,none⟩)],30000⟩) (fun k=>k≤s.waiting.length) (fun k=>s.waiting.length - k) 0 ?_ (Nat.zero_le _) ?_
 ·refine wk_of [(9000,9000),(9001,9001),(9002,9002)] rfl rfl ?_ ?_ ?_
  ·repeat' first|refine Ai ?_ ?_|exact rfl|exact trivial|exact Ei _ rfl|refine lN ?_|refine bS ?_|fail
   all_goals exact take_all s.stack GItem.enc 94
  ·repeat' first|refine Ai ?_ ?_|exact rfl|exact trivial|exact Ei _ rfl|refine lN ?_|refine bS ?_|fail
   all_goals exact take_all s.stack GItem.enc 94
  ·repeat' first|refine Ai ?_ ?_|exact rfl|exact trivial|exact Ei _ rfl|refine lN ?_|refine bS ?_|fail
   all_goals exact take_all s.stack GItem.enc 94
 rintro k hk
 refine Tp.run [28] ?_
 refine cS (fun h=>?_) (fun h=>?_)
 ·have hlt:=len_lt h
  obtain ⟨e1,_⟩:=hw2 s.waiting[k] (List.getElem_mem hlt)
  refine Ei k (Ei (s.waiting[k].enc) (Ai rfl (Ai (map_get _ _ k hlt) ?_)))
  refine cI (ability_ct s.waiting[k].ability e1) ⟨fL s.waiting[k].ability.enc,trivial⟩ (.inr rfl) ?_
  refine Tp.frz [9000,9001,9002,9003] (Tp.run [] ?_)
  refine Ai (.inl rfl) (Ai (take_bound s.waiting GWaiting.enc k hlt _ 768 (by decide) hw) (Ai (take_bound2 s.waiting GWaiting.enc k hlt _ 768 (by decide) hw) ?_))
  refine Ei (k+1) (Ai (show k+1≤_ by omega) (Ai (show s.waiting.length - (k+1) < s.waiting.length - k by omega) ?_))
  refine wk_of [(9000,9000),(9001,9001),(9002,9002),(9003,9003)] rfl rfl ?_ ?_ ?_
  ·repeat' first|refine Ai ?_ ?_|exact rfl|exact trivial|exact Ei _ rfl|refine lN ?_|refine bS ?_|fail
   exact succ_eq k hlt 768 (by decide) hw
  ·repeat' first|refine Ai ?_ ?_|exact rfl|exact trivial|exact Ei _ rfl|refine lN ?_|refine bS ?_|fail
  ·repeat' first|refine Ai ?_ ?_|exact rfl|exact trivial|exact Ei _ rfl|refine lN ?_|refine bS ?_|fail
   exact take_succ_map s.waiting GWaiting.enc k hlt
 have hk2:=len_ge h hk
 subst hk2
 clear h hk
 refine Tp.loop (fun k:Nat=>⟨[(1,.ptr 0 0),(2,.ptr 128 0),(3,.ptr 384 0),(10,AV.i k)],[(0,s.enc.map .t),(128,List.replicate 19 .bot),(384,(((((s.enc.map .t).set 0 (.row 9000 0)).set 1 (.row 9001 0)).set 2 (.row 9002 0)).set 6 (.row 9003 0)))],[(9000,⟨44,14,0,s.players.map GPlayer.enc,none⟩),(9001,⟨47,19,0,s.objects.map GObject.enc,none⟩),(9002,⟨3,1,0,s.battlefield.map eI,none⟩),(9003,⟨100,6,0,(s.conts.take k).map GCont.enc,none⟩)],40000⟩) (fun k=>k≤s.conts.length) (fun k=>s.conts.length - k) 0 ?_ (Nat.zero_le _) ?_
 ·refine wk_of [(9000,9000),(9001,9001),(9002,9002)] rfl rfl ?_ ?_ ?_
  ·repeat' first|refine Ai ?_ ?_|exact rfl|exact trivial|exact Ei _ rfl|refine lN ?_|refine bS ?_|fail
   all_goals exact take_all s.waiting GWaiting.enc 89
  ·repeat' first|refine Ai ?_ ?_|exact rfl|exact trivial|exact Ei _ rfl|refine lN ?_|refine bS ?_|fail
   all_goals exact take_all s.waiting GWaiting.enc 89
  ·repeat' first|refine Ai ?_ ?_|exact rfl|exact trivial|exact Ei _ rfl|refine lN ?_|refine bS ?_|fail
   all_goals exact take_all s.waiting GWaiting.enc 89
 rintro k hk
 refine Tp.run [36] ?_
 refine cS (fun h=>?_) (fun h=>?_)
 ·have hlt:=len_lt h
  obtain ⟨e1,e2,_⟩:=hc2 s.conts[k] (List.getElem_mem hlt)
  refine Ei k (Ei (s.conts[k].enc) (Ai rfl (Ai (map_get _ _ k hlt) ?_)))
  refine cI (ints_ct _ (map_bound _ _ _ e1)) ⟨rfl,trivial⟩ (.inr rfl) ?_
  refine Ai (.inl rfl) (Ai (all_bound _ 176 (map_bound _ _ _ e2)) (Ai (all_bound2 _ 176 (by decide) (map_bound _ _ _ e2)) ?_))
  refine Tp.frz [9000,9001,9002,9003] (Tp.run [] ?_)
  refine Ai (.inl rfl) (Ai (take_bound s.conts GCont.enc k hlt _ 80 (by decide) hc) (Ai (take_bound2 s.conts GCont.enc k hlt _ 80 (by decide) hc) ?_))
  refine Ei (k+1) (Ai (show k+1≤_ by omega) (Ai (show s.conts.length - (k+1) < s.conts.length - k by omega) ?_))
  refine wk_of [(9000,9000),(9001,9001),(9002,9002),(9003,9003)] rfl rfl ?_ ?_ ?_
  ·repeat' first|refine Ai ?_ ?_|exact rfl|exact trivial|exact Ei _ rfl|refine lN ?_|refine bS ?_|fail
   exact succ_eq k hlt 80 (by decide) hc
  ·repeat' first|refine Ai ?_ ?_|exact rfl|exact trivial|exact Ei _ rfl|refine lN ?_|refine bS ?_|fail
  ·repeat' first|refine Ai ?_ ?_|exact rfl|exact trivial|exact Ei _ rfl|refine lN ?_|refine bS ?_|fail
   exact take_succ_map s.conts GCont.enc k hlt
 have hk3:=len_ge h hk
 subst hk3
 clear h hk
 refine cI (ints_ct _ (map_bound _ _ _ hxt)) ⟨rfl,trivial⟩ (.inr rfl) ?_
 refine Ei [(0,9000),(1,9001),(2,9002)] (Ai rfl (Ai ?_ ?_))
 ·repeat' first|refine Ai ?_ ?_|exact rfl|exact trivial|exact Ei _ rfl|refine lN ?_|refine bS ?_|fail
 ·repeat' first|refine Ai ?_ ?_|exact rfl|exact trivial|exact Ei _ rfl|refine lN ?_|refine bS ?_|fail
  all_goals exact take_all s.conts GCont.enc 6
theorem place_ct (s:GState) (id:Int) (hs:s.objects.length*128≤limB):Ct Tryz.prog 49 [.agg (s.enc.map .t),.c (.t (iv id))] (AV.i (placeM s.objects id)) [] true:=by
 refine Ct.lit (b:=false) ?_ rfl
 refine ct_of Tryz.func49 rfl (enters_of Tryz.func49 (by kernel_rfl) rfl) tabOk (by kernel_rfl) rfl rfl rfl rfl fun w0 O _=>Tp.run [] ?_
 refine Tp.loop (fun k:Nat=>⟨[(1,.c (.t (iv id))),(2,.ptr 0 0),(5,AV.i k)],[(0,s.enc.map .t)],[],10000⟩) (fun k=>k≤s.objects.length∧∀ j (h:j < s.objects.length),j < k→(s.objects[j].id==id)=false) (fun k=>s.objects.length - k) 0 ?_ ⟨Nat.zero_le _,fun j _ h=>by omega⟩ ?_
 ·refine wk_of [] rfl rfl ?_ ?_ ?_
  ·repeat' first|refine Ai ?_ ?_|exact rfl|exact trivial|exact Ei _ rfl|refine lN ?_|refine bS ?_|fail
  ·exact ⟨cesM_refl _ rfl,trivial⟩
  ·repeat' first|refine Ai ?_ ?_|exact rfl|exact trivial|exact Ei _ rfl|refine lN ?_|refine bS ?_|fail
 rintro k ⟨hk,hno⟩
 refine Tp.run [] ?_
 refine cS (fun h=>?_) (fun h=>?_)
 ·have hlt:=len_lt h
  refine Ei k (Ei (s.objects[k].enc) (Ai rfl (Ai (map_get _ _ k hlt) ?_)))
  refine cS (fun h=>?_) (fun h=>?_)
  ·refine Ei [] (Ai rfl (Ai trivial ?_))
   unfold placeM
   rw [fidx_hit _ _ k hlt h hno]
   exact rfl
  ·refine Ei (k+1) (Ai ⟨by omega,fun j hj hjk=>?_⟩ (Ai (show s.objects.length - (k+1) < s.objects.length - k by omega) ?_))
   ·by_cases e:j=k
    ·subst e;exact h
    ·exact hno j hj (by omega)
   refine wk_of [] rfl rfl ?_ ?_ ?_
   ·repeat' first|refine Ai ?_ ?_|exact rfl|exact trivial|exact Ei _ rfl|refine lN ?_|refine bS ?_|fail
    exact succ_eq k hlt 128 (by decide) hs
   ·exact ⟨cesM_refl _ rfl,trivial⟩
   ·repeat' first|refine Ai ?_ ?_|exact rfl|exact trivial|exact Ei _ rfl|refine lN ?_|refine bS ?_|fail
 ·have hk2:=len_ge h hk
  refine Ei [] (Ai rfl (Ai trivial ?_))
  unfold placeM
  rw [fidx_miss _ _ (fun j hj=>hno j hj (by omega))]
  exact rfl
theorem find_ct (s:GState) (id:Int) (hs:s.objects.length*128≤limB):Ct Tryz.prog 17 [.agg (s.enc.map .t),.c (.t (iv id))] (.tup [.agg ((findM s.objects id).enc.map .t),AV.b (hasM s.objects id)]) [] true:=by
 refine Ct.litT (b:=false) ?_ rfl
 have hp:=place_ct s id hs
 unfold placeM at hp
 rcases fidx_cases (fun o:GObject=>o.id==id) s.objects with ⟨e1,_,e2⟩|⟨i,hi,e1,_,e2⟩
 ·rw [e1] at hp
  unfold findM hasM
  rw [e2]
  refine ct_of Tryz.func17 rfl (enters_of Tryz.func17 (by kernel_rfl) rfl) tabOk (by kernel_rfl) rfl rfl rfl rfl fun w0 O _=>Tp.run [] ?_
  refine cI hp ⟨fL s.enc,rfl,trivial⟩ (.inr rfl) ?_
  refine Ei [] (Ai rfl (Ai trivial ?_))
  repeat' first|refine Ai ?_ ?_|exact rfl|exact trivial|exact Ei _ rfl|refine lN ?_|refine bS ?_|fail
 ·revert hp
  generalize fidx (fun o:GObject=>o.id==id) s.objects=v at e1
  intro hp
  unfold findM hasM
  rw [e2]
  refine ct_of Tryz.func17 rfl (enters_of Tryz.func17 (by kernel_rfl) rfl) tabOk (by kernel_rfl) rfl rfl rfl rfl fun w0 O _=>Tp.run [] ?_
  refine cI hp ⟨fL s.enc,rfl,trivial⟩ (.inr rfl) ?_
  refine cS (fun h=>by have:=of_decide_eq_true h;omega) (fun _=>?_)
  subst e1
  refine Ei i (Ei (s.objects[i].enc) (Ai rfl (Ai (map_get _ _ i hi) ?_)))
  refine Ei [] (Ai rfl (Ai trivial ?_))
  repeat' first|refine Ai ?_ ?_|exact rfl|exact trivial|exact Ei _ rfl|refine lN ?_|refine bS ?_|fail
theorem without_ct (l:List Int) (n:Int) (hl:l.length*8≤limB):Ct Tryz.prog 149 [.c (.t (.sl 1 (l.map eI))),.c (.t (iv n))] (.c (.t (.sl 1 ((l.filter fun i=>i != n).map eI)))) [] false:=by
 refine ct_of Tryz.func149 rfl (enters_of Tryz.func149 (by kernel_rfl) rfl) tabOk (by kernel_rfl) rfl rfl rfl rfl fun w0 O _=>Tp.run [] ?_
 refine Tp.loop (fun k:Nat=>⟨[(0,.c (.t (.sl 1 (l.map eI)))),(1,.c (.t (iv n))),(5,.c (.row 9000 0)),(6,AV.i k)],[],[(9000,⟨3,1,0,((l.take k).filter fun i=>i != n).map eI,none⟩)],10000⟩) (fun k=>k≤l.length) (fun k=>l.length - k) 0 ?_ (Nat.zero_le _) ?_
 ·refine wk_of [] rfl rfl ?_ ?_ ?_
  all_goals repeat' first|refine Ai ?_ ?_|exact rfl|exact trivial|exact Ei _ rfl|refine lN ?_|refine bS ?_|fail
 rintro k hk
 have hfl:((l.take k).filter fun i=>i != n).length≤k:=Nat.le_trans (List.length_filter_le _ _) (by rw [List.length_take];omega)
 refine Tp.run [] ?_
 refine cS (fun h=>?_) (fun h=>?_)
 ·have hlt:=len_lt h
  have hts:l.take (k+1)=l.take k++[l[k]]:=by rw [List.take_add_one,List.getElem?_eq_getElem hlt];rfl
  refine Ei k (Ei (eI l[k]) (Ai rfl (Ai (map_get _ _ k hlt) ?_)))
  refine cS (fun h=>?_) (fun h=>?_)
  ·refine Ei k (Ei (eI l[k]) (Ai rfl (Ai (map_get _ _ k hlt) ?_)))
   have hb:(((l.take k).filter fun i=>i != n).map eI).length+[[iv l[k]]].length≤l.length+1:=by
    rw [Lm,List.length_cons,List.length_nil]
    omega
   refine Ai (.inl rfl) (Ai (app_bnd hb (Nat.le_of_lt (one_more (by decide) hl))) (Ai (app_bnd2 hb (by decide) (one_more (by decide) hl)) ?_))
   refine Ei (k+1) (Ai (show k+1≤_ by omega) (Ai (show l.length - (k+1) < l.length - k by omega) ?_))
   refine wk_of [(9000,9000)] rfl rfl ?_ ?_ ?_
   ·repeat' first|refine Ai ?_ ?_|exact rfl|exact trivial|exact Ei _ rfl|refine lN ?_|refine bS ?_|fail
    exact succ_eq k hlt 8 (by decide) hl
   ·repeat' first|refine Ai ?_ ?_|exact rfl|exact trivial|exact Ei _ rfl|refine lN ?_|refine bS ?_|fail
   ·repeat' first|refine Ai ?_ ?_|exact rfl|exact trivial|exact Ei _ rfl|refine lN ?_|refine bS ?_|fail
    rw [hts,List.filter_append,List.map_append]
    simp only [List.filter_cons,h,List.filter_nil]
    rfl
  ·refine Ei (k+1) (Ai (show k+1≤_ by omega) (Ai (show l.length - (k+1) < l.length - k by omega) ?_))
   refine wk_of [(9000,9000)] rfl rfl ?_ ?_ ?_
   ·repeat' first|refine Ai ?_ ?_|exact rfl|exact trivial|exact Ei _ rfl|refine lN ?_|refine bS ?_|fail
    exact succ_eq k hlt 8 (by decide) hl
   ·repeat' first|refine Ai ?_ ?_|exact rfl|exact trivial|exact Ei _ rfl|refine lN ?_|refine bS ?_|fail
   ·repeat' first|refine Ai ?_ ?_|exact rfl|exact trivial|exact Ei _ rfl|refine lN ?_|refine bS ?_|fail
    rw [hts,List.filter_append,List.map_append]
    simp only [List.filter_cons,h,List.filter_nil]
    simp
 ·have hk2:=len_ge h hk
  subst hk2
  refine Ei [] (Ai rfl (Ai trivial ?_))
  repeat' first|refine Ai ?_ ?_|exact rfl|exact trivial|exact Ei _ rfl|refine lN ?_|refine bS ?_|fail
  rw [List.take_length]
  exact rfl
theorem plr_ok {s:GState} (h:s.ok) {q:GPlayer} (hq:q∈s.players):q.hand.length*8≤limB∧q.library.length*8≤limB∧q.graveyard.length*8≤limB:=by
 obtain ⟨hp,hp2,_⟩:=h
 obtain ⟨e1,e2,e3⟩:=hp2 q hq
 exact ⟨e2,e1,e3⟩
theorem list_ct (s:GState) (z p:Int) (h:s.ok):Ct Tryz.prog 110 [.agg (s.enc.map .t),.c (.t (iv z)),.c (.t (iv p))] (.c (.t (.sl 1 ((listM s z p).map eI)))) [] false:=by
 have hbt:s.battlefield.length*8≤limB:=h.2.2.2.2.1
 have hex:s.exile.length*8≤limB:=h.2.2.2.2.2.1
 generalize hL:listM s z p=L
 refine ct_of Tryz.func110 rfl (enters_of Tryz.func110 (by kernel_rfl) rfl) tabOk (by kernel_rfl) rfl rfl rfl rfl fun w0 O _=>Tp.run [3,4,5,6,7,8,10,11,12,13,14,15] ?_
 refine cS (fun hz0=>?_) (fun hz0=>?_)
 ·have hl:listM s z p=s.battlefield:=by unfold listM;rw [if_pos hz0]
  refine Tp.run [] ?_
  refine cI (ints_ct _ (map_bound _ _ _ hbt)) ⟨rfl,trivial⟩ (.inr rfl) ?_
  rw [hL] at hl
  rw [hl]
  refine Ei [] (Ai rfl (Ai ?_ ?_))
  all_goals repeat' first|refine Ai ?_ ?_|exact rfl|exact trivial|exact Ei _ rfl|refine lN ?_|refine bS ?_|fail
 refine Tp.run [] ?_
 refine cS (fun hz4=>?_) (fun hz4=>?_)
 ·have hl:listM s z p=s.exile:=by unfold listM;rw [if_neg (by rw [hz0];decide),if_pos hz4]
  refine Tp.run [] ?_
  refine cI (ints_ct _ (map_bound _ _ _ hex)) ⟨rfl,trivial⟩ (.inr rfl) ?_
  rw [hL] at hl
  rw [hl]
  refine Ei [] (Ai rfl (Ai ?_ ?_))
  all_goals repeat' first|refine Ai ?_ ?_|exact rfl|exact trivial|exact Ei _ rfl|refine lN ?_|refine bS ?_|fail
 have hl0:listM s z p=if p < 0∨(s.players.length:Int)≤p then [] else match s.players[p.toNat]? with
  | some q=>if z==1 then q.hand else if z==2 then q.library else if z==3 then q.graveyard else []
  | none=>[]:=by unfold listM;rw [if_neg (by rw [hz0];decide),if_neg (by rw [hz4];decide)] <;> rfl
 refine Tp.run [] ?_
 refine cS (fun hp0=>?_) (fun hp0=>?_)
 ·rw [if_pos (.inl (of_decide_eq_true hp0))] at hl0
  refine Tp.run [] ?_
  rw [hL] at hl0
  rw [hl0]
  refine Ei [] (Ai rfl (Ai ?_ ?_))
  all_goals repeat' first|refine Ai ?_ ?_|exact rfl|exact trivial|exact Ei _ rfl|refine lN ?_|refine bS ?_|fail
 refine cS (fun hp1=>?_) (fun hp1=>?_)
 ·have hp1:=of_decide_eq_true hp1
  rw [Lm] at hp1
  rw [if_pos (.inr hp1)] at hl0
  refine Tp.run [] ?_
  rw [hL] at hl0
  rw [hl0]
  refine Ei [] (Ai rfl (Ai ?_ ?_))
  all_goals repeat' first|refine Ai ?_ ?_|exact rfl|exact trivial|exact Ei _ rfl|refine lN ?_|refine bS ?_|fail
 have hp0:=of_decide_eq_false hp0
 have hp1:=of_decide_eq_false hp1
 rw [Lm] at hp1
 obtain ⟨k,rfl⟩:∃ k:Nat,p=k:=⟨p.toNat,by omega⟩
 have hk:k < s.players.length:=by omega
 rw [if_neg (by omega),Int.toNat_natCast,List.getElem?_eq_getElem hk] at hl0
 obtain ⟨e1,e2,e3⟩:=plr_ok h (List.getElem_mem hk)
 refine Tp.run [] ?_
 refine cS (fun hz1=>?_) (fun hz1=>?_)
 ·have hl:listM s z k=s.players[k].hand:=by rw [hl0];exact (if_pos hz1)
  refine Tp.run [] ?_
  refine Ei k (Ei (s.players[k].enc) (Ai rfl (Ai (map_get _ _ k hk) ?_)))
  refine cI (ints_ct _ (map_bound _ _ _ e1)) ⟨rfl,trivial⟩ (.inr rfl) ?_
  rw [hL] at hl
  rw [hl]
  refine Ei [] (Ai rfl (Ai ?_ ?_))
  all_goals repeat' first|refine Ai ?_ ?_|exact rfl|exact trivial|exact Ei _ rfl|refine lN ?_|refine bS ?_|fail
 refine Tp.run [] ?_
 refine cS (fun hz2=>?_) (fun hz2=>?_)
 ·have hl:listM s z k=s.players[k].library:=by rw [hl0];exact (if_neg (by rw [hz1];decide)).trans ((if_pos hz2))
  refine Tp.run [] ?_
  refine Ei k (Ei (s.players[k].enc) (Ai rfl (Ai (map_get _ _ k hk) ?_)))
  refine cI (ints_ct _ (map_bound _ _ _ e2)) ⟨rfl,trivial⟩ (.inr rfl) ?_
  rw [hL] at hl
  rw [hl]
  refine Ei [] (Ai rfl (Ai ?_ ?_))
  all_goals repeat' first|refine Ai ?_ ?_|exact rfl|exact trivial|exact Ei _ rfl|refine lN ?_|refine bS ?_|fail
 refine Tp.run [] ?_
 refine cS (fun hz3=>?_) (fun hz3=>?_)
 ·have hl:listM s z k=s.players[k].graveyard:=by rw [hl0];exact (if_neg (by rw [hz1];decide)).trans ((if_neg (by rw [hz2];decide)).trans ((if_pos hz3)))
  refine Tp.run [] ?_
  refine Ei k (Ei (s.players[k].enc) (Ai rfl (Ai (map_get _ _ k hk) ?_)))
  refine cI (ints_ct _ (map_bound _ _ _ e3)) ⟨rfl,trivial⟩ (.inr rfl) ?_
  rw [hL] at hl
  rw [hl]
  refine Ei [] (Ai rfl (Ai ?_ ?_))
  all_goals repeat' first|refine Ai ?_ ?_|exact rfl|exact trivial|exact Ei _ rfl|refine lN ?_|refine bS ?_|fail
 have hl:listM s z k=[]:=by rw [hl0];exact (if_neg (by rw [hz1];decide)).trans ((if_neg (by rw [hz2];decide)).trans (if_neg (by rw [hz3];decide)))
 refine Tp.run [] ?_
 rw [hL] at hl
 rw [hl]
 refine Ei [] (Ai rfl (Ai ?_ ?_))
 all_goals repeat' first|refine Ai ?_ ?_|exact rfl|exact trivial|exact Ei _ rfl|refine lN ?_|refine bS ?_|fail
theorem list_row (s:GState) (z p:Int) (h:s.ok):Ct Tryz.prog 110 [.agg (s.enc.map .t),.c (.t (iv z)),.c (.t (iv p))] (.c (.row 0 0)) [⟨3,1,0,(listM s z p).map eI,none⟩] false:=by
 have hbt:s.battlefield.length*8≤limB:=h.2.2.2.2.1
 have hex:s.exile.length*8≤limB:=h.2.2.2.2.2.1
 generalize hL:listM s z p=L
 refine ct_of Tryz.func110 rfl (enters_of Tryz.func110 (by kernel_rfl) rfl) tabOk (by kernel_rfl) rfl rfl rfl rfl fun w0 O _=>Tp.run [3,4,5,6,7,8,10,11,12,13,14,15] ?_
 refine cS (fun hz0=>?_) (fun hz0=>?_)
 ·have hl:listM s z p=s.battlefield:=by unfold listM;rw [if_pos hz0]
  refine Tp.run [] ?_
  refine cI (ints_row _ (map_bound _ _ _ hbt)) ⟨rfl,trivial⟩ (.inr rfl) ?_
  rw [hL] at hl
  rw [hl]
  refine Ei [(0,896)] (Ai rfl (Ai ?_ ?_))
  all_goals repeat' first|refine Ai ?_ ?_|exact rfl|exact trivial|exact Ei _ rfl|refine lN ?_|refine bS ?_|fail
 refine Tp.run [] ?_
 refine cS (fun hz4=>?_) (fun hz4=>?_)
 ·have hl:listM s z p=s.exile:=by unfold listM;rw [if_neg (by rw [hz0];decide),if_pos hz4]
  refine Tp.run [] ?_
  refine cI (ints_row _ (map_bound _ _ _ hex)) ⟨rfl,trivial⟩ (.inr rfl) ?_
  rw [hL] at hl
  rw [hl]
  refine Ei [(0,1152)] (Ai rfl (Ai ?_ ?_))
  all_goals repeat' first|refine Ai ?_ ?_|exact rfl|exact trivial|exact Ei _ rfl|refine lN ?_|refine bS ?_|fail
 have hl0:listM s z p=if p < 0∨(s.players.length:Int)≤p then [] else match s.players[p.toNat]? with
  | some q=>if z==1 then q.hand else if z==2 then q.library else if z==3 then q.graveyard else []
  | none=>[]:=by unfold listM;rw [if_neg (by rw [hz0];decide),if_neg (by rw [hz4];decide)] <;> rfl
 refine Tp.run [] ?_
 refine cS (fun hp0=>?_) (fun hp0=>?_)
 ·rw [if_pos (.inl (of_decide_eq_true hp0))] at hl0
  refine Tp.run [] ?_
  rw [hL] at hl0
  rw [hl0]
  refine Ei [] (Ai rfl (Ai ?_ ?_))
  all_goals repeat' first|refine Ai ?_ ?_|exact rfl|exact trivial|exact Ei _ rfl|refine lN ?_|refine bS ?_|fail
 refine cS (fun hp1=>?_) (fun hp1=>?_)
 ·have hp1:=of_decide_eq_true hp1
  rw [Lm] at hp1
  rw [if_pos (.inr hp1)] at hl0
  refine Tp.run [] ?_
  rw [hL] at hl0
  rw [hl0]
  refine Ei [] (Ai rfl (Ai ?_ ?_))
  all_goals repeat' first|refine Ai ?_ ?_|exact rfl|exact trivial|exact Ei _ rfl|refine lN ?_|refine bS ?_|fail
 have hp0:=of_decide_eq_false hp0
 have hp1:=of_decide_eq_false hp1
 rw [Lm] at hp1
 obtain ⟨k,rfl⟩:∃ k:Nat,p=k:=⟨p.toNat,by omega⟩
 have hk:k < s.players.length:=by omega
 rw [if_neg (by omega),Int.toNat_natCast,List.getElem?_eq_getElem hk] at hl0
 obtain ⟨e1,e2,e3⟩:=plr_ok h (List.getElem_mem hk)
 refine Tp.run [] ?_
 refine cS (fun hz1=>?_) (fun hz1=>?_)
 ·have hl:listM s z k=s.players[k].hand:=by rw [hl0];exact (if_pos hz1)
  refine Tp.run [] ?_
  refine Ei k (Ei (s.players[k].enc) (Ai rfl (Ai (map_get _ _ k hk) ?_)))
  refine cI (ints_row _ (map_bound _ _ _ e1)) ⟨rfl,trivial⟩ (.inr rfl) ?_
  rw [hL] at hl
  rw [hl]
  refine Ei [(0,3200)] (Ai rfl (Ai ?_ ?_))
  all_goals repeat' first|refine Ai ?_ ?_|exact rfl|exact trivial|exact Ei _ rfl|refine lN ?_|refine bS ?_|fail
 refine Tp.run [] ?_
 refine cS (fun hz2=>?_) (fun hz2=>?_)
 ·have hl:listM s z k=s.players[k].library:=by rw [hl0];exact (if_neg (by rw [hz1];decide)).trans ((if_pos hz2))
  refine Tp.run [] ?_
  refine Ei k (Ei (s.players[k].enc) (Ai rfl (Ai (map_get _ _ k hk) ?_)))
  refine cI (ints_row _ (map_bound _ _ _ e2)) ⟨rfl,trivial⟩ (.inr rfl) ?_
  rw [hL] at hl
  rw [hl]
  refine Ei [(0,3456)] (Ai rfl (Ai ?_ ?_))
  all_goals repeat' first|refine Ai ?_ ?_|exact rfl|exact trivial|exact Ei _ rfl|refine lN ?_|refine bS ?_|fail
 refine Tp.run [] ?_
 refine cS (fun hz3=>?_) (fun hz3=>?_)
 ·have hl:listM s z k=s.players[k].graveyard:=by rw [hl0];exact (if_neg (by rw [hz1];decide)).trans ((if_neg (by rw [hz2];decide)).trans ((if_pos hz3)))
  refine Tp.run [] ?_
  refine Ei k (Ei (s.players[k].enc) (Ai rfl (Ai (map_get _ _ k hk) ?_)))
  refine cI (ints_row _ (map_bound _ _ _ e3)) ⟨rfl,trivial⟩ (.inr rfl) ?_
  rw [hL] at hl
  rw [hl]
  refine Ei [(0,3712)] (Ai rfl (Ai ?_ ?_))
  all_goals repeat' first|refine Ai ?_ ?_|exact rfl|exact trivial|exact Ei _ rfl|refine lN ?_|refine bS ?_|fail
 have hl:listM s z k=[]:=by rw [hl0];exact (if_neg (by rw [hz1];decide)).trans ((if_neg (by rw [hz2];decide)).trans (if_neg (by rw [hz3];decide)))
 refine Tp.run [] ?_
 rw [hL] at hl
 rw [hl]
 refine Ei [] (Ai rfl (Ai ?_ ?_))
 all_goals repeat' first|refine Ai ?_ ?_|exact rfl|exact trivial|exact Ei _ rfl|refine lN ?_|refine bS ?_|fail
theorem set_map {α:Type} (l:List α) (f:α→List Tr) (i:Nat) (x:α):(l.map f).set i (f x)=(l.set i x).map f:=by
 induction l generalizing i with
 | nil=>rfl
 | cons y l ih=>cases i with
  | zero=>rfl
  | succ i=>exact congrArg (_ :: ·) (ih i)
theorem put_hit (l:List GObject) (o:GObject) (i:Nat) (h:l.findIdx? (fun x=>x.id==o.id)=some i):putL l o=l.set i o:=by
 unfold putL
 rw [h]
theorem put_miss (l:List GObject) (o:GObject) (k:Nat) (h:l.findIdx? (fun x=>x.id==o.id)=none) (hk:k≤l.length) (h1:∀ j (h:j < l.length),j < k→decide (l[j].id < o.id)=true) (h2:k=l.length∨∃ h:k < l.length,decide (l[k].id < o.id)=false):putL l o=l.take k++[o]++l.drop k:=by
 unfold putL
 rw [h]
 show insM l o=_
 unfold insM
 rw [takeWhile_len _ l k hk h1 h2]
theorem put_ct (s:GState) (o:GObject) (h:s.ok):Ct Tryz.prog 18 [.agg (s.enc.map .t),.agg (o.enc.map .t)] (.agg (((putM s o).enc.map .t).set 2 (.row 0 0))) [⟨3,1,0,s.battlefield.map eI,none⟩] false:=by
 have ho:s.objects.length*128≤limB:=h.2.2.1
 have hp:=place_ct s o.id ho
 unfold placeM at hp
 unfold putM
 generalize hL:putL s.objects o=L
 rcases fidx_cases (fun x:GObject=>x.id==o.id) s.objects with ⟨e1,e2,_⟩|⟨i,hi,e1,e2,_⟩
 ·revert hp
  generalize fidx (fun x:GObject=>x.id==o.id) s.objects=v at e1
  intro hp
  refine ct_of Tryz.func18 rfl (enters_of Tryz.func18 (by kernel_rfl) rfl) tabOk (by kernel_rfl) rfl rfl rfl rfl fun w0 O _=>Tp.run [4,6,9,10,11,12] ?_
  refine cI (copy_ct s h) ⟨fL s.enc,trivial⟩ (.inr rfl) ?_
  refine cI hp ⟨?_,rfl,trivial⟩ (.inl rfl) ?_
  ·repeat' first|refine Ai ?_ ?_|exact rfl|exact trivial|exact Ei _ rfl|refine lN ?_|refine bS ?_|fail
  refine cS (fun h=>by have:=of_decide_eq_true h;omega) (fun _=>?_)
  refine Tp.run [] ?_
  refine Tp.loop (fun k:Nat=>⟨[(3,.ptr 128 0),(4,.ptr 256 0),(5,.ptr 640 0),(7,AV.i k)],[(128,o.enc.map .t),(256,List.replicate 19 .bot),(640,(s.enc.map .t).set 2 (.row 9000 0))],[(9000,⟨3,1,0,s.battlefield.map eI,none⟩)],10000⟩) (fun k=>k≤s.objects.length∧∀ j (h:j < s.objects.length),j < k→decide (s.objects[j].id < o.id)=true) (fun k=>s.objects.length - k) 0 ?_ ⟨Nat.zero_le _,fun j _ h=>by omega⟩ ?_
  ·refine wk_of [(9000,514)] rfl rfl ?_ ?_ ?_
   all_goals repeat' first|refine Ai ?_ ?_|exact rfl|exact trivial|exact Ei _ rfl|refine lN ?_|refine bS ?_|fail
  rintro k ⟨hk,hno⟩
  have after:(k=s.objects.length∨∃ h:k < s.objects.length,decide (s.objects[k].id < o.id)=false)→L=s.objects.take k++[o]++s.objects.drop k:=fun hx=>by rw [← hL];exact put_miss _ o k e2 hk hno hx
  have hb:∀ n,n≤s.objects.length+1→n*128≤140737488355328∧n < 140737488355328:=fun n hn=>by unfold limB at ho;omega
  refine Tp.run [8] ?_
  refine cS (fun h=>?_) (fun h=>?_)
  ·have hlt:=len_lt h
   refine Ei k (Ei (s.objects[k].enc) (Ai rfl (Ai (map_get _ _ k hlt) ?_)))
   refine cS (fun h=>?_) (fun h=>?_)
   ·refine Tp.run [] ?_
    refine Ei (k+1) (Ai ⟨by omega,fun j hj hjk=>?_⟩ (Ai (show s.objects.length - (k+1) < s.objects.length - k by omega) ?_))
    ·by_cases e:j=k
     ·subst e;exact h
     ·exact hno j hj (by omega)
    refine wk_of [(9000,9000)] rfl rfl ?_ ?_ ?_
    ·repeat' first|refine Ai ?_ ?_|exact rfl|exact trivial|exact Ei _ rfl|refine lN ?_|refine bS ?_|fail
     exact succ_eq k hlt 128 (by decide) ho
    all_goals repeat' first|refine Ai ?_ ?_|exact rfl|exact trivial|exact Ei _ rfl|refine lN ?_|refine bS ?_|fail
   ·have hl:=after (.inr ⟨hlt,h⟩)
    refine Tp.run [10,11,12] ?_
    refine Ei 0 (Ei k (Ai rfl (Ai rfl (Ai (Nat.zero_le _) (Ai ?_ ?_)))))
    ·rw [Lm];exact hk
    refine Ai (.inl rfl) (Ai (hb _ (by simp only [Lm,List.length_take,List.length_drop,List.length_nil];omega)).1 (Ai (hb _ (by simp only [Lm,List.length_take,List.length_drop,List.length_nil];omega)).2 ?_))
    refine Tp.run [] ?_
    refine Ai (.inl rfl) (Ai (hb _ (by simp only [Lm,List.length_take,List.length_drop,List.length_append,List.length_nil,List.length_cons];omega)).1 (Ai (hb _ (by simp only [Lm,List.length_take,List.length_drop,List.length_append,List.length_nil,List.length_cons];omega)).2 ?_))
    refine Tp.run [] ?_
    refine Ei k (Ei s.objects.length (Ai rfl (Ai ?_ (Ai hk (Ai ?_ ?_)))))
    ·exact (Lm _).symm
    ·rw [Lm];exact Nat.le_refl _
    refine Ai (.inl rfl) (Ai (hb _ (by simp only [Lm,List.length_take,List.length_drop,List.length_append,List.length_nil,List.length_cons];omega)).1 (Ai (hb _ (by simp only [Lm,List.length_take,List.length_drop,List.length_append,List.length_nil,List.length_cons];omega)).2 ?_))
    refine Tp.run [] ?_
    refine Ei [(0,9000)] (Ai rfl (Ai ?_ ?_))
    ·repeat' first|refine Ai ?_ ?_|exact rfl|exact trivial|exact Ei _ rfl|refine lN ?_|refine bS ?_|fail
    ·repeat' first|refine Ai ?_ ?_|exact rfl|exact trivial|exact Ei _ rfl|refine lN ?_|refine bS ?_|fail
     rw [hl,List.map_append,List.map_append,List.map_take,List.map_drop,List.drop_zero,List.take_of_length_le (l:=(s.objects.map GObject.enc)) (i:=s.objects.length) (by rw [Lm];exact Nat.le_refl _)]
     rfl
  ·have hk2:=len_ge h hk
   have hl:=after (.inl hk2)
   refine Tp.run [10,11,12] ?_
   refine Ei 0 (Ei k (Ai rfl (Ai rfl (Ai (Nat.zero_le _) (Ai ?_ ?_)))))
   ·rw [Lm];exact hk
   refine Ai (.inl rfl) (Ai (hb _ (by simp only [Lm,List.length_take,List.length_drop,List.length_nil];omega)).1 (Ai (hb _ (by simp only [Lm,List.length_take,List.length_drop,List.length_nil];omega)).2 ?_))
   refine Tp.run [] ?_
   refine Ai (.inl rfl) (Ai (hb _ (by simp only [Lm,List.length_take,List.length_drop,List.length_append,List.length_nil,List.length_cons];omega)).1 (Ai (hb _ (by simp only [Lm,List.length_take,List.length_drop,List.length_append,List.length_nil,List.length_cons];omega)).2 ?_))
   refine Tp.run [] ?_
   refine Ei k (Ei s.objects.length (Ai rfl (Ai ?_ (Ai hk (Ai ?_ ?_)))))
   ·exact (Lm _).symm
   ·rw [Lm];exact Nat.le_refl _
   refine Ai (.inl rfl) (Ai (hb _ (by simp only [Lm,List.length_take,List.length_drop,List.length_append,List.length_nil,List.length_cons];omega)).1 (Ai (hb _ (by simp only [Lm,List.length_take,List.length_drop,List.length_append,List.length_nil,List.length_cons];omega)).2 ?_))
   refine Tp.run [] ?_
   refine Ei [(0,9000)] (Ai rfl (Ai ?_ ?_))
   ·repeat' first|refine Ai ?_ ?_|exact rfl|exact trivial|exact Ei _ rfl|refine lN ?_|refine bS ?_|fail
   ·repeat' first|refine Ai ?_ ?_|exact rfl|exact trivial|exact Ei _ rfl|refine lN ?_|refine bS ?_|fail
    rw [hl,List.map_append,List.map_append,List.map_take,List.map_drop,List.drop_zero,List.take_of_length_le (l:=(s.objects.map GObject.enc)) (i:=s.objects.length) (by rw [Lm];exact Nat.le_refl _)]
    rfl
 ·revert hp
  generalize fidx (fun x:GObject=>x.id==o.id) s.objects=v at e1
  intro hp
  rw [put_hit _ _ _ e2] at hL
  refine ct_of Tryz.func18 rfl (enters_of Tryz.func18 (by kernel_rfl) rfl) tabOk (by kernel_rfl) rfl rfl rfl rfl fun w0 O _=>Tp.run [4,6,9,10,11,12] ?_
  refine cI (copy_ct s h) ⟨fL s.enc,trivial⟩ (.inr rfl) ?_
  refine cI hp ⟨?_,rfl,trivial⟩ (.inl rfl) ?_
  ·repeat' first|refine Ai ?_ ?_|exact rfl|exact trivial|exact Ei _ rfl|refine lN ?_|refine bS ?_|fail
  refine cS (fun _=>?_) (fun h=>by have:=of_decide_eq_false h;omega)
  subst e1
  refine Tp.run [] ?_
  refine Ei i (Ai rfl (Ai (by rw [Lm];exact hi) ?_))
  refine Ei (s.objects[i].enc) (Ai (map_get _ _ i hi) (Ai (Nat.le_refl _) ?_))
  refine Ei [(0,514)] (Ai rfl (Ai ?_ ?_))
  ·repeat' first|refine Ai ?_ ?_|exact rfl|exact trivial|exact Ei _ rfl|refine lN ?_|refine bS ?_|fail
  ·repeat' first|refine Ai ?_ ?_|exact rfl|exact trivial|exact Ei _ rfl|refine lN ?_|refine bS ?_|fail
   rw [← hL]
   exact congrArg (Tr.sl 19) (set_map s.objects GObject.enc i o).symm
end Go.Proofs.YtpibcdnagnjokaaGreat
end
