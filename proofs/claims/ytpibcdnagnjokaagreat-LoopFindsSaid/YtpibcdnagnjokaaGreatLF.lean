/- Parts of the proof, joined: Find of program and reference: the first repetition; Find of the reference: the first repetition; Chapter 25, on trees: Move of the reference; (For chapter 50.) Chapter 25, on trees: Make of the reference; Move whole; Evaluation on trees: an empty list reads as an empty list of any width. No program in sight; Chapter 26: the first state of a game of two; Chapter 50: the fixed examples of the laws; Chapter 50: the laws Normalizes, Same and Finds; Arguments of statements, read by the shapes of their types; a law out of its contract; Chapter 50: the laws at any arguments; Closed facts of the program that every row of the seat asks for; Chapter 50: the law Tells. -/
import Derived.Test.YtpibcdnagnjokaaGreatLE
import Derived.Test.YtpibcdnagnjokaaGreatRows
import Derived.ProofKit
import Derived.OpenShut
import Derived.ChangeOld
import Derived.ShutString
import Derived.ChangeSlices
import Derived.SizedLaws
import Derived.JoinedOf
import Derived.KernelRfl
set_option maxRecDepth 100000
set_option maxHeartbeats 4000000
section
namespace Go.Proofs.YtpibcdnagnjokaaGreat
open Go Cg Go.RowKit Go.Sort
section
theorem fits_caps {st:St}:∀ caps:List (List Tr × Nat),Fits st (caps.map fun c=>.iptr c.1 c.2) (caps.map fun c=>.iptr c.1 c.2)
 | []=>trivial
 | _ :: r=>⟨⟨rfl,rfl⟩,fits_caps r⟩
theorem fidx_none {α:Type} {p:α→Bool} {l:List α} (h:fidx p l = -1):∀ j (hj:j < l.length),p l[j]=false:=fun j hj=>by
 rcases fidx_cases p l with ⟨_,e,_⟩|⟨i,hi,e,_,_⟩
 ·have:=List.findIdx?_eq_none_iff.1 e l[j] (List.getElem_mem hj)
  simpa using this
 ·omega
theorem fidx_some {α:Type} {p:α→Bool} {l:List α} {i:Nat} (h:fidx p l=i):∃ hi:i < l.length,p l[i]=true∧∀ j (hj:j < i),p (l[j]'(by omega))=false:=by
 rcases fidx_cases p l with ⟨e,_,_⟩|⟨i',hi,e,e2,_⟩
 ·omega
 ·have:i'=i:=by omega
  subst this
  obtain ⟨h1,h2,h3⟩:=List.findIdx?_eq_some_iff_getElem.1 e2
  exact ⟨h1,h2,fun j hj=>by simpa using h3 j hj⟩
def FndR (N:List GState) (r:Nat × Nat × Bool):Prop:=(∃ i j,i < j∧(∃ (hi:i < N.length) (hj:j < N.length),N[i]=N[j]∧∀ a (ha:a < i),N[a]≠N[j])∧(∀ b (hb:b < N.length) a (ha:a < b),b < j→N[a]≠N[b])∧r=(i,j,true))∨((∀ b (hb:b < N.length) a (ha:a < b),N[a]≠N[b])∧r=(0,0,false))
theorem fndR_uniq {N:List GState} {r r':Nat × Nat × Bool} (h:FndR N r) (h':FndR N r'):r=r':=by
 rcases h with ⟨i,j,hij,⟨hi,hj,e,hm⟩,hn,rfl⟩|⟨hn,rfl⟩
 ·rcases h' with ⟨i',j',hij',⟨hi',hj',e',hm'⟩,hn',rfl⟩|⟨hn',rfl⟩
  ·have hjj:j=j':=by
    rcases Nat.lt_trichotomy j j' with h|h|h
    ·exact absurd e (hn' j hj i hij h)
    ·exact h
    ·exact absurd e' (hn j' hj' i' hij' h)
   subst hjj
   have hii:i=i':=by
    rcases Nat.lt_trichotomy i i' with h|h|h
    ·exact absurd e (hm' i h)
    ·exact h
    ·exact absurd e' (hm i' h)
   subst hii
   rfl
  ·exact absurd e (hn' j hj i hij)
 ·rcases h' with ⟨i',j',hij',⟨hi',hj',e',hm'⟩,hn',rfl⟩|⟨hn',rfl⟩
  ·exact absurd e' (hn j' hj' i' hij')
  ·rfl
open Classical in
noncomputable def fndF (N:List GState):Nat × Nat × Bool:=if h:∃ r,FndR N r then Classical.choose h else (0,0,false)
theorem fndF_eq {N:List GState} {r:Nat × Nat × Bool} (h:FndR N r):fndF N=r:=by
 have hx:∃ r,FndR N r:=⟨r,h⟩
 unfold fndF
 rw [dif_pos hx]
 exact fndR_uniq (Classical.choose_spec hx) h
theorem fndC_ct (s n:GState) (hs:s.ok) (hn:n.ok):Ct Tryz.prog 46 [.agg (s.enc.map .t),.iptr n.enc 0] (AV.b (eqD s n)) [] true:=by
 refine Ct.lit (b:=false) ?_ rfl
 refine ct_of Tryz.func46 rfl (enters_of Tryz.func46 (by kernel_rfl) rfl) tabOk (by kernel_rfl) rfl rfl rfl rfl fun w0 O _=>Tp.run [] ?_
 refine cI (sameP_ct s n hs hn) ⟨fL s.enc,fL n.enc,trivial⟩ (.inl rfl) ?_
 refine Ei [] (Ai rfl (Ai ?_ ?_))
 all_goals repeat' first|refine Ai ?_ ?_|exact rfl|exact trivial|exact Ei _ rfl|refine lN ?_|refine bS ?_|fail
theorem indexS_ct (l:List GState) (q:GState→Bool) (f:Nat) (caps:List (List Tr × Nat)) (hq:∀ o∈l,Ct Tryz.prog f ((.agg (o.enc.map .t)) :: caps.map fun c=>.iptr c.1 c.2) (AV.b (q o)) [] true) (hl:l.length*280≤limB):Ct Tryz.prog 45 [.c (.t (.sl 19 (l.map GState.enc))),.fnI f caps] (AV.i (fidx q l)) [] true:=by
 refine Ct.lit (b:=false) ?_ rfl
 refine ct_of Tryz.func45 rfl (enters_of Tryz.func45 (by kernel_rfl) rfl) tabOk (by kernel_rfl) rfl rfl rfl rfl fun w0 O _=>Tp.run [] ?_
 refine Tp.loop (fun k:Nat=>⟨[(0,.c (.t (.sl 19 (l.map GState.enc)))),(1,.fnI f caps),(7,AV.i (l.map GState.enc).length),(8,AV.i k)],[],[],10000⟩) (fun k=>k≤l.length∧∀ j (h:j < l.length),j < k→q l[j]=false) (fun k=>l.length - k) 0 ?_ ⟨Nat.zero_le _,fun j _ hj=>absurd hj (Nat.not_lt_zero j)⟩ ?_
 ·refine wk_of [] rfl rfl ?_ ?_ ?_
  all_goals repeat' first|refine Ai ?_ ?_|exact rfl|exact trivial|exact Ei _ rfl|refine lN ?_|refine bS ?_|fail
 rintro k ⟨hk,hno⟩
 refine Tp.run [5,6] ?_
 refine cS (fun h=>?_) (fun h=>?_)
 ·have hlt:=len_lt h
  refine Ei k (Ei (l[k].enc) (Ai rfl (Ai (map_get _ _ k hlt) ?_)))
  refine cI (hq l[k] (List.getElem_mem hlt)) ⟨fL l[k].enc,fits_caps caps⟩ (.inl rfl) ?_
  refine cS (fun h=>?_) (fun h=>?_)
  ·refine Tp.run [] ?_
   refine Ei [] (Ai rfl (Ai trivial ?_))
   rw [fidx_hit _ _ k hlt h hno]
   exact rfl
  ·refine Tp.run [] ?_
   refine Ei (k+1) (Ai ⟨by omega,fun j hj hjk=>?_⟩ (Ai (show l.length - (k+1) < l.length - k by omega) ?_))
   ·by_cases e:j=k
    ·subst e;exact h
    ·exact hno j hj (by omega)
   refine wk_of [] rfl rfl ?_ ?_ ?_
   ·repeat' first|refine Ai ?_ ?_|exact rfl|exact trivial|exact Ei _ rfl|refine lN ?_|refine bS ?_|fail
    exact succ_eq k hlt 280 (by decide) hl
   all_goals repeat' first|refine Ai ?_ ?_|exact rfl|exact trivial|exact Ei _ rfl|refine lN ?_|refine bS ?_|fail
 ·have hk2:=len_ge h hk
  refine Ei [] (Ai rfl (Ai trivial ?_))
  rw [fidx_miss _ _ (fun j hj=>hno j hj (by omega))]
  exact rfl
def fndT (r:Nat × Nat × Bool):AV:=.tup [AV.i r.1,AV.i r.2.1,AV.b r.2.2]
theorem takeMap {l X:List GState} {k:Nat} (he:X=(l.take k).map normM):∀ j (hj:j < X.length),∃ (h1:j < (l.map normM).length),X[j]=(l.map normM)[j]∧j < k:=by
 subst he
 intro j hj
 simp only [Lm,List.length_take] at hj
 refine ⟨by rw [Lm];omega,?_,by omega⟩
 simp
theorem apS {X:List GState} (h:X.length≤1000):((X.map GState.enc).length+1)*280≤140737488355328:=by rw [Lm];omega
theorem apS' {X:List GState} (h:X.length≤1000):(X.map GState.enc).length+1 < 140737488355328:=by rw [Lm];omega
theorem apSe (X:List GState) (o:GState):X.map GState.enc++[o.enc]=(X++[o]).map GState.enc:=by rw [List.map_append];rfl
theorem findL_ct (l:List GState) (hl:l.length≤1000) (h:∀ s∈l,NOk s):Ct Tryz.prog 14 [.c (.t (.sl 19 (l.map GState.enc)))] (fndT (fndF (l.map normM))) [] true:=by
 refine Ct.litT (b:=false) ?_ rfl
 have hl2:l.length*280≤limB:=by unfold limB;omega
 generalize hM:fndF (l.map normM)=M
 refine ct_of Tryz.func14 rfl (enters_of Tryz.func14 (by kernel_rfl) rfl) tabOk (by kernel_rfl) rfl rfl rfl rfl fun w0 O _=>Tp.run [11] ?_
 refine Tp.loop (fun x:Nat × List GState=>⟨[(5,.c (.row 9000 0)),(10,.c (.t (.sl 19 (l.map GState.enc)))),(11,AV.i (l.map GState.enc).length),(12,AV.i x.1)],[],[(9000,⟨31,19,0,x.2.map GState.enc,none⟩)],10000⟩) (fun x=>x.1≤l.length∧x.2=(l.take x.1).map normM∧∀ b (hb:b < (l.map normM).length) a (ha:a < b),b < x.1→(l.map normM)[a]≠(l.map normM)[b]) (fun x=>l.length - x.1) (0,[]) ?_ ⟨Nat.zero_le _,rfl,fun b _ a _ hb=>absurd hb (Nat.not_lt_zero b)⟩ ?_
 ·refine wk_of [] rfl rfl ?_ ?_ ?_
  all_goals repeat' first|refine Ai ?_ ?_|exact rfl|exact trivial|exact Ei _ rfl|refine lN ?_|refine bS ?_|fail
 rintro ⟨k,X⟩ ⟨hk,hXe,hno⟩
 simp only at hk hXe hno
 refine Tp.run [8,9,11] ?_
 refine cS (fun hc=>?_) (fun hc=>?_)
 ·have hlt:k < l.length:=len_lt hc
  have hks:NOk l[k]:=h _ (List.getElem_mem hlt)
  have hsm:∀ o∈(l.take k).map normM,o.ok:=fun o ho=>by
   obtain ⟨x,hx,rfl⟩:=List.mem_map.1 ho
   exact normM_ok (h x (List.mem_of_mem_take hx)).ok
  have hX:((l.take k).map normM).length≤1000:=by rw [Lm,List.length_take];omega
  have hidx:=indexS_ct ((l.take k).map normM) (fun o=>eqD o (normM l[k])) 46 [((normM l[k]).enc,0)] (fun o ho=>fndC_ct o (normM l[k]) (hsm o ho) (normM_ok hks.ok)) (by unfold limB;omega)
  have hnl:=normL_ct l[k] hks
  have hcs:=fidx_cases (fun o=>eqD o (normM l[k])) ((l.take k).map normM)
  have hkl:k < (l.map normM).length:=by rw [Lm];exact hlt
  have hkN:(l.map normM)[k]=normM l[k]:=by simp
  have hstep:(l.take (k+1)).map normM=(l.take k).map normM++[normM l[k]]:=by rw [List.take_succ_eq_append_getElem hlt,List.map_append];rfl
  have hfit:=takeMap hXe
  have hall:∀ a (ha:a < k),a < ((l.take k).map normM).length:=fun a ha=>by rw [Lm,List.length_take];omega
  rw [← hXe] at hidx hcs hstep hX hall
  generalize normM l[k]=n at hidx hcs hkN hstep hnl
  have hmiss:fidx (fun o=>eqD o n) X = -1→∀ a (ha:a < X.length),X[a]≠n:=fun hh a ha e=>by
   have h3:=fidx_none hh a ha
   rw [eqD_t e] at h3
   cases h3
  have hfirst:∀ i:Nat,fidx (fun o=>eqD o n) X=i→∃ hi:i < X.length,X[i]=n∧∀ a (ha:a < i),X[a]'(by omega)≠n:=fun i hh=>by
   obtain ⟨hi,h3,h4⟩:=fidx_some hh
   refine ⟨hi,eqD_iff.1 h3,fun a ha e=>?_⟩
   have h5:=h4 a ha
   rw [eqD_t e] at h5
   cases h5
  generalize fidx (fun o=>eqD o n) X=v at hidx hcs hmiss hfirst
  refine Ei k (Ei (l[k].enc) (Ai rfl (Ai (map_get _ _ k hlt) ?_)))
  refine cI hnl ⟨fL l[k].enc,trivial⟩ (.inr rfl) ?_
  refine cI hidx ⟨?_,⟨rfl,⟨⟨rfl,rfl⟩,trivial⟩⟩,trivial⟩ (.inl rfl) ?_
  ·repeat' first|refine Ai ?_ ?_|exact rfl|exact trivial|exact Ei _ rfl|refine lN ?_|refine bS ?_|fail
  refine cS (fun h2=>?_) (fun h2=>?_)
  ·have h2:=of_decide_eq_true h2
   rcases hcs with ⟨e1,_,_⟩|⟨i,hi,e1,hb,_⟩
   ·rw [e1] at h2;exact absurd h2 (by decide)
   have hM2:M=(i,k,true):=by
    rw [← hM]
    obtain ⟨_,h3,h4⟩:=hfirst i e1
    refine fndF_eq (.inl ⟨i,k,(hfit i hi).2.2,⟨(hfit i hi).1,hkl,?_,fun a ha=>?_⟩,hno,rfl⟩)
    ·rw [← (hfit i hi).2.1,hkN]
     exact h3
    ·rw [← (hfit a (by omega)).2.1,hkN]
     exact h4 a ha
   subst hM2 e1
   refine Tp.run [] ?_
   refine Ei [] (Ai rfl (Ai ?_ ?_))
   all_goals repeat' first|refine Ai ?_ ?_|exact rfl|exact trivial|exact Ei _ rfl|refine lN ?_|refine bS ?_|fail
  ·have h2:=of_decide_eq_false h2
   rcases hcs with ⟨e1,hno2,_⟩|⟨i,hi,e1,hb,_⟩
   ·refine Tp.run [] ?_
    refine Ai (.inl rfl) (Ai (apS hX) (Ai (apS' hX) ?_))
    refine Ei (k+1,X++[n]) (Ai ⟨show k+1≤_ by omega,hstep.symm,fun b hb a ha (hbk:b < k+1)=>?_⟩ (Ai (show l.length - (k+1) < l.length - k by omega) ?_))
    ·by_cases e:b=k
     ·subst e
      rw [hkN,← (hfit a (hall a ha)).2.1]
      exact hmiss e1 a (hall a ha)
     ·exact hno b hb a ha (by omega)
    refine wk_of [(9000,9000)] rfl rfl ?_ ?_ ?_
    ·repeat' first|refine Ai ?_ ?_|exact rfl|exact trivial|exact Ei _ rfl|refine lN ?_|refine bS ?_|fail
     exact succ_eq k hlt 280 (by decide) hl2
    ·repeat' first|refine Ai ?_ ?_|exact rfl|exact trivial|exact Ei _ rfl|refine lN ?_|refine bS ?_|fail
    ·repeat' first|refine Ai ?_ ?_|exact rfl|exact trivial|exact Ei _ rfl|refine lN ?_|refine bS ?_|fail
     exact apSe _ _
   ·rw [e1] at h2;exact absurd (Int.natCast_nonneg i) h2
 ·have hk2:k=l.length:=len_ge hc hk
  have hM2:M=(0,0,false):=by
   rw [← hM]
   exact fndF_eq (.inr ⟨fun b hb a ha=>hno b hb a ha (by rw [Lm] at hb;omega),rfl⟩)
  subst hM2
  refine Tp.run [] ?_
  refine Ei [] (Ai rfl (Ai ?_ ?_))
  all_goals repeat' first|refine Ai ?_ ?_|exact rfl|exact trivial|exact Ei _ rfl|refine lN ?_|refine bS ?_|fail
end
theorem lt_of_dec {a b:Nat} (h:decide ((a:Int) < (b:Int))=true):a < b:=by simpa using h
theorem ge_of_dec {a b:Nat} (h:decide ((a:Int) < (b:Int))=false):b≤a:=by simpa using h
theorem findR_ct (l:List GState) (hl:l.length≤1000) (h:∀ s∈l,NOk s):Ct Tryz.prog 15 [.c (.t (.sl 19 (l.map GState.enc)))] (fndT (fndF (l.map normM))) [] true:=by
 refine Ct.litT (b:=false) ?_ rfl
 have hl2:l.length*280≤limB:=by unfold limB;omega
 have hlm:(l.map normM).length=l.length:=Lm ..
 generalize hM:fndF (l.map normM)=M
 refine ct_of Tryz.func15 rfl (enters_of Tryz.func15 (by kernel_rfl) rfl) tabOk (by kernel_rfl) rfl rfl rfl rfl fun w0 O _=>Tp.run [9] ?_
 refine Tp.loop (fun k:Nat=>⟨[(0,.c (.t (.sl 19 (l.map GState.enc)))),(5,AV.i k)],[],[],10000⟩) (fun k=>k≤l.length∧∀ b (hb:b < (l.map normM).length) a (ha:a < b),b < k→(l.map normM)[a]≠(l.map normM)[b]) (fun k=>l.length - k) 0 ?_ ⟨Nat.zero_le _,fun b _ a _ hb=>absurd hb (Nat.not_lt_zero b)⟩ ?_
 ·refine wk_of [] rfl rfl ?_ ?_ ?_
  all_goals repeat' first|refine Ai ?_ ?_|exact rfl|exact trivial|exact Ei _ rfl|refine lN ?_|refine bS ?_|fail
 rintro k ⟨hk,hno⟩
 refine Tp.run [3,4,9] ?_
 refine cS (fun hc=>?_) (fun hc=>?_)
 ·have hlt:k < l.length:=len_lt hc
  refine Tp.run [3] ?_
  refine Tp.loop (fun a:Nat=>⟨[(0,.c (.t (.sl 19 (l.map GState.enc)))),(5,AV.i k),(6,AV.i a)],[],[],20000⟩) (fun a=>a≤k∧∀ b (hb:b < (l.map normM).length),b < a→(l.map normM)[b]≠(l.map normM)[k]'(by omega)) (fun a=>k - a) 0 ?_ ⟨Nat.zero_le _,fun b _ hb=>absurd hb (Nat.not_lt_zero b)⟩ ?_
  ·refine wk_of [] rfl rfl ?_ ?_ ?_
   all_goals repeat' first|refine Ai ?_ ?_|exact rfl|exact trivial|exact Ei _ rfl|refine lN ?_|refine bS ?_|fail
  rintro a ⟨ha,hna⟩
  refine Tp.run [3,6,7,8] ?_
  refine cS (fun hc2=>?_) (fun hc2=>?_)
  ·have halt:a < k:=lt_of_dec hc2
   have hal:a < l.length:=by omega
   refine Tp.run [6,8] ?_
   refine Ei a (Ei (l[a].enc) (Ai rfl (Ai (map_get _ _ a hal) ?_)))
   refine Ei k (Ei (l[k].enc) (Ai rfl (Ai (map_get _ _ k hlt) ?_)))
   refine cI (sameR_ct l[a] l[k] (h _ (List.getElem_mem hal)) (h _ (List.getElem_mem hlt))) ⟨fL l[a].enc,fL l[k].enc,trivial⟩ (.inl rfl) ?_
   refine cS (fun h2=>?_) (fun h2=>?_)
   ·have e:=eqD_iff.1 h2
    have hM2:M=(a,k,true):=by
     rw [← hM]
     exact fndF_eq (.inl ⟨a,k,halt,⟨by omega,by omega,by simpa using e,fun b hb=>hna b (by omega) hb⟩,hno,rfl⟩)
    subst hM2
    refine Tp.run [] ?_
    refine Ei [] (Ai rfl (Ai ?_ ?_))
    all_goals repeat' first|refine Ai ?_ ?_|exact rfl|exact trivial|exact Ei _ rfl|refine lN ?_|refine bS ?_|fail
   ·refine Tp.run [] ?_
    refine Ei (a+1) (Ai ⟨by omega,fun b hb hba=>?_⟩ (Ai (show k - (a+1) < k - a by omega) ?_))
    ·by_cases e:b=a
     ·subst e
      intro e
      rw [eqD_t (by simpa using e)] at h2
      cases h2
     ·exact hna b hb (by omega)
    refine wk_of [] rfl rfl ?_ ?_ ?_
    ·repeat' first|refine Ai ?_ ?_|exact rfl|exact trivial|exact Ei _ rfl|refine lN ?_|refine bS ?_|fail
     exact succ_eq a hal 280 (by decide) hl2
    all_goals repeat' first|refine Ai ?_ ?_|exact rfl|exact trivial|exact Ei _ rfl|refine lN ?_|refine bS ?_|fail
  ·have hge:k≤a:=ge_of_dec hc2
   refine Tp.run [] ?_
   refine Ei (k+1) (Ai ⟨by omega,fun b hb c hcb hbk=>?_⟩ (Ai (show l.length - (k+1) < l.length - k by omega) ?_))
   ·by_cases e:b=k
    ·subst e
     exact hna c (by omega) (by omega)
    ·exact hno b hb c hcb (by omega)
   refine wk_of [] rfl rfl ?_ ?_ ?_
   ·repeat' first|refine Ai ?_ ?_|exact rfl|exact trivial|exact Ei _ rfl|refine lN ?_|refine bS ?_|fail
    exact succ_eq k hlt 280 (by decide) hl2
   all_goals repeat' first|refine Ai ?_ ?_|exact rfl|exact trivial|exact Ei _ rfl|refine lN ?_|refine bS ?_|fail
 ·have hk2:k=l.length:=len_ge hc hk
  have hM2:M=(0,0,false):=by
   rw [← hM]
   exact fndF_eq (.inr ⟨fun b hb a ha=>hno b hb a ha (by omega),rfl⟩)
  subst hM2
  refine Tp.run [] ?_
  refine Ei [] (Ai rfl (Ai ?_ ?_))
  all_goals repeat' first|refine Ai ?_ ?_|exact rfl|exact trivial|exact Ei _ rfl|refine lN ?_|refine bS ?_|fail
end Go.Proofs.YtpibcdnagnjokaaGreat
end
section
namespace Go.Proofs.YtpibcdnagnjokaaGreat
open Go Cg Go.RowKit
theorem remM_ok {s:GState} (h:s.ok) (id:Int) (i:Nat) (o:GObject) (hi:i < s.objects.length):(remM s id i o).ok∧(remM s id i o).objects.length+1=s.objects.length:=by
 have hl:(((listM s o.zone o.owner).filter fun i=>i != id).length*8≤limB):=Nat.le_trans (Nat.mul_le_mul_right _ (List.length_filter_le _ _)) (listM_le h _ _)
 obtain ⟨h1,h2,_,_,h5,h6,_,_,h9⟩:=setM_ok h o.zone o.owner hl
 obtain ⟨_,_,g3,g4,_,_,g7,g8,_⟩:=h
 have hlen:(s.objects.take i++s.objects.drop (i+1)).length+1=s.objects.length:=by
  simp only [List.length_append,List.length_take,List.length_drop]
  omega
 refine ⟨⟨h1,h2,?_,?_,h5,h6,?_,?_,h9⟩,hlen⟩
 ·show (s.objects.take i++s.objects.drop (i+1)).length*128≤limB
  omega
 ·intro y hy
  rcases List.mem_append.1 hy with hy|hy
  ·exact g4 y (List.mem_of_mem_take hy)
  ·exact g4 y (List.mem_of_mem_drop hy)
 ·exact Nat.le_trans (Nat.mul_le_mul_right _ (List.length_filter_le _ _)) g7
 ·intro y hy
  exact g8 y (List.mem_filter.1 hy).1
theorem putL_len (l:List GObject) (o:GObject):(putL l o).length≤l.length+1:=by
 unfold putL
 split
 ·rw [List.length_set]
  omega
 ·unfold insM
  simp only [List.length_append,List.length_take,List.length_drop,List.length_cons,List.length_nil]
  omega
theorem obj_ok (o:GObject):o.ok:=by
 unfold GObject.ok
 exact trivial
theorem putM_ok {s:GState} (h:s.ok) (o:GObject) (hn:(s.objects.length+1)*128≤limB):(putM s o).ok:=by
 obtain ⟨h1,h2,_,h4,h5⟩:=h
 refine ⟨h1,h2,?_,fun y hy=>obj_ok y,h5⟩
 exact Nat.le_trans (Nat.mul_le_mul_right _ (putL_len _ _)) hn
def mvFin (V:GState):GState:={ V with nextId:=IntKind.i64.wrap (V.nextId+1),nextStamp:=IntKind.i64.wrap (V.nextStamp+1) }
def mvEnd (Q:GState) (x:GObject) (z:Int) (bottom:Bool):GState:=
 mvFin (setM Q z x.owner (if (z==2&&!bottom)=true then x.id :: listM Q z x.owner else listM Q z x.owner++[x.id]))
def mvNew (R:GState) (o:GObject) (z p:Int):GObject:=movedM o R.nextId z p R.nextStamp
def mvFound (s:GState) (id z p:Int) (bottom:Bool) (i:Nat) (o:GObject):GState × Int:=
 if z < 0∨5 < z then (s,0) else
 if o.token=true∧(z != 0)=true∧(z != 5)=true then (remM s id i o,0) else
 (mvEnd (putM (remM s id i o) (mvNew (remM s id i o) o z p)) (mvNew (remM s id i o) o z p) z bottom,(mvNew (remM s id i o) o z p).id)
def moveM (s:GState) (id z p:Int) (bottom:Bool):GState × Int:=match s.objects.findIdx? fun o=>o.id==id with
 | none=>(s,0)
 | some i=>match s.objects[i]? with
  | some o=>mvFound s id z p bottom i o
  | none=>(s,0)
theorem move_none (s:GState) (id z p:Int) (bottom:Bool) (h:s.ok) (e:s.objects.find? (fun o=>o.id==id)=none):Ct Tryz.prog 59 [.agg (s.enc.map .t),.c (.t (iv id)),.c (.t (iv z)),.c (.t (iv p)),AV.b bottom] (.tup [.agg (s.enc.map .t),AV.i 0]) [] false:=by
 have hf:=find_ct s id h.2.2.1
 unfold findM hasM at hf
 rw [e] at hf
 refine ct_of Tryz.func59 rfl (enters_of Tryz.func59 (by kernel_rfl) rfl) tabOk (by kernel_rfl) rfl rfl rfl rfl fun w0 O _=>Tp.run [3] ?_
 refine cI hf ⟨fL s.enc,rfl,trivial⟩ (.inr rfl) ?_
 refine Tp.run [] ?_
 refine cI (copy_ct s h) ⟨fL s.enc,trivial⟩ (.inr rfl) ?_
 refine Ei [] (Ai rfl (Ai ?_ ?_))
 all_goals repeat' first|refine Ai ?_ ?_|exact rfl|exact trivial|exact Ei _ rfl|refine lN ?_|refine bS ?_|fail
theorem move_found (s:GState) (id z p:Int) (bottom:Bool) (i:Nat) (h:s.ok) (hi:i < s.objects.length) (hp:placeM s.objects id=i) (e:s.objects.find? (fun o=>o.id==id)=some s.objects[i]):Ct Tryz.prog 59 [.agg (s.enc.map .t),.c (.t (iv id)),.c (.t (iv z)),.c (.t (iv p)),AV.b bottom] (.tup [.agg ((mvFound s id z p bottom i s.objects[i]).1.enc.map .t),.c (.t (iv (mvFound s id z p bottom i s.objects[i]).2))]) [] false:=by
 have hf:=find_ct s id h.2.2.1
 unfold findM hasM at hf
 rw [e] at hf
 have hr:=removed_ct s id i h hi hp
 obtain ⟨hR,hRn⟩:=remM_ok h id i s.objects[i] hi
 generalize hM:mvFound s id z p bottom i s.objects[i]=M
 unfold mvFound at hM
 generalize remM s id i s.objects[i]=R at hr hR hRn hM
 generalize s.objects[i]=o at hf hr hM
 have hv:=moved_ct o R.nextId z p R.nextStamp
 change Ct _ _ _ (.agg ((mvNew R o z p).enc.map .t)) _ _ at hv
 generalize mvNew R o z p=x at hv hM
 have hq:Ct Tryz.prog 18 [.agg (R.enc.map .t),.agg (x.enc.map .t)] (.agg (((putM R x).enc.map .t).set 2 (.row 0 0))) [⟨3,1,0,(putM R x).battlefield.map eI,none⟩] false:=put_ct R x hR
 have hQ:=putM_ok hR x (by rw [hRn];exact h.2.2.1)
 generalize putM R x=Q at hq hQ hM
 have hll:=listM_le hQ z x.owner
 have hl:=list_row Q z x.owner hQ
 have hs1:=set_ct Q z x.owner (x.id :: listM Q z x.owner) hQ (by rw [List.length_cons];exact one_more (by decide) hll)
 have hs2:=set_ct Q z x.owner (listM Q z x.owner++[x.id]) hQ (by rw [List.length_append];exact one_more (by decide) hll)
 unfold mvEnd at hM
 refine ct_of Tryz.func59 rfl (enters_of Tryz.func59 (by kernel_rfl) rfl) tabOk (by kernel_rfl) rfl rfl rfl rfl fun w0 O _=>Tp.run [3,4,6,7,9,10,11,12,13,14] ?_
 refine cI hf ⟨fL s.enc,rfl,trivial⟩ (.inr rfl) ?_
 refine cS (fun hz0=>?_) (fun hz0=>?_)
 ·rw [if_pos (.inl (of_decide_eq_true hz0))] at hM
  subst hM
  refine Tp.run [] ?_
  refine cI (copy_ct s h) ⟨fL s.enc,trivial⟩ (.inr rfl) ?_
  refine Ei [] (Ai rfl (Ai ?_ ?_))
  all_goals repeat' first|refine Ai ?_ ?_|exact rfl|exact trivial|exact Ei _ rfl|refine lN ?_|refine bS ?_|fail
 refine cS (fun hz5=>?_) (fun hz5=>?_)
 ·rw [if_pos (.inr (of_decide_eq_true hz5))] at hM
  subst hM
  refine Tp.run [] ?_
  refine cI (copy_ct s h) ⟨fL s.enc,trivial⟩ (.inr rfl) ?_
  refine Ei [] (Ai rfl (Ai ?_ ?_))
  all_goals repeat' first|refine Ai ?_ ?_|exact rfl|exact trivial|exact Ei _ rfl|refine lN ?_|refine bS ?_|fail
 rw [if_neg (fun hx=>hx.elim (of_decide_eq_false hz0) (of_decide_eq_false hz5))] at hM
 refine Tp.run [] ?_
 refine cI hr ⟨fL s.enc,rfl,trivial⟩ (.inr rfl) ?_
 refine cS (fun ht=>?_) (fun ht=>?_)
 ·refine cS (fun h1=>?_) (fun h1=>?_)
  ·refine cS (fun h2=>?_) (fun h2=>?_)
   ·rw [if_pos ⟨ht,h1,h2⟩] at hM
    subst hM
    refine Tp.run [] ?_
    refine Ei [] (Ai rfl (Ai ?_ ?_))
    all_goals repeat' first|refine Ai ?_ ?_|exact rfl|exact trivial|exact Ei _ rfl|refine lN ?_|refine bS ?_|fail
   ·rw [if_neg (fun hx=>by rw [show (z != 5)=false from h2] at hx;exact absurd hx.2.2 (by decide))] at hM
    refine Tp.run [] ?_
    refine cI hv ⟨fL o.enc,rfl,rfl,rfl,rfl,trivial⟩ (.inr rfl) ?_
    refine cI hq ⟨fL R.enc,fL x.enc,trivial⟩ (.inr rfl) ?_
    refine Tp.frz [] (Tp.run [] ?_)
    refine cI hl ⟨?_,rfl,rfl,trivial⟩ (.inr rfl) ?_
    ·repeat' first|refine Ai ?_ ?_|exact rfl|exact trivial|exact Ei _ rfl|refine lN ?_|refine bS ?_|fail
    refine Tp.run [] ?_
    refine cS (fun w2=>?_) (fun w2=>?_)
    ·refine cS (fun wb=>?_) (fun wb=>?_)
     ·rw [if_pos (show (z==2&&!bottom)=true by rw [show (z==2)=true from w2,show (!bottom)=true from wb];rfl)] at hM
      refine Tp.run [] ?_
      refine Ai (.inl rfl) (Ai ?_ (Ai ?_ ?_))
      ·show (1+((listM Q z x.owner).map eI).length)*8≤_
       rw [Lm,Nat.add_comm]
       exact Nat.le_of_lt (one_more (by decide) hll)
      ·show 1+((listM Q z x.owner).map eI).length < _
       rw [Lm,Nat.add_comm]
       have:=one_more (n:=(listM Q z x.owner).length) (b:=8) (by decide) hll
       omega
      generalize setM Q z x.owner _=V at hs1 hM
      subst hM
      refine Tp.frz [] (Tp.run [] ?_)
      refine cI hs1 ⟨?_,rfl,rfl,?_,trivial⟩ (.inr rfl) ?_
      ·repeat' first|refine Ai ?_ ?_|exact rfl|exact trivial|exact Ei _ rfl|refine lN ?_|refine bS ?_|fail
      ·exact rfl
      refine Tp.run [] ?_
      refine Ei [] (Ai rfl (Ai ?_ ?_))
      all_goals repeat' first|refine Ai ?_ ?_|exact rfl|exact trivial|exact Ei _ rfl|refine lN ?_|refine bS ?_|fail
     ·rw [if_neg (show ¬ (z==2&&!bottom)=true by rw [show (z==2)=true from w2,show (!bottom)=false from wb];decide)] at hM
      refine Tp.run [] ?_
      refine Ai (.inl rfl) (Ai ?_ (Ai ?_ ?_))
      ·show (((listM Q z x.owner).map eI).length+1)*8≤_
       rw [Lm]
       exact Nat.le_of_lt (one_more (by decide) hll)
      ·show ((listM Q z x.owner).map eI).length+1 < _
       rw [Lm]
       have:=one_more (n:=(listM Q z x.owner).length) (b:=8) (by decide) hll
       omega
      generalize setM Q z x.owner _=V at hs2 hM
      subst hM
      refine Tp.frz [] (Tp.run [] ?_)
      refine cI hs2 ⟨?_,rfl,rfl,?_,trivial⟩ (.inr rfl) ?_
      ·repeat' first|refine Ai ?_ ?_|exact rfl|exact trivial|exact Ei _ rfl|refine lN ?_|refine bS ?_|fail
      ·exact congrArg (Tr.sl 1) (List.map_append (f:=eI) (l₁:=listM Q z x.owner) (l₂:=[x.id])).symm
      refine Tp.run [] ?_
      refine Ei [] (Ai rfl (Ai ?_ ?_))
      all_goals repeat' first|refine Ai ?_ ?_|exact rfl|exact trivial|exact Ei _ rfl|refine lN ?_|refine bS ?_|fail
    ·rw [if_neg (show ¬ (z==2&&!bottom)=true by rw [show (z==2)=false from w2,Bool.false_and];decide)] at hM
     refine Tp.run [] ?_
     refine Ai (.inl rfl) (Ai ?_ (Ai ?_ ?_))
     ·show (((listM Q z x.owner).map eI).length+1)*8≤_
      rw [Lm]
      exact Nat.le_of_lt (one_more (by decide) hll)
     ·show ((listM Q z x.owner).map eI).length+1 < _
      rw [Lm]
      have:=one_more (n:=(listM Q z x.owner).length) (b:=8) (by decide) hll
      omega
     generalize setM Q z x.owner _=V at hs2 hM
     subst hM
     refine Tp.frz [] (Tp.run [] ?_)
     refine cI hs2 ⟨?_,rfl,rfl,?_,trivial⟩ (.inr rfl) ?_
     ·repeat' first|refine Ai ?_ ?_|exact rfl|exact trivial|exact Ei _ rfl|refine lN ?_|refine bS ?_|fail
     ·exact congrArg (Tr.sl 1) (List.map_append (f:=eI) (l₁:=listM Q z x.owner) (l₂:=[x.id])).symm
     refine Tp.run [] ?_
     refine Ei [] (Ai rfl (Ai ?_ ?_))
     all_goals repeat' first|refine Ai ?_ ?_|exact rfl|exact trivial|exact Ei _ rfl|refine lN ?_|refine bS ?_|fail
  ·rw [if_neg (fun hx=>by rw [show (z != 0)=false from h1] at hx;exact absurd hx.2.1 (by decide))] at hM
   refine Tp.run [] ?_
   refine cI hv ⟨fL o.enc,rfl,rfl,rfl,rfl,trivial⟩ (.inr rfl) ?_
   refine cI hq ⟨fL R.enc,fL x.enc,trivial⟩ (.inr rfl) ?_
   refine Tp.frz [] (Tp.run [] ?_)
   refine cI hl ⟨?_,rfl,rfl,trivial⟩ (.inr rfl) ?_
   ·repeat' first|refine Ai ?_ ?_|exact rfl|exact trivial|exact Ei _ rfl|refine lN ?_|refine bS ?_|fail
   refine Tp.run [] ?_
   refine cS (fun w2=>?_) (fun w2=>?_)
   ·refine cS (fun wb=>?_) (fun wb=>?_)
    ·rw [if_pos (show (z==2&&!bottom)=true by rw [show (z==2)=true from w2,show (!bottom)=true from wb];rfl)] at hM
     refine Tp.run [] ?_
     refine Ai (.inl rfl) (Ai ?_ (Ai ?_ ?_))
     ·show (1+((listM Q z x.owner).map eI).length)*8≤_
      rw [Lm,Nat.add_comm]
      exact Nat.le_of_lt (one_more (by decide) hll)
     ·show 1+((listM Q z x.owner).map eI).length < _
      rw [Lm,Nat.add_comm]
      have:=one_more (n:=(listM Q z x.owner).length) (b:=8) (by decide) hll
      omega
     generalize setM Q z x.owner _=V at hs1 hM
     subst hM
     refine Tp.frz [] (Tp.run [] ?_)
     refine cI hs1 ⟨?_,rfl,rfl,?_,trivial⟩ (.inr rfl) ?_
     ·repeat' first|refine Ai ?_ ?_|exact rfl|exact trivial|exact Ei _ rfl|refine lN ?_|refine bS ?_|fail
     ·exact rfl
     refine Tp.run [] ?_
     refine Ei [] (Ai rfl (Ai ?_ ?_))
     all_goals repeat' first|refine Ai ?_ ?_|exact rfl|exact trivial|exact Ei _ rfl|refine lN ?_|refine bS ?_|fail
    ·rw [if_neg (show ¬ (z==2&&!bottom)=true by rw [show (z==2)=true from w2,show (!bottom)=false from wb];decide)] at hM
     refine Tp.run [] ?_
     refine Ai (.inl rfl) (Ai ?_ (Ai ?_ ?_))
     ·show (((listM Q z x.owner).map eI).length+1)*8≤_
      rw [Lm]
      exact Nat.le_of_lt (one_more (by decide) hll)
     ·show ((listM Q z x.owner).map eI).length+1 < _
      rw [Lm]
      have:=one_more (n:=(listM Q z x.owner).length) (b:=8) (by decide) hll
      omega
     generalize setM Q z x.owner _=V at hs2 hM
     subst hM
     refine Tp.frz [] (Tp.run [] ?_)
     refine cI hs2 ⟨?_,rfl,rfl,?_,trivial⟩ (.inr rfl) ?_
     ·repeat' first|refine Ai ?_ ?_|exact rfl|exact trivial|exact Ei _ rfl|refine lN ?_|refine bS ?_|fail
     ·exact congrArg (Tr.sl 1) (List.map_append (f:=eI) (l₁:=listM Q z x.owner) (l₂:=[x.id])).symm
     refine Tp.run [] ?_
     refine Ei [] (Ai rfl (Ai ?_ ?_))
     all_goals repeat' first|refine Ai ?_ ?_|exact rfl|exact trivial|exact Ei _ rfl|refine lN ?_|refine bS ?_|fail
   ·rw [if_neg (show ¬ (z==2&&!bottom)=true by rw [show (z==2)=false from w2,Bool.false_and];decide)] at hM
    refine Tp.run [] ?_
    refine Ai (.inl rfl) (Ai ?_ (Ai ?_ ?_))
    ·show (((listM Q z x.owner).map eI).length+1)*8≤_
     rw [Lm]
     exact Nat.le_of_lt (one_more (by decide) hll)
    ·show ((listM Q z x.owner).map eI).length+1 < _
     rw [Lm]
     have:=one_more (n:=(listM Q z x.owner).length) (b:=8) (by decide) hll
     omega
    generalize setM Q z x.owner _=V at hs2 hM
    subst hM
    refine Tp.frz [] (Tp.run [] ?_)
    refine cI hs2 ⟨?_,rfl,rfl,?_,trivial⟩ (.inr rfl) ?_
    ·repeat' first|refine Ai ?_ ?_|exact rfl|exact trivial|exact Ei _ rfl|refine lN ?_|refine bS ?_|fail
    ·exact congrArg (Tr.sl 1) (List.map_append (f:=eI) (l₁:=listM Q z x.owner) (l₂:=[x.id])).symm
    refine Tp.run [] ?_
    refine Ei [] (Ai rfl (Ai ?_ ?_))
    all_goals repeat' first|refine Ai ?_ ?_|exact rfl|exact trivial|exact Ei _ rfl|refine lN ?_|refine bS ?_|fail
 ·rw [if_neg (fun hx=>by rw [show o.token=false from ht] at hx;exact absurd hx.1 (by decide))] at hM
  refine Tp.run [] ?_
  refine cI hv ⟨fL o.enc,rfl,rfl,rfl,rfl,trivial⟩ (.inr rfl) ?_
  refine cI hq ⟨fL R.enc,fL x.enc,trivial⟩ (.inr rfl) ?_
  refine Tp.frz [] (Tp.run [] ?_)
  refine cI hl ⟨?_,rfl,rfl,trivial⟩ (.inr rfl) ?_
  ·repeat' first|refine Ai ?_ ?_|exact rfl|exact trivial|exact Ei _ rfl|refine lN ?_|refine bS ?_|fail
  refine Tp.run [] ?_
  refine cS (fun w2=>?_) (fun w2=>?_)
  ·refine cS (fun wb=>?_) (fun wb=>?_)
   ·rw [if_pos (show (z==2&&!bottom)=true by rw [show (z==2)=true from w2,show (!bottom)=true from wb];rfl)] at hM
    refine Tp.run [] ?_
    refine Ai (.inl rfl) (Ai ?_ (Ai ?_ ?_))
    ·show (1+((listM Q z x.owner).map eI).length)*8≤_
     rw [Lm,Nat.add_comm]
     exact Nat.le_of_lt (one_more (by decide) hll)
    ·show 1+((listM Q z x.owner).map eI).length < _
     rw [Lm,Nat.add_comm]
     have:=one_more (n:=(listM Q z x.owner).length) (b:=8) (by decide) hll
     omega
    generalize setM Q z x.owner _=V at hs1 hM
    subst hM
    refine Tp.frz [] (Tp.run [] ?_)
    refine cI hs1 ⟨?_,rfl,rfl,?_,trivial⟩ (.inr rfl) ?_
    ·repeat' first|refine Ai ?_ ?_|exact rfl|exact trivial|exact Ei _ rfl|refine lN ?_|refine bS ?_|fail
    ·exact rfl
    refine Tp.run [] ?_
    refine Ei [] (Ai rfl (Ai ?_ ?_))
    all_goals repeat' first|refine Ai ?_ ?_|exact rfl|exact trivial|exact Ei _ rfl|refine lN ?_|refine bS ?_|fail
   ·rw [if_neg (show ¬ (z==2&&!bottom)=true by rw [show (z==2)=true from w2,show (!bottom)=false from wb];decide)] at hM
    refine Tp.run [] ?_
    refine Ai (.inl rfl) (Ai ?_ (Ai ?_ ?_))
    ·show (((listM Q z x.owner).map eI).length+1)*8≤_
     rw [Lm]
     exact Nat.le_of_lt (one_more (by decide) hll)
    ·show ((listM Q z x.owner).map eI).length+1 < _
     rw [Lm]
     have:=one_more (n:=(listM Q z x.owner).length) (b:=8) (by decide) hll
     omega
    generalize setM Q z x.owner _=V at hs2 hM
    subst hM
    refine Tp.frz [] (Tp.run [] ?_)
    refine cI hs2 ⟨?_,rfl,rfl,?_,trivial⟩ (.inr rfl) ?_
    ·repeat' first|refine Ai ?_ ?_|exact rfl|exact trivial|exact Ei _ rfl|refine lN ?_|refine bS ?_|fail
    ·exact congrArg (Tr.sl 1) (List.map_append (f:=eI) (l₁:=listM Q z x.owner) (l₂:=[x.id])).symm
    refine Tp.run [] ?_
    refine Ei [] (Ai rfl (Ai ?_ ?_))
    all_goals repeat' first|refine Ai ?_ ?_|exact rfl|exact trivial|exact Ei _ rfl|refine lN ?_|refine bS ?_|fail
  ·rw [if_neg (show ¬ (z==2&&!bottom)=true by rw [show (z==2)=false from w2,Bool.false_and];decide)] at hM
   refine Tp.run [] ?_
   refine Ai (.inl rfl) (Ai ?_ (Ai ?_ ?_))
   ·show (((listM Q z x.owner).map eI).length+1)*8≤_
    rw [Lm]
    exact Nat.le_of_lt (one_more (by decide) hll)
   ·show ((listM Q z x.owner).map eI).length+1 < _
    rw [Lm]
    have:=one_more (n:=(listM Q z x.owner).length) (b:=8) (by decide) hll
    omega
   generalize setM Q z x.owner _=V at hs2 hM
   subst hM
   refine Tp.frz [] (Tp.run [] ?_)
   refine cI hs2 ⟨?_,rfl,rfl,?_,trivial⟩ (.inr rfl) ?_
   ·repeat' first|refine Ai ?_ ?_|exact rfl|exact trivial|exact Ei _ rfl|refine lN ?_|refine bS ?_|fail
   ·exact congrArg (Tr.sl 1) (List.map_append (f:=eI) (l₁:=listM Q z x.owner) (l₂:=[x.id])).symm
   refine Tp.run [] ?_
   refine Ei [] (Ai rfl (Ai ?_ ?_))
   all_goals repeat' first|refine Ai ?_ ?_|exact rfl|exact trivial|exact Ei _ rfl|refine lN ?_|refine bS ?_|fail
theorem move_ct (s:GState) (id z p:Int) (bottom:Bool) (h:s.ok):Ct Tryz.prog 59 [.agg (s.enc.map .t),.c (.t (iv id)),.c (.t (iv z)),.c (.t (iv p)),AV.b bottom] (.tup [.agg ((moveM s id z p bottom).1.enc.map .t),.c (.t (iv (moveM s id z p bottom).2))]) [] false:=by
 rcases fidx_cases (fun o:GObject=>o.id==id) s.objects with ⟨_,e1,e2⟩|⟨i,hi,e0,e1,e2⟩
 ·have:=move_none s id z p bottom h e2
  unfold moveM
  rw [e1]
  exact this
 ·have:=move_found s id z p bottom i h hi e0 e2
  unfold moveM
  rw [e1]
  simp only [List.getElem?_eq_getElem hi]
  exact this
end Go.Proofs.YtpibcdnagnjokaaGreat
end
section
namespace Cg
open Go Go.RowKit
mutual
inductive TS:Tr→Tr→Prop
 | lit (v:Value):TS (.lit v) (.lit v)
 | nil (k k':Nat):TS (.sl k []) (.sl k' [])
 | sl (k:Nat) {xs ys:List (List Tr)}:TSE xs ys→TS (.sl k xs) (.sl k ys)
inductive TSL:List Tr→List Tr→Prop
 | nil:TSL [] []
 | cons {t u:Tr} {ts us:List Tr}:TS t u→TSL ts us→TSL (t :: ts) (u :: us)
inductive TSE:List (List Tr)→List (List Tr)→Prop
 | nil:TSE [] []
 | cons {t u:List Tr} {ts us:List (List Tr)}:TSL t u→TSE ts us→TSE (t :: ts) (u :: us)
end
theorem TSE.len:∀ {xs ys:List (List Tr)},TSE xs ys→xs.length=ys.length
 | _,_,.nil=>rfl
 | _,_,.cons _ h=>by rw [List.length_cons,List.length_cons,TSE.len h]
theorem RT.ts {F:Nat→Prop} {w:World} {v:Value} {t:Tr} (h:RT F w v t):∀ u,TS t u→RT F w v u:=by
 refine RT.rec (motive_1:=fun v t _=>∀ u,TS t u→RT F w v u) (motive_2:=fun vs ts _=>∀ us,TSL ts us→RTL F w vs us) (motive_3:=fun k g o xs _=>∀ ys,TSE xs ys→RTE F w k g o ys) ?_ ?_ ?_ ?_ ?_ ?_ ?_ ?_ ?_ h
 ·intro g es clock xs h1 h2 h3 u hu
  cases hu
 ·intro u hu
  cases hu
 ·intro v hl u hu
  cases hu
  exact .lit hl
 ·intro k ao cap hc u hu
  cases hu with
  | nil _ k'=>exact .slNil hc
  | sl _ he=>
   cases he
   exact .slNil hc
 ·intro k g o n cap xs h1 h2 h3 h4 h5 ih u hu
  cases hu with
  | nil _ k'=>
   have:n=0:=h1
   subst this
   exact .slNil fun h=>by cases h
  | sl _ he=>exact .slSome (h1.trans he.len) h2 h3 h4 (ih _ he)
 ·intro us hu
  cases hu
  exact .nil
 ·intro v t vs ts _ _ ih1 ih2 us hu
  cases hu with
  | cons a b=>exact .cons (ih1 _ a) (ih2 _ b)
 ·intro k g o ys hy
  cases hy
  exact .nil
 ·intro k g o vs ts xs hl hc _ _ ih1 ih2 ys hy
  cases hy with
  | cons a b=>exact .cons hl hc (ih1 _ a) (ih2 _ b)
theorem rtl_ts {E:Env} {w:World}:∀ {vs:List Value} {ts us:List Tr},TSL ts us→A2 (RC E w) vs (ts.map .t)→A2 (RC E w) vs (us.map .t)
 | [],_,_,.nil,h=>h
 | _ :: _,_,_,.nil,h=>nomatch h
 | _,_,_,.cons a b,.cons h1 h2=>.cons (RT.ts (show RT _ _ _ _ from h1) _ a) (rtl_ts b h2)
theorem Ct.ts {P:Program} {f:FuncId} {ars:List AV} {ts us:List Tr} {b:Bool} (h:Ct P f ars (.agg (ts.map .t)) [] b) (hu:TSL ts us):Ct P f ars (.agg (us.map .t)) [] b:=by
 refine ⟨h.ent,h.few,h.shut,h.plain,fun x hx=>?_,fun x hx=>?_,fun w vs E0 ha=>(h.run w vs E0 ha).mono ?_⟩
 ·exact absurd hx (by simp [AV.bids,AV.bid1])
 ·refine absurd hx ?_
  have:(AV.agg (us.map .t)).rids=[]:=by
   show (us.map Ce.t).flatMap Ce.rids=[]
   clear h hu hx
   induction us with
   | nil=>rfl
   | cons u us ih=>simp [Ce.rids]
  rw [this]
  exact List.not_mem_nil
 ·rintro e w' ⟨v,rfl,hb,E,hr,h1,h2⟩
  refine ⟨v,rfl,hb,E,?_,h1,h2⟩
  obtain ⟨vs',rfl,h3⟩:=(show R1 E w' v (.agg (ts.map .t)) from hr)
  exact (show R1 E w' _ (.agg (us.map .t)) from ⟨vs',rfl,rtl_ts hu h3⟩)
end Cg
end
section
namespace Go.Proofs.YtpibcdnagnjokaaGreat
open Go Cg Go.RowKit
def uvA (n:Int):AV:=.c (.t (.lit (.int .u64 n)))
def p20:GPlayer:=⟨20,0,0,0,0,0,0,0,0,false,false,[],[],[]⟩
def newS (seed:Int):GState:=⟨[p20,p20],[],[],[],[],[],[],0,0,0,false,0,0,1,1,seed,[],0,-1⟩
def rp20:List Tr:=[iv 20,iv 0,iv 0,iv 0,iv 0,iv 0,iv 0,iv 0,iv 0,bv false,bv false,.sl 0 [],.sl 0 [],.sl 0 []]
theorem rp20_ts:TSL rp20 p20.enc:=by repeat' constructor
theorem r26new (seed:Int):Ct Tryz.prog 60 [.c (.t (iv 2)),.c (.t (iv 0)),uvA seed] (.agg ((newS seed).enc.map .t)) [] false:=by
 refine Ct.ts (ts:=(newS seed).enc.set 0 (.sl 14 [rp20,rp20])) ?_ ?_
 case refine_2=>
  repeat' (first|exact rp20_ts|constructor)
 refine ct_of Tryz.func60 rfl (enters_of Tryz.func60 (by kernel_rfl) rfl) tabOk (by kernel_rfl) rfl rfl rfl rfl fun w0 O _=>Tp.run [7,8,10] ?_
 refine Tp.loop (fun k:Nat=>⟨[(1,.c (.t (iv 0))),(6,.ptr 0 0),(7,.c (.t (iv 2))),(8,.ptr 896 0),(9,AV.i k)],[(0,List.replicate 19 .bot),(896,(((newS seed).enc.map .t).set 0 (.row 9000 0)))],[(9000,⟨44,14,0,List.replicate k rp20,none⟩)],10000⟩) (fun k=>k≤2) (fun k=>2 - k) 0 ?_ (Nat.zero_le _) ?_
 ·refine wk_of [] rfl rfl ?_ ?_ ?_
  all_goals repeat' first|refine Ai ?_ ?_|exact rfl|exact trivial|exact Ei _ rfl|refine lN ?_|refine bS ?_|fail
 rintro k hk
 refine Tp.run [5,6,7] ?_
 refine cS (fun hc=>?_) (fun hc=>?_)
 ·have hlt:k < 2:=by have:=of_decide_eq_true hc;omega
  refine Tp.run [] ?_
  refine Ai (.inl rfl) (Ai ?_ (Ai ?_ ?_))
  ·rw [List.length_replicate]
   show (k+1)*152≤_
   omega
  ·rw [List.length_replicate]
   show k+1 < _
   omega
  refine Tp.run [] ?_
  refine Ei (k+1) (Ai (show k+1≤2 by omega) (Ai (show 2 - (k+1) < 2 - k by omega) ?_))
  refine wk_of [(9000,9000)] rfl rfl ?_ ?_ ?_
  ·repeat' first|refine Ai ?_ ?_|exact rfl|exact trivial|exact Ei _ rfl|refine lN ?_|refine bS ?_|fail
   exact congrArg iv (wrap_succ k (by omega))
  ·repeat' first|refine Ai ?_ ?_|exact rfl|exact trivial|exact Ei _ rfl|refine lN ?_|refine bS ?_|fail
  ·repeat' first|refine Ai ?_ ?_|exact rfl|exact trivial|exact Ei _ rfl|refine lN ?_|refine bS ?_|fail
   exact (List.replicate_succ' (n:=k) (a:=rp20)).symm
 ·have:k=2:=by have:=of_decide_eq_false hc;omega
  subst this
  refine Tp.run [] ?_
  refine Tp.run [] ?_
  refine Tp.run [] ?_
  refine Ei [] (Ai rfl (Ai ?_ ?_))
  all_goals repeat' first|refine Ai ?_ ?_|exact rfl|exact trivial|exact Ei _ rfl|refine lN ?_|refine bS ?_|fail
end Go.Proofs.YtpibcdnagnjokaaGreat
end
section
namespace Go.Proofs.YtpibcdnagnjokaaGreat
open Go Cg Go.RowKit Go.Sort
def bS (i:Int) (k:Bool) (n sd:Int):GState:=⟨[p20,p20],[⟨i,0,0,0,0,false,false,k,false,0,0,0,0,i,-1,-1,false,0,0⟩],[i],[],[],[],[],0,0,0,false,0,0,n,n,sd,[],0,-1⟩
def gS (i n sd:Int):GState:=⟨[{ p20 with graveyard:=[i] },p20],[⟨i,0,0,0,3,false,false,false,false,0,0,0,0,i,-1,-1,false,0,0⟩],[],[],[],[],[],0,0,0,false,0,0,n,n,sd,[],0,-1⟩
theorem small_ok {n:Nat} (h:n≤100000):n≤limB:=by unfold limB;omega
theorem bS_ok (i:Int) (k:Bool) (n sd:Int):(bS i k n sd).ok:=by
 refine ⟨small_ok (Nb rfl),fun y hy=>?_,small_ok (Nb rfl),fun _ _=>trivial,small_ok (Nb rfl),small_ok (Nb rfl),small_ok (Nb rfl),fun y hy=>(by cases hy),small_ok (Nb rfl),fun y hy=>(by cases hy),small_ok (Nb rfl),fun y hy=>(by cases hy),small_ok (Nb rfl)⟩
 have:y=p20:=by simpa [bS] using hy
 rw [this]
 exact ⟨Nat.zero_le _,Nat.zero_le _,Nat.zero_le _⟩
theorem gS_ok (i n sd:Int):(gS i n sd).ok:=by
 refine ⟨small_ok (Nb rfl),fun y hy=>?_,small_ok (Nb rfl),fun _ _=>trivial,small_ok (Nb rfl),small_ok (Nb rfl),small_ok (Nb rfl),fun y hy=>(by cases hy),small_ok (Nb rfl),fun y hy=>(by cases hy),small_ok (Nb rfl),fun y hy=>(by cases hy),small_ok (Nb rfl)⟩
 rcases List.mem_cons.1 hy with e|hy
 ·rw [e]
  exact ⟨Nat.zero_le _,Nat.zero_le _,small_ok (Nb rfl)⟩
 ·rw [List.mem_singleton.1 hy]
  exact ⟨Nat.zero_le _,Nat.zero_le _,Nat.zero_le _⟩
theorem bS_nok (i:Nat) (k:Bool) (n sd:Int) (hi:0 < i):NOk (bS i k n sd):=by
 refine ⟨bS_ok i k n sd,⟨Nb rfl,Nb rfl,Nb rfl,Nb rfl,fun p hp=>?_,Nb rfl,Nb rfl⟩,fun c hc=>(by cases hc),fun x hx=>?_⟩
 ·have:p=p20:=by simpa [bS] using hp
  rw [this]
  decide
 ·have e:idsM (bS i k n sd)=[(i:Int)]:=rfl
  rw [e,List.mem_singleton] at hx
  omega
theorem mv1:moveM (bS 1 false 2 7) 1 3 0 false=(gS 2 3 7,2):=by rfl
theorem mv2:moveM (gS 2 3 7) 2 0 0 false=(bS 3 true 4 7,3):=by rfl
theorem mv3:moveM (bS 3 true 4 7) 3 3 0 false=(gS 4 5 7,4):=by rfl
theorem mv4:moveM (gS 4 5 7) 4 0 0 false=(bS 5 true 6 7,5):=by rfl
theorem nm1:normM (bS 1 false 2 7)=bS 1 false 1 0:=by rfl
theorem nm2:normM (bS 3 true 4 7)=bS 1 true 1 0:=by rfl
theorem nm3:normM (bS 5 true 6 7)=bS 1 true 1 0:=by rfl
theorem bS_ne:¬ bS 1 false 1 0=bS 1 true 1 0:=fun e=>by
 have:=congrArg (fun s:GState=>s.objects.map GObject.sick) e
 revert this
 decide
theorem fnd3:fndF ([bS 1 false 2 7,bS 3 true 4 7,bS 5 true 6 7].map normM)=(1,2,true):=by
 rw [List.map_cons,List.map_cons,List.map_cons,List.map_nil,nm1,nm2,nm3]
 refine fndF_eq (.inl ⟨1,2,by decide,⟨by decide,by decide,rfl,fun a ha=>?_⟩,fun b hb a ha hb2=>?_,rfl⟩)
 ·obtain rfl:a=0:=by omega
  exact bS_ne
 ·obtain rfl:b=1:=by omega
  obtain rfl:a=0:=by omega
  exact bS_ne
theorem board_ct:Ct Tryz.prog 23 [] (.agg ((bS 1 false 2 7).enc.map .t)) [] false:=by
 refine ct_of Tryz.func23 rfl (enters_of Tryz.func23 (by kernel_rfl) rfl) tabOk (by kernel_rfl) rfl rfl rfl rfl fun w0 O _=>Tp.run [] ?_
 refine cI (r26new 7) ⟨rfl,rfl,rfl,trivial⟩ (.inr rfl) ?_
 refine Ei [] (Ai rfl (Ai ?_ ?_))
 all_goals repeat' first|refine Ai ?_ ?_|exact rfl|exact trivial|exact Ei _ rfl|refine lN ?_|refine bS ?_|fail
theorem again_ct (x y z:GState) (i j k:Int) (hx:x.ok) (hy:y.ok) (hb:x.battlefield=[i]) (m1:moveM x i 3 0 false=(y,j)) (m2:moveM y j 0 0 false=(z,k)):Ct Tryz.prog 22 [.agg (x.enc.map .t)] (.agg (z.enc.map .t)) [] false:=by
 have h1:=move_ct x i 3 0 false hx
 have h2:=move_ct y j 0 0 false hy
 rw [m1] at h1
 rw [m2] at h2
 refine ct_of Tryz.func22 rfl (enters_of Tryz.func22 (by kernel_rfl) rfl) tabOk (by kernel_rfl) rfl rfl rfl rfl fun w0 O _=>Tp.run [] ?_
 refine Ei 0 (Ei (eI i) (Ai rfl (Ai (by rw [hb];rfl) ?_)))
 refine cI h1 ⟨fL x.enc,rfl,rfl,rfl,rfl,trivial⟩ (.inr rfl) ?_
 refine cI h2 ⟨fL y.enc,rfl,rfl,rfl,rfl,trivial⟩ (.inr rfl) ?_
 refine Ei [] (Ai rfl (Ai ?_ ?_))
 all_goals repeat' first|refine Ai ?_ ?_|exact rfl|exact trivial|exact Ei _ rfl|refine lN ?_|refine bS ?_|fail
theorem alive50:Ct Tryz.prog 8 [] (AV.b true) [] true:=by
 have hb:=board_ct
 have ha:=again_ct _ _ _ _ _ _ (bS_ok 1 false 2 7) (gS_ok 2 3 7) rfl mv1 mv2
 have ha2:=again_ct _ _ _ _ _ _ (bS_ok 3 true 4 7) (gS_ok 4 5 7) rfl mv3 mv4
 have n1:NOk (bS 1 false 2 7):=bS_nok 1 false 2 7 (by decide)
 have n2:NOk (bS 3 true 4 7):=bS_nok 3 true 4 7 (by decide)
 have n3:NOk (bS 5 true 6 7):=bS_nok 5 true 6 7 (by decide)
 have hf:=findL_ct [bS 1 false 2 7,bS 3 true 4 7,bS 5 true 6 7] (by decide) (fun s hs=>by
  rcases List.mem_cons.1 hs with rfl|hs
  ·exact n1
  rcases List.mem_cons.1 hs with rfl|hs
  ·exact n2
  rw [List.mem_singleton.1 hs]
  exact n3)
 rw [fnd3] at hf
 have hn:=normL_ct _ n3
 have hs1:=sameL_ct _ _ n2 n3
 have hs2:=sameL_ct _ _ n1 n2
 rw [nm2,nm3,eqD_t rfl] at hs1
 rw [nm1,nm2,eqD_f bS_ne] at hs2
 rw [nm3] at hn
 refine Ct.lit (b:=false) ?_ rfl
 refine ct_of Tryz.func8 rfl (enters_of Tryz.func8 (by kernel_rfl) rfl) tabOk (by kernel_rfl) rfl rfl rfl rfl fun w0 O _=>Tp.run [] ?_
 refine cI hb trivial (.inr rfl) ?_
 refine cI ha ⟨fL (bS 1 false 2 7).enc,trivial⟩ (.inr rfl) ?_
 refine cI ha2 ⟨fL (bS 3 true 4 7).enc,trivial⟩ (.inr rfl) ?_
 refine cI hb trivial (.inr rfl) ?_
 refine cI hf ⟨?_,trivial⟩ (.inl rfl) ?_
 ·repeat' first|refine Ai ?_ ?_|exact rfl|exact trivial|exact Ei _ rfl|refine lN ?_|refine bS ?_|fail
 refine cI hn ⟨fL (bS 5 true 6 7).enc,trivial⟩ (.inr rfl) ?_
 refine cI hs1 ⟨fL (bS 3 true 4 7).enc,fL (bS 5 true 6 7).enc,trivial⟩ (.inl rfl) ?_
 refine Ei 0 (Ei (eI 1) (Ai rfl (Ai rfl ?_)))
 refine cI hb trivial (.inr rfl) ?_
 refine cI hs2 ⟨fL (bS 1 false 2 7).enc,fL (bS 3 true 4 7).enc,trivial⟩ (.inl rfl) ?_
 refine Ei [] (Ai rfl (Ai ?_ ?_))
 all_goals repeat' first|refine Ai ?_ ?_|exact rfl|exact trivial|exact Ei _ rfl|refine lN ?_|refine bS ?_|fail
theorem loopNormalizes_ct (a:List GCard) (s:GState) (ha:a.length*176≤limB) (ma:∀ y∈a,GCard.ok y) (hs:s.ok):Ct Tryz.prog 3 [.c (.t (.sl 17 (a.map GCard.enc))),.agg (s.enc.map .t)] (AV.b true) [] true:=by
 refine Ct.lit (b:=false) ?_ rfl
 obtain ⟨r,hr,hfit⟩:=fits50 a s ha ma hs
 cases r with
 | false=>
  refine ct_of Tryz.func3 rfl (enters_of Tryz.func3 (by kernel_rfl) rfl) tabOk (by kernel_rfl) rfl rfl rfl rfl fun w0 O _=>Tp.run [2,3] ?_
  refine cI hfit ⟨rfl,fL s.enc,trivial⟩ (.inl rfl) ?_
  refine Tp.run [] ?_
  refine cI alive50 trivial (.inl rfl) ?_
  refine Ei [] (Ai rfl (Ai ?_ ?_))
  all_goals repeat' first|refine Ai ?_ ?_|exact rfl|exact trivial|exact Ei _ rfl|refine lN ?_|refine bS ?_|fail
 | true=>
  have N:=(hr rfl).nok hs
  have h1:=normL_ct s N
  have h2:=normQ_ct s N
  have h3:=q26eq_ct (normM s) (normM s) (normM_ok hs) (normM_ok hs)
  rw [eqD_t rfl] at h3
  generalize normM s=n at h1 h2 h3
  refine ct_of Tryz.func3 rfl (enters_of Tryz.func3 (by kernel_rfl) rfl) tabOk (by kernel_rfl) rfl rfl rfl rfl fun w0 O _=>Tp.run [2,3] ?_
  refine cI hfit ⟨rfl,fL s.enc,trivial⟩ (.inl rfl) ?_
  refine Tp.run [] ?_
  refine cI h1 ⟨fL s.enc,trivial⟩ (.inr rfl) ?_
  refine cI h2 ⟨fL s.enc,trivial⟩ (.inr rfl) ?_
  refine cI h3 ⟨fL n.enc,fL n.enc,trivial⟩ (.inl rfl) ?_
  refine cI alive50 trivial (.inl rfl) ?_
  refine Ei [] (Ai rfl (Ai ?_ ?_))
  all_goals repeat' first|refine Ai ?_ ?_|exact rfl|exact trivial|exact Ei _ rfl|refine lN ?_|refine bS ?_|fail
theorem eqD_symm {α:Type} (x y:α):eqD x y=eqD y x:=by
 by_cases h:x=y
 ·rw [eqD_t h,eqD_t h.symm]
 ·rw [eqD_f h,eqD_f fun e=>h e.symm]
theorem loopSame_ct (a:List GCard) (s t:GState) (ha:a.length*176≤limB) (ma:∀ y∈a,GCard.ok y) (hs:s.ok) (ht:t.ok):Ct Tryz.prog 4 [.c (.t (.sl 17 (a.map GCard.enc))),.agg (s.enc.map .t),.agg (t.enc.map .t)] (AV.b true) [] true:=by
 refine Ct.lit (b:=false) ?_ rfl
 obtain ⟨r,hr,hfit⟩:=fits50 a s ha ma hs
 obtain ⟨r2,hr2,hfit2⟩:=fits50 a t ha ma ht
 cases r with
 | false=>
  refine ct_of Tryz.func4 rfl (enters_of Tryz.func4 (by kernel_rfl) rfl) tabOk (by kernel_rfl) rfl rfl rfl rfl fun w0 O _=>Tp.run [2,3] ?_
  refine cI hfit ⟨rfl,fL s.enc,trivial⟩ (.inl rfl) ?_
  refine Tp.run [] ?_
  refine cI alive50 trivial (.inl rfl) ?_
  refine Ei [] (Ai rfl (Ai ?_ ?_))
  all_goals repeat' first|refine Ai ?_ ?_|exact rfl|exact trivial|exact Ei _ rfl|refine lN ?_|refine bS ?_|fail
 | true=>
  cases r2 with
  | false=>
   refine ct_of Tryz.func4 rfl (enters_of Tryz.func4 (by kernel_rfl) rfl) tabOk (by kernel_rfl) rfl rfl rfl rfl fun w0 O _=>Tp.run [2,3] ?_
   refine cI hfit ⟨rfl,fL s.enc,trivial⟩ (.inl rfl) ?_
   refine cI hfit2 ⟨rfl,fL t.enc,trivial⟩ (.inl rfl) ?_
   refine Tp.run [] ?_
   refine cI alive50 trivial (.inl rfl) ?_
   refine Ei [] (Ai rfl (Ai ?_ ?_))
   all_goals repeat' first|refine Ai ?_ ?_|exact rfl|exact trivial|exact Ei _ rfl|refine lN ?_|refine bS ?_|fail
  | true=>
   have N:=(hr rfl).nok hs
   have N2:=(hr2 rfl).nok ht
   have h1:=sameL_ct s t N N2
   have h2:=sameR_ct s t N N2
   have h3:=sameL_ct t s N2 N
   have h4:=sameL_ct s s N N
   rw [eqD_t rfl] at h4
   rw [eqD_symm] at h3
   generalize eqD (normM s) (normM t)=b at h1 h2 h3
   refine ct_of Tryz.func4 rfl (enters_of Tryz.func4 (by kernel_rfl) rfl) tabOk (by kernel_rfl) rfl rfl rfl rfl fun w0 O _=>Tp.run [2,3] ?_
   refine cI hfit ⟨rfl,fL s.enc,trivial⟩ (.inl rfl) ?_
   refine cI hfit2 ⟨rfl,fL t.enc,trivial⟩ (.inl rfl) ?_
   refine Tp.run [] ?_
   refine cI h1 ⟨fL s.enc,fL t.enc,trivial⟩ (.inl rfl) ?_
   refine cI h2 ⟨fL s.enc,fL t.enc,trivial⟩ (.inl rfl) ?_
   cases b with
   | false=>
    refine cI h3 ⟨fL t.enc,fL s.enc,trivial⟩ (.inl rfl) ?_
    refine cI h1 ⟨fL s.enc,fL t.enc,trivial⟩ (.inl rfl) ?_
    refine cI h4 ⟨fL s.enc,fL s.enc,trivial⟩ (.inl rfl) ?_
    refine cI alive50 trivial (.inl rfl) ?_
    refine Ei [] (Ai rfl (Ai ?_ ?_))
    all_goals repeat' first|refine Ai ?_ ?_|exact rfl|exact trivial|exact Ei _ rfl|refine lN ?_|refine bS ?_|fail
   | true=>
    refine cI h3 ⟨fL t.enc,fL s.enc,trivial⟩ (.inl rfl) ?_
    refine cI h1 ⟨fL s.enc,fL t.enc,trivial⟩ (.inl rfl) ?_
    refine cI h4 ⟨fL s.enc,fL s.enc,trivial⟩ (.inl rfl) ?_
    refine cI alive50 trivial (.inl rfl) ?_
    refine Ei [] (Ai rfl (Ai ?_ ?_))
    all_goals repeat' first|refine Ai ?_ ?_|exact rfl|exact trivial|exact Ei _ rfl|refine lN ?_|refine bS ?_|fail
theorem loopFinds_ct (a:List GCard) (l:List GState) (ha:a.length*176≤limB) (ma:∀ y∈a,GCard.ok y) (hl:l.length*280≤limB) (ml:∀ y∈l,GState.ok y):Ct Tryz.prog 5 [.c (.t (.sl 17 (a.map GCard.enc))),.c (.t (.sl 19 (l.map GState.enc)))] (AV.b true) [] true:=by
 refine Ct.lit (b:=false) ?_ rfl
 refine ct_of Tryz.func5 rfl (enters_of Tryz.func5 (by kernel_rfl) rfl) tabOk (by kernel_rfl) rfl rfl rfl rfl fun w0 O _=>Tp.run [2,3,9] ?_
 refine cS (fun h6=>?_) (fun h6=>?_)
 ·refine Tp.run [] ?_
  refine cI alive50 trivial (.inl rfl) ?_
  refine Ei [] (Ai rfl (Ai ?_ ?_))
  all_goals repeat' first|refine Ai ?_ ?_|exact rfl|exact trivial|exact Ei _ rfl|refine lN ?_|refine bS ?_|fail
 have h6:=of_decide_eq_false h6
 have hl6:l.length≤6:=by
  have h6:¬ (((l.map GState.enc).length:Nat):Int) > 6:=h6
  rw [Lm] at h6
  omega
 refine Tp.run [9] ?_
 refine Tp.loop (fun k:Nat=>⟨[(0,.c (.t (.sl 17 (a.map GCard.enc)))),(1,.c (.t (.sl 19 (l.map GState.enc)))),(17,.c (.t (.sl 19 (l.map GState.enc)))),(18,AV.i (l.map GState.enc).length),(19,AV.i k)],[],[],10000⟩) (fun k=>k≤l.length∧∀ j (hj:j < l.length),j < k→NOk l[j]) (fun k=>l.length - k) 0 ?_ ⟨Nat.zero_le _,fun j _ hj=>absurd hj (Nat.not_lt_zero j)⟩ ?_
 ·refine wk_of [] rfl rfl ?_ ?_ ?_
  all_goals repeat' first|refine Ai ?_ ?_|exact rfl|exact trivial|exact Ei _ rfl|refine lN ?_|refine bS ?_|fail
 rintro k ⟨hk,hn⟩
 refine Tp.run [5,7,8,9] ?_
 refine cS (fun h=>?_) (fun h=>?_)
 ·have hlt:k < l.length:=len_lt h
  have hks:l[k].ok:=ml _ (List.getElem_mem hlt)
  obtain ⟨r,hr,hfit⟩:=fits50 a l[k] ha ma hks
  refine Tp.run [7,8,9] ?_
  refine Ei k (Ei (l[k].enc) (Ai rfl (Ai (map_get _ _ k hlt) ?_)))
  refine cI hfit ⟨rfl,fL l[k].enc,trivial⟩ (.inl rfl) ?_
  cases r with
  | false=>
   refine Tp.run [] ?_
   refine cI alive50 trivial (.inl rfl) ?_
   refine Ei [] (Ai rfl (Ai ?_ ?_))
   all_goals repeat' first|refine Ai ?_ ?_|exact rfl|exact trivial|exact Ei _ rfl|refine lN ?_|refine bS ?_|fail
  | true=>
   have N:=(hr rfl).nok hks
   refine Tp.run [] ?_
   refine Ei (k+1) (Ai ⟨show k+1≤_ by omega,fun j hj hjk=>?_⟩ (Ai (show l.length - (k+1) < l.length - k by omega) ?_))
   ·by_cases e:j=k
    ·subst e;exact N
    ·exact hn j hj (by omega)
   refine wk_of [] rfl rfl ?_ ?_ ?_
   ·repeat' first|refine Ai ?_ ?_|exact rfl|exact trivial|exact Ei _ rfl|refine lN ?_|refine bS ?_|fail
    exact succ_eq k hlt 280 (by decide) hl
   all_goals repeat' first|refine Ai ?_ ?_|exact rfl|exact trivial|exact Ei _ rfl|refine lN ?_|refine bS ?_|fail
 ·have hk2:k=l.length:=len_ge h hk
  have hall:∀ s∈l,NOk s:=fun s hs=>by
   obtain ⟨j,hj,rfl⟩:=List.mem_iff_getElem.1 hs
   exact hn j hj (by omega)
  have h1:=findL_ct l (by omega) hall
  have h2:=findR_ct l (by omega) hall
  obtain ⟨⟨i,j,b⟩,hM⟩:∃ M,fndF (l.map normM)=M:=⟨_,rfl⟩
  rw [hM] at h1 h2
  refine Tp.run [] ?_
  refine cI h1 ⟨rfl,trivial⟩ (.inl rfl) ?_
  refine cI h2 ⟨rfl,trivial⟩ (.inl rfl) ?_
  refine cond_t (beq_self_eq_true _) ?_
  refine cond_t (beq_self_eq_true _) ?_
  cases b with
  | false=>
   refine cI alive50 trivial (.inl rfl) ?_
   refine Ei [] (Ai rfl (Ai ?_ ?_))
   all_goals repeat' first|refine Ai ?_ ?_|exact rfl|exact trivial|exact Ei _ rfl|refine lN ?_|refine bS ?_|fail
  | true=>
   refine cI alive50 trivial (.inl rfl) ?_
   refine Ei [] (Ai rfl (Ai ?_ ?_))
   all_goals repeat' first|refine Ai ?_ ?_|exact rfl|exact trivial|exact Ei _ rfl|refine lN ?_|refine bS ?_|fail
end Go.Proofs.YtpibcdnagnjokaaGreat
end
section
namespace Go.Proofs.YtpibcdnagnjokaaGreat
open Go Go.ChangeShapes Go.WideShapes Go.ChangeAt Go.RowKit Go.Sort Cg
section
theorem own:ownKnob Tryz.prog.godebug=none:=by kernel_rfl
theorem laidOut:laidOutB Tryz.prog=true:=by kernel_rfl
theorem arg_of {H:Type} {enc:TypeId × Value→H} {W:World} {v:Value} {d:DataW H} {ps:List MemPlace} {r:Reach} {b0:Nat} {t:TypeId} {ks:List K} (hu:∃ fs,Tryz.prog.underlying t=some (.struct fs)) (hs:shapeOf Tryz.prog 12 t=some ks) (hv:Value.okWide Tryz.prog W r b0 t v)
  (h:DataW.Trod enc Tryz.prog W 0 (fun _=>true) true t v d ps) (hw:wok Tryz.prog t d):∃ cs es,v=.agg cs.toArray∧RdL (fun _=>True) reachBytes W ks cs es:=by
 obtain ⟨fs,hu⟩:=hu
 unfold Value.okWide at hv
 rw [hu] at hv
 obtain ⟨cs,rfl,_,_⟩:=hv
 obtain ⟨fuel,hf⟩:=h
 obtain ⟨es,he⟩:=rd_of 12 t ks hs fuel cs.toList (d,ps) hf hw
 exact ⟨cs.toList,es,rfl,he⟩
open Classical in
noncomputable def envOf (F:Nat→Prop):Env:=⟨fun b=>if F b then .cold else .non,fun _=>0,fun _ _=>undef⟩
theorem envOf_cold {F:Nat→Prop} {b:Nat}:(envOf F).rl b=.cold↔F b:=by
 unfold envOf
 simp only
 split
 ·simp_all
 ·simp_all
theorem envOf_F (F:Nat→Prop):(envOf F).F=F:=funext fun _=>propext envOf_cold
theorem rtl_env {F:Nat→Prop} {w:World} {vs:List Value} {ts:List Tr} (h:RTL F w vs ts):A2 (RC (envOf F) w) vs (ts.map .t):=rtl_a2 (by rw [envOf_F];exact h)
theorem ag_env {F:Nat→Prop} {w:World} {cs:List Value} {ts:List Tr} (h:RTL F w cs ts):R1 (envOf F) w (.agg cs.toArray) (.agg (ts.map .t)):=⟨cs,rfl,rtl_env h⟩
theorem bool_arg {E0:Env} {w:World} {v:Value} {b:Bool} (h:R1 E0 w v (AV.b b)):v=.bool b:=by
 have h:RT E0.F w v (.lit (.bool b)):=h
 cases h
 rfl
theorem law_of_ct {P:Program} {f:FuncId} {ax:List AV} {b:Bool} (h:Ct P f ax (AV.b true) [] b) {w:World} {vs:List Value} {E0:Env} (ha:A2 (R1 E0 w) vs ax):Calls P f vs.toArray w fun e w'=>e=.returned (.bool true)∧Below w.heap.size w w':=by
 refine (h.run w vs E0 ha).mono ?_
 rintro e w' ⟨v,rfl,hb,E,hr,_⟩
 obtain rfl:=bool_arg (E0:=E) (w:=w') hr
 exact ⟨rfl,hb⟩
theorem rd_lim {F:Nat→Prop} {w:World} {ks:List K} {cs:List Value} {es:List D} (h:RdL F reachBytes w ks cs es):RdL F limB w ks cs es:=h.frame (by decide) (Nat.le_refl _) (fun _ _ _=>rfl) (fun _ h _=>h)
end
end Go.Proofs.YtpibcdnagnjokaaGreat
end
section
namespace Go.Proofs.YtpibcdnagnjokaaGreat
open Go Cg Go.RowKit Go.Sort
open Go.ChangeShapes Go.WideShapes Go.ChangeAt in
theorem arg_sl {H:Type} {enc:TypeId × Value→H} {W:World} {v:Value} {d:DataW H} {ps:List MemPlace} {t:TypeId} {ks:List K} (hs:shapeOf Tryz.prog 12 t=some ks) (hv:∃ a l c,v=.slice a l c)
  (h:DataW.Trod enc Tryz.prog W 0 (fun _=>true) true t v d ps) (hw:wok Tryz.prog t d):∃ es,RdL (fun _=>True) reachBytes W ks [v] es:=by
 obtain ⟨a,l,c,rfl⟩:=hv
 obtain ⟨fuel,hf⟩:=h
 exact rd_of 12 t ks hs fuel _ (d,ps) hf hw
theorem shCards:shapeOf Tryz.prog 12 22=some [.sl GCard.ks 176]:=by kernel_rfl
theorem shStates:shapeOf Tryz.prog 12 37=some [.sl GState.ks 280]:=by kernel_rfl
theorem cards_open {F:Nat→Prop} {w:World} {v:Value} {es:List D} (h:RdL F reachBytes w [.sl GCard.ks 176] [v] es):∃ l:List GCard,l.length*176≤limB∧(∀ y∈l,GCard.ok y)∧R1 (envOf F) w v (.c (.t (.sl 17 (l.map GCard.enc)))):=by
 obtain ⟨ts,h3,_,h5⟩:=rdL_rt (rd_lim h)
 obtain ⟨_,_,rfl,k7,q7⟩:=fitS_cons.1 h3
 obtain ⟨_,rfl,hb7,hc7⟩:=fitK_sl.1 k7
 obtain ⟨l7,rfl,ho7⟩:=fitS_list GCard.of_fit hc7
 rw [Lm] at hb7
 obtain rfl:=fitS_nil.1 q7
 refine ⟨l7,hb7,ho7,?_⟩
 cases rtl_env h5 with
 | cons h1 _=>exact h1
theorem states_open {F:Nat→Prop} {w:World} {v:Value} {es:List D} (h:RdL F reachBytes w [.sl GState.ks 280] [v] es):∃ l:List GState,l.length*280≤limB∧(∀ y∈l,GState.ok y)∧R1 (envOf F) w v (.c (.t (.sl 19 (l.map GState.enc)))):=by
 obtain ⟨ts,h3,_,h5⟩:=rdL_rt (rd_lim h)
 obtain ⟨_,_,rfl,k7,q7⟩:=fitS_cons.1 h3
 obtain ⟨_,rfl,hb7,hc7⟩:=fitK_sl.1 k7
 obtain ⟨l7,rfl,ho7⟩:=fitS_list GState.of_fit hc7
 rw [Lm] at hb7
 obtain rfl:=fitS_nil.1 q7
 refine ⟨l7,hb7,ho7,?_⟩
 cases rtl_env h5 with
 | cons h1 _=>exact h1
theorem state_open {F:Nat→Prop} {w:World} {cs:List Value} {es:List D} (h:RdL F reachBytes w GState.ks cs es):∃ s:GState,s.ok∧R1 (envOf F) w (.agg cs.toArray) (.agg (s.enc.map .t)):=by
 obtain ⟨ts,h3,_,h5⟩:=rdL_rt (rd_lim h)
 obtain ⟨a,h6,rfl⟩:=GState.of_fit ts h3
 exact ⟨a,h6,ag_env h5⟩
abbrev Cs (a:List GCard):AV:=.c (.t (.sl 17 (a.map GCard.enc)))
abbrev Ag (s:GState):AV:=.agg (s.enc.map .t)
abbrev Rd1 (w:World) (ks:List K) (cs:List Value) (es:List D):Prop:=RdL (fun _=>True) reachBytes w ks cs es
theorem law_cs {f:FuncId} {b:Bool} (hf:∀ (a:List GCard) (s:GState),a.length*176≤limB→(∀ y∈a,GCard.ok y)→s.ok→Ct Tryz.prog f [Cs a,Ag s] (AV.b true) [] b) (v0:Value) (es0:List D) (cs1:List Value) (es1:List D) (w:World) (h0:Rd1 w [.sl GCard.ks 176] [v0] es0) (h1:Rd1 w GState.ks cs1 es1):Calls Tryz.prog f #[v0,.agg cs1.toArray] w fun e w'=>e=.returned (.bool true)∧Below w.heap.size w w':=by
 obtain ⟨a,ha,ma,ra⟩:=cards_open h0
 obtain ⟨s,hs,rs⟩:=state_open h1
 exact law_of_ct (hf a s ha ma hs) (.cons ra (.cons rs .nil))
theorem law_css {f:FuncId} {b:Bool} (hf:∀ (a:List GCard) (s t:GState),a.length*176≤limB→(∀ y∈a,GCard.ok y)→s.ok→t.ok→Ct Tryz.prog f [Cs a,Ag s,Ag t] (AV.b true) [] b) (v0:Value) (es0:List D) (cs1:List Value) (es1:List D) (cs2:List Value) (es2:List D) (w:World) (h0:Rd1 w [.sl GCard.ks 176] [v0] es0) (h1:Rd1 w GState.ks cs1 es1) (h2:Rd1 w GState.ks cs2 es2):Calls Tryz.prog f #[v0,.agg cs1.toArray,.agg cs2.toArray] w fun e w'=>e=.returned (.bool true)∧Below w.heap.size w w':=by
 obtain ⟨a,ha,ma,ra⟩:=cards_open h0
 obtain ⟨s,hs,rs⟩:=state_open h1
 obtain ⟨t,ht,rt⟩:=state_open h2
 exact law_of_ct (hf a s t ha ma hs ht) (.cons ra (.cons rs (.cons rt .nil)))
theorem law_cl {f:FuncId} {b:Bool} (hf:∀ (a:List GCard) (l:List GState),a.length*176≤limB→(∀ y∈a,GCard.ok y)→l.length*280≤limB→(∀ y∈l,GState.ok y)→Ct Tryz.prog f [Cs a,.c (.t (.sl 19 (l.map GState.enc)))] (AV.b true) [] b) (v0:Value) (es0:List D) (v1:Value) (es1:List D) (w:World) (h0:Rd1 w [.sl GCard.ks 176] [v0] es0) (h1:Rd1 w [.sl GState.ks 280] [v1] es1):Calls Tryz.prog f #[v0,v1] w fun e w'=>e=.returned (.bool true)∧Below w.heap.size w w':=by
 obtain ⟨a,ha,ma,ra⟩:=cards_open h0
 obtain ⟨l,hl,ml,rl⟩:=states_open h1
 exact law_of_ct (hf a l ha ma hl ml) (.cons ra (.cons rl .nil))
theorem law_csn {f:FuncId} {b:Bool} (hf:∀ (a:List GCard) (s:GState) (n:Int),a.length*176≤limB→(∀ y∈a,GCard.ok y)→s.ok→Ct Tryz.prog f [Cs a,Ag s,.c (.t (.lit (.int .u8 n)))] (AV.b true) [] b) (v0:Value) (es0:List D) (cs1:List Value) (es1:List D) (n:Int) (w:World) (h0:Rd1 w [.sl GCard.ks 176] [v0] es0) (h1:Rd1 w GState.ks cs1 es1):Calls Tryz.prog f #[v0,.agg cs1.toArray,.int .u8 n] w fun e w'=>e=.returned (.bool true)∧Below w.heap.size w w':=by
 obtain ⟨a,ha,ma,ra⟩:=cards_open h0
 obtain ⟨s,hs,rs⟩:=state_open h1
 exact law_of_ct (hf a s n ha ma hs) (.cons ra (.cons rs (.cons (RT.lit rfl) .nil)))
end Go.Proofs.YtpibcdnagnjokaaGreat
end
section
namespace Go.Proofs.YtpibcdnagnjokaaGreat
open Go
theorem pf_1:(laidOutB Tryz.prog)=true:=by kernel_rfl
theorem pf_2:(mapsRowed Tryz.prog)=true:=by kernel_rfl
theorem pf_6:((Tryz.prog.stops==[]))=true:=by kernel_rfl
theorem pf_8:((Tryz.prog.stopKnobs==[]))=true:=by kernel_rfl
theorem pf_24:(Tryz.prog.stopsHeard)=true:=by kernel_rfl
theorem pf_25:(Tryz.prog.mayEnter)=true:=by kernel_rfl
theorem band {a b:Bool} (h1:a=true) (h2:b=true):(a&&b)=true:=by rw [h1,h2];rfl
end Go.Proofs.YtpibcdnagnjokaaGreat
end
section
namespace Go.Proofs.YtpibcdnagnjokaaGreat
open Go Cg Go.RowKit Go.Sort
def lsP (p:GPlayer):List Int × List Int × List Int:=(p.library,p.hand,p.graveyard)
def varS (s:GState) (pl:List GPlayer) (ob:List GObject) (st:Int) (bg:Bool):GState:={ s with players:=pl,objects:=ob,step:=st,begun:=bg }
theorem mem_ls {l m:List GPlayer} (h:l.map lsP=m.map lsP) {p:GPlayer} (hp:p∈l):∃ q∈m,q.library=p.library∧q.hand=p.hand∧q.graveyard=p.graveyard:=by
 have:lsP p∈m.map lsP:=h▸List.mem_map_of_mem hp
 obtain ⟨q,hq,e⟩:=List.mem_map.1 this
 unfold lsP at e
 injection e with e1 e2
 injection e2 with e2 e3
 exact ⟨q,hq,e1,e2,e3⟩
theorem len_ls {l m:List GPlayer} (h:l.map lsP=m.map lsP):l.length=m.length:=by
 have:=congrArg List.length h
 simpa using this
theorem var_ok {s:GState} (h:s.ok) {pl:List GPlayer} {ob:List GObject} (st:Int) (bg:Bool) (hp:pl.map lsP=s.players.map lsP) (ho:ob.length=s.objects.length):(varS s pl ob st bg).ok:=by
 obtain ⟨h0,h1,h2,h3,h4⟩:=h
 refine ⟨?_,fun y hy=>?_,?_,fun _ _=>trivial,h4⟩
 ·show pl.length*152≤limB
  rw [len_ls hp]
  exact h0
 ·obtain ⟨q,hq,e1,e2,e3⟩:=mem_ls hp hy
  obtain ⟨a,b,c⟩:=h1 q hq
  exact ⟨e1▸a,e2▸b,e3▸c⟩
 ·show ob.length*128≤limB
  rw [ho]
  exact h2
theorem fold_ls {l m:List GPlayer} (h:l.map lsP=m.map lsP) (o:List Int):l.foldl plIds o=m.foldl plIds o:=by
 have e:∀ l:List GPlayer,l.foldl plIds o=(l.map lsP).foldl (fun o (q:List Int × List Int × List Int)=>onceM (onceM (onceM o q.1) q.2.1) q.2.2) o:=fun l=>by
  rw [List.foldl_map]
  rfl
 rw [e l,e m,h]
theorem NOk.var {s:GState} (h:NOk s) {pl:List GPlayer} {ob:List GObject} (st:Int) (bg:Bool) (hp:pl.map lsP=s.players.map lsP) (ho:ob.length=s.objects.length):NOk (varS s pl ob st bg):=by
 refine ⟨var_ok h.ok st bg hp ho,⟨?_,h.sml.bf,h.sml.ex,?_,fun p hpp=>?_,h.sml.st,h.sml.co⟩,h.con,?_⟩
 ·show ob.length≤300
  rw [ho]
  exact h.sml.ob
 ·show pl.length≤10
  rw [len_ls hp]
  exact h.sml.np
 ·obtain ⟨q,hq,e1,e2,e3⟩:=mem_ls hp hpp
  have:=h.sml.pl q hq
  rw [e1,e2,e3] at this
  exact this
 ·show ∀ x∈s.stack.foldl stIds (pl.foldl plIds (onceM (onceM [] s.battlefield) s.exile)),0 < x
  rw [fold_ls hp]
  exact h.pos
theorem norm_pl {β:Type} (f:GPlayer→β) (hf:∀ ρ p,f (plN ρ p)=f p) (s:GState):(normM s).players.map f=s.players.map f:=by
 show (s.players.map (plN _)).map f=_
 rw [List.map_map]
 exact List.map_congr_left fun p _=>hf _ p
theorem norm_tap (s:GState):(normM s).objects.countP (fun o=>o.tapped)=s.objects.countP fun o=>o.tapped:=by
 show (insL leO [] (s.objects.map (obN _ _))).countP _=_
 rw [(insL_perm leO (s.objects.map (obN _ _)) []).countP_eq,List.nil_append,List.countP_map]
 rfl
theorem var_pl {s:GState} {pl:List GPlayer} {ob:List GObject} {st:Int} {bg:Bool} {β:Type} (f:GPlayer→β) (hf:∀ ρ p,f (plN ρ p)=f p) (h:s.players.map f≠pl.map f):¬ normM s=normM (varS s pl ob st bg):=fun e=>by
 have:=congrArg (fun t:GState=>t.players.map f) e
 simp only [norm_pl f hf] at this
 exact h this
theorem var_st {s:GState} {pl:List GPlayer} {ob:List GObject} {st:Int} {bg:Bool} (h:s.step≠st):¬ normM s=normM (varS s pl ob st bg):=fun e=>h (congrArg GState.step e)
theorem var_bg {s:GState} {pl:List GPlayer} {ob:List GObject} {st:Int} {bg:Bool} (h:s.begun≠bg):¬ normM s=normM (varS s pl ob st bg):=fun e=>h (congrArg GState.begun e)
theorem var_tp {s:GState} {pl:List GPlayer} {ob:List GObject} {st:Int} {bg:Bool} (h:s.objects.countP (fun o=>o.tapped)≠ob.countP fun o=>o.tapped):¬ normM s=normM (varS s pl ob st bg):=fun e=>by
 have:=congrArg (fun t:GState=>t.objects.countP fun o=>o.tapped) e
 simp only [norm_tap] at this
 exact h this
theorem set_ne {α β:Type} {f:α→β} {l:List α} {i:Nat} {x:α} (hi:i < l.length) (h:f l[i]≠f x):l.map f≠(l.set i x).map f:=fun e=>by
 have:=congrArg (fun m:List β=>m[i]?) e
 simp [hi] at this
 exact h this
theorem set_ls {l:List GPlayer} {i:Nat} {x:GPlayer} (hi:i < l.length) (h:lsP x=lsP l[i]):(l.set i x).map lsP=l.map lsP:=by
 rw [List.map_set,h]
 have:(l.map lsP)[i]'(by rw [Lm];exact hi)=lsP l[i]:=by simp
 rw [← this]
 exact List.set_getElem_self _
theorem set_cnt {α:Type} {p:α→Bool} {l:List α} {i:Nat} {x:α} (hi:i < l.length) (h:p x=!p l[i]):l.countP p≠(l.set i x).countP p:=by
 rw [List.set_eq_take_append_cons_drop,if_pos hi,List.countP_append,List.countP_cons]
 have e:l.countP p=(l.take i).countP p+((l.drop (i+1)).countP p+if p l[i]=true then 1 else 0):=by
  conv=>lhs;rw [← List.take_append_drop i l,List.drop_eq_getElem_cons hi]
  rw [List.countP_append,List.countP_cons]
 rw [e,h]
 cases p l[i] <;> simp
theorem loopTells_ct (a:List GCard) (s:GState) (n:Int) (ha:a.length*176≤limB) (ma:∀ y∈a,GCard.ok y) (hs:s.ok):Ct Tryz.prog 6 [.c (.t (.sl 17 (a.map GCard.enc))),.agg (s.enc.map .t),.c (.t (.lit (.int .u8 n)))] (AV.b true) [] true:=by
 refine Ct.lit (b:=false) ?_ rfl
 obtain ⟨r,hr,hfit⟩:=fits50 a s ha ma hs
 cases r with
 | false=>
  refine ct_of Tryz.func6 rfl (enters_of Tryz.func6 (by kernel_rfl) rfl) tabOk (by kernel_rfl) rfl rfl rfl rfl fun w0 O _=>Tp.run [2,3] ?_
  refine cI hfit ⟨rfl,fL s.enc,trivial⟩ (.inl rfl) ?_
  refine Tp.run [] ?_
  refine cI alive50 trivial (.inl rfl) ?_
  refine Ei [] (Ai rfl (Ai ?_ ?_))
  all_goals repeat' first|refine Ai ?_ ?_|exact rfl|exact trivial|exact Ei _ rfl|refine lN ?_|refine bS ?_|fail
 | true=>
  have N:=(hr rfl).nok hs
  have V:=val_of (hr rfl).is
  have hp0:0 < s.players.length:=by have:=V.npl;omega
  have hp1:1 < s.players.length:=by have:=V.npl;omega
  have hcp:=copy_ct s hs
  refine ct_of Tryz.func6 rfl (enters_of Tryz.func6 (by kernel_rfl) rfl) tabOk (by kernel_rfl) rfl rfl rfl rfl fun w0 O _=>Tp.run [2,3,5,6,7,11,12,13,14,15,16,17,18] ?_
  refine cI hfit ⟨rfl,fL s.enc,trivial⟩ (.inl rfl) ?_
  refine Ei 0 (Ei (s.players[0].enc) (Ai rfl (Ai (map_get _ _ 0 hp0) ?_)))
  refine cS (fun hlf=>?_) (fun hlf=>?_)
  ·refine Tp.run [] ?_
   refine cI alive50 trivial (.inl rfl) ?_
   refine Ei [] (Ai rfl (Ai ?_ ?_))
   all_goals repeat' first|refine Ai ?_ ?_|exact rfl|exact trivial|exact Ei _ rfl|refine lN ?_|refine bS ?_|fail
  have hlf:=of_decide_eq_false hlf
  refine Tp.run [] ?_
  refine cI hcp ⟨fL s.enc,trivial⟩ (.inr rfl) ?_
  refine Ai rfl (Ai (by decide) ?_)
  refine cS (fun h=>?_) (fun h=>?_)
  ·have hno:¬ normM s=normM (varS s (s.players.set 0 { s.players[0] with life:=IntKind.i64.wrap (s.players[0].life+1) }) s.objects s.step s.begun):=var_pl GPlayer.life (fun _ _=>rfl) (set_ne hp0 (by
    have:=V.ply s.players[0] (List.getElem_mem hp0)
    unfold plyN inM at this
    simp only [Bool.and_eq_true,decide_eq_true_eq] at this
    show s.players[0].life≠IntKind.i64.wrap (s.players[0].life+1)
    rw [IntKind.wrap_i64]
    have hlf:¬ s.players[0].life≥1000000:=hlf
    omega))
   have N2:=N.var s.step s.begun (set_ls (x:={ s.players[0] with life:=IntKind.i64.wrap (s.players[0].life+1) }) hp0 rfl) rfl
   have hsm:=sameL_ct _ _ N N2
   rw [eqD_f hno] at hsm
   have hpm:0 < (s.players.map GPlayer.enc).length:=by rw [Lm];exact hp0
   refine Tp.run [] ?_
   refine Ei 0 (Ai rfl (Ai hpm ?_))
   refine Ei (s.players[0].enc) (Ei _ (Ai (map_get _ _ 0 hp0) (Ai rfl ?_)))
   refine Ei 0 (Ai rfl (Ai hpm ?_))
   refine Ei (s.players[0].enc) (Ai (map_get _ _ 0 hp0) (Ai (Nb rfl) ?_))
   refine Tp.run [] ?_
   refine cI hsm ⟨fL s.enc,?_,trivial⟩ (.inl rfl) ?_
   ·repeat' first|refine Ai ?_ ?_|exact rfl|exact trivial|exact Ei _ rfl|refine lN ?_|refine bS ?_|fail
    exact congrArg (Tr.sl 14) List.map_set
   refine cI alive50 trivial (.inl rfl) ?_
   refine Ei [] (Ai rfl (Ai ?_ ?_))
   all_goals repeat' first|refine Ai ?_ ?_|exact rfl|exact trivial|exact Ei _ rfl|refine lN ?_|refine bS ?_|fail
  refine Tp.run [13,14,15,16,17,5] ?_
  refine cS (fun h=>?_) (fun h=>?_)
  ·have hno:¬ normM s=normM (varS s s.players s.objects ((IntKind.i64.wrap (s.step+1)).tmod 11) s.begun):=var_st (by
    have:=V.sc
    unfold scM inM at this
    simp only [Bool.and_eq_true,decide_eq_true_eq] at this
    obtain ⟨_,⟨h1,h2⟩,_⟩:=this
    rw [show IntKind.i64.wrap (s.step+1)=s.step+1 by rw [IntKind.wrap_i64];omega]
    by_cases e:s.step=10
    ·rw [e];decide
    ·rw [Int.tmod_eq_emod_of_nonneg (by omega)]
     omega)
   have N2:=N.var ((IntKind.i64.wrap (s.step+1)).tmod 11) s.begun (pl:=s.players) (ob:=s.objects) rfl rfl
   have hsm:=sameL_ct _ _ N N2
   rw [eqD_f hno] at hsm
   refine Tp.run [] ?_
   refine Ai rfl (Ai (by decide) ?_)
   refine Tp.run [] ?_
   refine cI hsm ⟨fL s.enc,?_,trivial⟩ (.inl rfl) ?_
   ·repeat' first|refine Ai ?_ ?_|exact rfl|exact trivial|exact Ei _ rfl|refine lN ?_|refine bS ?_|fail
   refine cI alive50 trivial (.inl rfl) ?_
   refine Ei [] (Ai rfl (Ai ?_ ?_))
   all_goals repeat' first|refine Ai ?_ ?_|exact rfl|exact trivial|exact Ei _ rfl|refine lN ?_|refine bS ?_|fail
  refine Tp.run [15,16,17,5] ?_
  refine cS (fun h=>?_) (fun h=>?_)
  ·have hno:¬ normM s=normM (varS s s.players s.objects s.step (!s.begun)):=var_bg (by cases s.begun <;> decide)
   have N2:=N.var s.step (!s.begun) (pl:=s.players) (ob:=s.objects) rfl rfl
   have hsm:=sameL_ct _ _ N N2
   rw [eqD_f hno] at hsm
   refine Tp.run [] ?_
   refine Tp.run [] ?_
   refine cI hsm ⟨fL s.enc,?_,trivial⟩ (.inl rfl) ?_
   ·repeat' first|refine Ai ?_ ?_|exact rfl|exact trivial|exact Ei _ rfl|refine lN ?_|refine bS ?_|fail
   refine cI alive50 trivial (.inl rfl) ?_
   refine Ei [] (Ai rfl (Ai ?_ ?_))
   all_goals repeat' first|refine Ai ?_ ?_|exact rfl|exact trivial|exact Ei _ rfl|refine lN ?_|refine bS ?_|fail
  refine Tp.run [17,5] ?_
  refine cS (fun h=>?_) (fun h=>?_)
  ·have hno:¬ normM s=normM (varS s (s.players.set 1 { s.players[1] with failed:=!s.players[1].failed }) s.objects s.step s.begun):=var_pl GPlayer.failed (fun _ _=>rfl) (set_ne hp1 (by
    show s.players[1].failed≠!s.players[1].failed
    cases s.players[1].failed <;> decide))
   have N2:=N.var s.step s.begun (set_ls (x:={ s.players[1] with failed:=!s.players[1].failed }) hp1 rfl) rfl
   have hsm:=sameL_ct _ _ N N2
   rw [eqD_f hno] at hsm
   have hpm:1 < (s.players.map GPlayer.enc).length:=by rw [Lm];exact hp1
   refine Tp.run [] ?_
   refine Ei 1 (Ei (s.players[1].enc) (Ai rfl (Ai (map_get _ _ 1 hp1) ?_)))
   refine Ei 1 (Ai rfl (Ai hpm ?_))
   refine Ei (s.players[1].enc) (Ai (map_get _ _ 1 hp1) (Ai (Nb rfl) ?_))
   refine Tp.run [] ?_
   refine cI hsm ⟨fL s.enc,?_,trivial⟩ (.inl rfl) ?_
   ·repeat' first|refine Ai ?_ ?_|exact rfl|exact trivial|exact Ei _ rfl|refine lN ?_|refine bS ?_|fail
    exact congrArg (Tr.sl 14) List.map_set
   refine cI alive50 trivial (.inl rfl) ?_
   refine Ei [] (Ai rfl (Ai ?_ ?_))
   all_goals repeat' first|refine Ai ?_ ?_|exact rfl|exact trivial|exact Ei _ rfl|refine lN ?_|refine bS ?_|fail
  refine Tp.run [6,7] ?_
  refine cS (fun h=>?_) (fun h=>?_)
  ·refine Tp.run [] ?_
   refine cI alive50 trivial (.inl rfl) ?_
   refine Ei [] (Ai rfl (Ai ?_ ?_))
   all_goals repeat' first|refine Ai ?_ ?_|exact rfl|exact trivial|exact Ei _ rfl|refine lN ?_|refine bS ?_|fail
  have hbl:0 < s.battlefield.length:=by
   have h:(((((s.battlefield.map eI).length:Nat):Int))==0)=false:=h
   rw [Lm] at h
   have:¬ (s.battlefield.length:Int)=0:=by simpa using h
   omega
  obtain ⟨b,hbe⟩:∃ b,s.battlefield[0]=b:=⟨_,rfl⟩
  have hbm:b∈listM s 0 0:=by
   have:b∈s.battlefield:=hbe▸List.getElem_mem hbl
   simpa [listM] using this
  obtain ⟨o1,ho1,ho2,_⟩:=V.lst 0 0 b hbm
  have hfd:=find_ct s b hs.2.2.1
  rcases fidx_cases (fun o:GObject=>o.id==b) s.objects with ⟨_,_,e2⟩|⟨i,hi,_,e1,e2⟩
  ·exact absurd ho2 (by simpa using List.find?_eq_none.1 e2 o1 ho1)
  have hfm:findM s.objects b=s.objects[i]:=by unfold findM;rw [e2];rfl
  have hid:s.objects[i].id=b:=by simpa using List.find?_some e2
  rw [hfm] at hfd
  have hput:putM s { s.objects[i] with tapped:=!s.objects[i].tapped }=varS s s.players (s.objects.set i { s.objects[i] with tapped:=!s.objects[i].tapped }) s.step s.begun:=by
   unfold putM varS
   rw [put_hit s.objects { s.objects[i] with tapped:=!s.objects[i].tapped } i (by rw [show ({ s.objects[i] with tapped:=!s.objects[i].tapped }:GObject).id=b from hid];exact e1)]
  have hpt:=put_ct s { s.objects[i] with tapped:=!s.objects[i].tapped } hs
  rw [hput] at hpt
  have hno:¬ normM s=normM (varS s s.players (s.objects.set i { s.objects[i] with tapped:=!s.objects[i].tapped }) s.step s.begun):=var_tp (set_cnt hi rfl)
  have N2:=N.var s.step s.begun (pl:=s.players) (ob:=s.objects.set i { s.objects[i] with tapped:=!s.objects[i].tapped }) rfl (List.length_set ..)
  have hsm:=sameL_ct _ _ N N2
  rw [eqD_f hno] at hsm
  refine Tp.frz [] (Tp.run [] ?_)
  refine Ei 0 (Ei (eI b) (Ai rfl (Ai (by rw [← hbe];exact map_get _ _ 0 hbl) ?_)))
  refine cI hfd ⟨fL s.enc,rfl,trivial⟩ (.inl rfl) ?_
  refine cI hpt ⟨?_,?_,trivial⟩ (.inr rfl) ?_
  ·repeat' first|refine Ai ?_ ?_|exact rfl|exact trivial|exact Ei _ rfl|refine lN ?_|refine bS ?_|fail
  ·repeat' first|refine Ai ?_ ?_|exact rfl|exact trivial|exact Ei _ rfl|refine lN ?_|refine bS ?_|fail
  refine Tp.run [] ?_
  refine cI hsm ⟨fL s.enc,?_,trivial⟩ (.inl rfl) ?_
  ·repeat' first|refine Ai ?_ ?_|exact rfl|exact trivial|exact Ei _ rfl|refine lN ?_|refine bS ?_|fail
  refine cI alive50 trivial (.inl rfl) ?_
  refine Ei [] (Ai rfl (Ai ?_ ?_))
  all_goals repeat' first|refine Ai ?_ ?_|exact rfl|exact trivial|exact Ei _ rfl|refine lN ?_|refine bS ?_|fail
end Go.Proofs.YtpibcdnagnjokaaGreat
end
