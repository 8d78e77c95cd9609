/- Parts of the proof, joined: The program's lists: DeleteFunc, Without, Insert (in place); The program's lists of ids (Without); objects (New, Moved); one object behind a list (Insert); slices.Insert of one int, where the one-element list may have any capacity; printed by gen_r.py; slices.Insert of one int as a contract on two rows; The program's zones: put, remove; The program's zones: remove; printed by gen_m.py; Plain: what Move takes away and adds, zone by zone; The program's zones: Move, what all its walks share; printed by gen_v.py; The program's zones: Move to zone 0; printed by gen_v.py; The program's zones: Move to zone 1; printed by gen_v.py; The program's zones: Move to zone 2; printed by gen_v.py; The program's zones: Move to zone 3; printed by gen_v.py; The program's zones: Move to zone 4; printed by gen_v.py; The program's zones: Move, whole; The program's zones: Make; The program's act: find, enter; Chapter 6: shuffle of the program; The program's act: mark, change, by kinds of events; printed by gen_k.py; The program's act: move; The program's act: create, draw; The program's act: draw; Chapter 32: is an event possible (program and reference); The keyword Deadly (program and reference); small states; The program's act: Do, by kinds of events; printed by gen_d.py; Chapter 33: parts of an event (reference): life, draw, move, create; printed by gen_f.py; Chapter 33: the reference's object, by kinds of events; printed by gen_f.py; Chapter 33: Do of the reference, by kinds of events; printed by. -/
import Derived.Test.YtmloamomcbmfhaaGreatUD
import Derived.Test.YtmloamomcbmfhaaGreatRows
import Derived.ProofKit
import Derived.OpenShut
import Derived.ChangeOld
import Derived.ShutString
import Derived.ChangeSlices
import Derived.SizedLaws
import Derived.JoinedOf
import Derived.KernelRfl
set_option maxRecDepth 100000
set_option maxHeartbeats 4000000
section
namespace Go.Proofs.YtmloamomcbmfhaaGreat
open Go Cg Go.RowKit Go.Sort
theorem indexI_ct (l:List GItem) (q:GItem→Bool) (f:Nat) (caps:List (List Tr × Nat)) (hq:∀ o:GItem,Ct Tryz.prog f ((.agg (o.enc.map .t)) :: caps.map fun c=>.iptr c.1 c.2) (AV.b (q o)) [] true) (hl:l.length*824≤limB):Ct Tryz.prog 201 [.c (.t (.sl 94 (l.map GItem.enc))),.fnI f caps] (AV.i (fidx q l)) [] true:=by
 refine Ct.lit (b:=false) ?_ rfl
 refine ct_of Tryz.func201 rfl (enters_of Tryz.func201 (by kernel_rfl) rfl) tabOk (by kernel_rfl) rfl rfl rfl rfl fun w0 O _=>Tp.run [] ?_
 refine Tp.loop (fun k:Nat=>⟨[(0,.c (.t (.sl 94 (l.map GItem.enc)))),(1,.fnI f caps),(7,AV.i (l.map GItem.enc).length),(8,AV.i k)],[],[],10000⟩) (fun k=>k≤l.length∧∀ j (h:j < l.length),j < k→q l[j]=false) (fun k=>l.length - k) 0 ?_ ⟨Nat.zero_le _,fun j _ hj=>by omega⟩ ?_
 ·refine wk_of [] rfl rfl ?_ ?_ ?_
  all_goals repeat' first|refine Ai ?_ ?_|exact rfl|exact trivial|exact Ei _ rfl|refine lN ?_|refine bS ?_|fail
 rintro k ⟨hk,hno⟩
 refine Tp.run [5,6] ?_
 refine cS (fun h=>?_) (fun h=>?_)
 ·have hlt:=len_lt h
  refine Ei k (Ei (l[k].enc) (Ai rfl (Ai (map_get _ _ k hlt) ?_)))
  refine cI (hq l[k]) ⟨fL l[k].enc,fits_caps caps⟩ (.inl rfl) ?_
  refine cS (fun h=>?_) (fun h=>?_)
  ·refine Tp.run [] ?_
   refine Ei [] (Ai rfl (Ai trivial ?_))
   rw [fidx_hit _ _ k hlt h hno]
   exact rfl
  ·refine Tp.run [] ?_
   refine Ei (k+1) (Ai ⟨by omega,fun j hj hjk=>?_⟩ (Ai (show l.length - (k+1) < l.length - k by omega) ?_))
   ·by_cases e:j=k
    ·subst e;exact h
    ·exact hno j hj (by omega)
   refine wk_of [] rfl rfl ?_ ?_ ?_
   ·repeat' first|refine Ai ?_ ?_|exact rfl|exact trivial|exact Ei _ rfl|refine lN ?_|refine bS ?_|fail
    exact succ_eq k hlt 824 (by decide) hl
   all_goals repeat' first|refine Ai ?_ ?_|exact rfl|exact trivial|exact Ei _ rfl|refine lN ?_|refine bS ?_|fail
 ·have hk2:=len_ge h hk
  refine Ei [] (Ai rfl (Ai trivial ?_))
  rw [fidx_miss _ _ (fun j hj=>hno j hj (by omega))]
  exact rfl
theorem indexN_ct (l:List Int) (q:Int→Bool) (f:Nat) (caps:List (List Tr × Nat)) (hq:∀ o:Int,Ct Tryz.prog f ((.c (.t (iv o))) :: caps.map fun c=>.iptr c.1 c.2) (AV.b (q o)) [] true) (hl:l.length*8≤limB):Ct Tryz.prog 197 [.c (.t (.sl 1 (l.map eI))),.fnI f caps] (AV.i (fidx q l)) [] true:=by
 refine Ct.lit (b:=false) ?_ rfl
 refine ct_of Tryz.func197 rfl (enters_of Tryz.func197 (by kernel_rfl) rfl) tabOk (by kernel_rfl) rfl rfl rfl rfl fun w0 O _=>Tp.run [] ?_
 refine Tp.loop (fun k:Nat=>⟨[(0,.c (.t (.sl 1 (l.map eI)))),(1,.fnI f caps),(7,AV.i (l.map eI).length),(8,AV.i k)],[],[],10000⟩) (fun k=>k≤l.length∧∀ j (h:j < l.length),j < k→q l[j]=false) (fun k=>l.length - k) 0 ?_ ⟨Nat.zero_le _,fun j _ hj=>by omega⟩ ?_
 ·refine wk_of [] rfl rfl ?_ ?_ ?_
  all_goals repeat' first|refine Ai ?_ ?_|exact rfl|exact trivial|exact Ei _ rfl|refine lN ?_|refine bS ?_|fail
 rintro k ⟨hk,hno⟩
 refine Tp.run [5,6] ?_
 refine cS (fun h=>?_) (fun h=>?_)
 ·have hlt:=len_lt h
  refine Ei k (Ei (eI l[k]) (Ai rfl (Ai (map_get _ _ k hlt) ?_)))
  refine cI (hq l[k]) ⟨rfl,fits_caps caps⟩ (.inl rfl) ?_
  refine cS (fun h=>?_) (fun h=>?_)
  ·refine Tp.run [] ?_
   refine Ei [] (Ai rfl (Ai trivial ?_))
   rw [fidx_hit _ _ k hlt h hno]
   exact rfl
  ·refine Tp.run [] ?_
   refine Ei (k+1) (Ai ⟨by omega,fun j hj hjk=>?_⟩ (Ai (show l.length - (k+1) < l.length - k by omega) ?_))
   ·by_cases e:j=k
    ·subst e;exact h
    ·exact hno j hj (by omega)
   refine wk_of [] rfl rfl ?_ ?_ ?_
   ·repeat' first|refine Ai ?_ ?_|exact rfl|exact trivial|exact Ei _ rfl|refine lN ?_|refine bS ?_|fail
    exact succ_eq k hlt 8 (by decide) hl
   all_goals repeat' first|refine Ai ?_ ?_|exact rfl|exact trivial|exact Ei _ rfl|refine lN ?_|refine bS ?_|fail
 ·have hk2:=len_ge h hk
  refine Ei [] (Ai rfl (Ai trivial ?_))
  rw [fidx_miss _ _ (fun j hj=>hno j hj (by omega))]
  exact rfl
structure KpD {α:Type} (q:α→Bool) (l:List α) (x:Nat × Nat × List α):Prop where
 ij:x.1 < x.2.1
 jl:x.2.1≤l.length
 len:x.2.2.length=l.length
 front:x.2.2.take x.1=(l.take x.2.1).filter fun y=>!q y
 back:x.2.2.drop x.2.1=l.drop x.2.1
theorem KpD.start {α:Type} {q:α→Bool} {l:List α} {i:Nat} (hi:i < l.length) (hq:q l[i]=true) (hno:∀ j (h:j < l.length),j < i→q l[j]=false):KpD q l (i,i+1,l):=by
 refine ⟨Nat.lt_succ_self i,hi,rfl,?_,rfl⟩
 show l.take i=(l.take (i+1)).filter fun y=>!q y
 rw [← List.take_append_getElem hi,List.filter_append]
 have e1:(l.take i).filter (fun y=>!q y)=l.take i:=List.filter_eq_self.2 fun y hy=>by
  obtain ⟨j,hj,rfl⟩:=List.mem_iff_getElem.1 hy
  rw [List.length_take] at hj
  rw [List.getElem_take,hno j (by omega) (by omega)]
  rfl
 have e2:[l[i]].filter (fun y=>!q y)=[]:=by simp [hq]
 rw [e1,e2,List.append_nil]
theorem KpD.get {α:Type} {q:α→Bool} {l:List α} {i j:Nat} {X:List α} (h:KpD q l (i,j,X)) (hj:j < l.length):X[j]? = some l[j]:=by
 have:=h.back
 simp only at this
 have e:(X.drop j)[0]? = (l.drop j)[0]?:=by rw [this]
 rw [List.getElem?_drop,List.getElem?_drop,Nat.add_zero,List.getElem?_eq_getElem hj] at e
 exact e
theorem KpD.skip {α:Type} {q:α→Bool} {l:List α} {i j:Nat} {X:List α} (h:KpD q l (i,j,X)) (hj:j < l.length) (hq:q l[j]=true):KpD q l (i,j+1,X):=by
 obtain ⟨h1,h2,h3,h4,h5⟩:=h
 simp only at h1 h2 h3 h4 h5
 refine ⟨by simp only;omega,by simp only;omega,h3,?_,?_⟩
 ·show X.take i=(l.take (j+1)).filter fun y=>!q y
  rw [← List.take_append_getElem hj,List.filter_append,← h4]
  simp [hq]
 ·show X.drop (j+1)=l.drop (j+1)
  rw [← List.drop_drop,← List.drop_drop,h5]
theorem KpD.keep {α:Type} {q:α→Bool} {l:List α} {i j:Nat} {X:List α} (h:KpD q l (i,j,X)) (hj:j < l.length) (hq:q l[j]=false):KpD q l (i+1,j+1,X.set i l[j]):=by
 obtain ⟨h1,h2,h3,h4,h5⟩:=h
 simp only at h1 h2 h3 h4 h5
 have hi:i < X.length:=by omega
 refine ⟨by simp only;omega,by simp only;omega,by simp only [List.length_set];exact h3,?_,?_⟩
 ·show (X.set i l[j]).take (i+1)=(l.take (j+1)).filter fun y=>!q y
  rw [← List.take_append_getElem hj,List.filter_append,← h4]
  have hi2:i < (X.set i l[j]).length:=by rw [List.length_set];exact hi
  rw [← List.take_append_getElem hi2,List.getElem_set_self,List.take_set_of_le (Nat.le_refl i)]
  simp [hq]
 ·show (X.set i l[j]).drop (j+1)=l.drop (j+1)
  rw [List.drop_set_of_lt (by omega),← List.drop_drop,← List.drop_drop,h5]
theorem KpD.fin {α:Type} {q:α→Bool} {l:List α} {i j:Nat} {X:List α} (h:KpD q l (i,j,X)) (hj:j=l.length):X.take i=l.filter (fun y=>!q y)∧i≤X.length:=by
 obtain ⟨h1,h2,h3,h4,_⟩:=h
 simp only at h1 h2 h3 h4
 rw [h4,hj,List.take_length]
 exact ⟨rfl,by omega⟩
theorem tk_fin {α:Type} {A B:List α} {i:Nat} (h:i≤A.length):(A.take i++B).take i=A.take i:=by
 rw [List.take_append_of_le_length (by rw [List.length_take];omega),List.take_take,Nat.min_self]
theorem withoutF_ct (id n:Int):Ct Tryz.prog 200 [.c (.t (iv n)),.iptr [iv id] 0] (AV.b (n==id)) [] true:=by
 refine Ct.lit (b:=false) ?_ rfl
 refine ct_of Tryz.func200 rfl (enters_of Tryz.func200 (by kernel_rfl) rfl) tabOk (by kernel_rfl) rfl rfl rfl rfl fun w0 O _=>Tp.run [] ?_
 refine Ei [] (Ai rfl (Ai trivial ?_))
 repeat' first|refine Ai ?_ ?_|exact rfl|exact trivial|exact Ei _ rfl|refine lN ?_|refine bS ?_|fail
theorem delN_ctm (l:List Int) (id:Int) (hl:l.length*8≤limB):CtM Tryz.prog 157 [.c (.row 0 0),.fn 200 [(0,0)]] [[iv id].map .t] [⟨3,1,0,l.map eI,none⟩] (.c (.row 0 1)) [[iv id].map .t] [⟨3,1,1,(l.filter fun x=>!(fun n=>n==id) x).map eI,none⟩] []:=by
 have hix:=indexN_ct l (fun n=>n==id) 200 [([iv id],0)] (fun o=>withoutF_ct id o) hl
 rcases fidx_cases (fun n=>n==id) l with ⟨e1,_,e2⟩|⟨i,hi,e1,e2,_⟩
 ·have e3:l.filter (fun x=>!(fun n=>n==id) x)=l:=List.filter_eq_self.2 fun x hx=>by
   have:=List.find?_eq_none.1 e2 x hx
   simpa using this
  rw [e3]
  rw [e1] at hix
  refine ctm_of 1 Tryz.func157 rfl (enters_of Tryz.func157 (by kernel_rfl) rfl) tabOk (by kernel_rfl) rfl rfl rfl rfl rfl fun w0 O _=>Tp.run [3,4] ?_
  refine cI hix ⟨⟨rfl,rfl⟩,⟨rfl,⟨⟨rfl,rfl⟩,trivial⟩⟩,trivial⟩ (.inl rfl) ?_
  refine Tp.run [] ?_
  refine Ei [(0,0)] (Ai (Ai rfl (Ai ?_ (Ai ?_ ?_))) ?_)
  all_goals repeat' first|refine Ai ?_ ?_|exact rfl|exact trivial|exact Ei _ rfl|refine lN ?_|refine bS ?_|fail
 rw [e1] at hix
 obtain ⟨h3,h4,h5⟩:=List.findIdx?_eq_some_iff_getElem.1 e2
 have hno:∀ j (h:j < l.length),j < i→(fun n=>n==id) l[j]=false:=fun j h hj=>by simpa using h5 j hj
 have hw:IntKind.i64.wrap ((i:Int)+1)=((i+1:Nat):Int):=by
  have:=succ_eq i hi 8 (by decide) hl
  injection this with this
  injection this
 refine ctm_of 1 Tryz.func157 rfl (enters_of Tryz.func157 (by kernel_rfl) rfl) tabOk (by kernel_rfl) rfl rfl rfl rfl rfl fun w0 O _=>Tp.run [3,4] ?_
 refine cI hix ⟨⟨rfl,rfl⟩,⟨rfl,⟨⟨rfl,rfl⟩,trivial⟩⟩,trivial⟩ (.inl rfl) ?_
 refine Tp.run [] ?_
 refine Tp.loopL (fun x:Nat × Nat × List Int=>⟨[(0,.c (.row 0 0)),(1,.fn 200 [(0,0)]),(5,AV.i x.1),(6,AV.i x.2.1)],[(0,[iv id].map .t)],[(0,⟨3,1,0,x.2.2.map eI,none⟩)],10000⟩) (KpD (fun n=>n==id) l) (fun x=>l.length - x.2.1) (i,i+1,l) ?_ (KpD.start hi h4 hno) ?_
 ·refine wkl_of (n1:=1) rfl rfl ?_ ?_ ?_
  ·repeat' first|refine Ai ?_ ?_|exact rfl|exact trivial|exact Ei _ rfl|refine lN ?_|refine bS ?_|fail
   all_goals exact congrArg (fun n=>AV.i n) hw
  all_goals repeat' first|refine Ai ?_ ?_|exact rfl|exact trivial|exact Ei _ rfl|refine lN ?_|refine bS ?_|fail
 rintro ⟨i,j,X⟩ hx
 have hlen:=hx.len
 have hij:=hx.ij
 have hjl:=hx.jl
 simp only at hlen hij hjl
 refine Tp.run [7,9,6] ?_
 refine cS (fun hc=>?_) (fun hc=>?_)
 ·have hjX:j < X.length:=len_lt hc
  have hj:j < l.length:=by omega
  have hXj:X[j]=l[j]:=by
   have:=hx.get hj
   rw [List.getElem?_eq_getElem hjX] at this
   exact Option.some.inj this
  refine Tp.run [] ?_
  refine Ei j (Ai rfl (Ai (by rw [Lm];exact hjX) ?_))
  refine Ei (eI X[j]) (Ei _ (Ai (map_get _ _ j hjX) (Ai rfl ?_)))
  refine cI (withoutF_ct id X[j]) ⟨rfl,⟨⟨rfl,rfl⟩,trivial⟩,trivial⟩ (.inl rfl) ?_
  refine cond_n (cS (fun hq=>?_) (fun hq=>?_))
  ·rw [hXj] at hq
   refine Tp.run [] ?_
   refine Ei (i,j+1,X) (Ai (hx.skip hj hq) (Ai (show l.length - (j+1) < l.length - j by omega) ?_))
   refine wkl_of (n1:=1) rfl rfl ?_ ?_ ?_
   ·repeat' first|refine Ai ?_ ?_|exact rfl|exact trivial|exact Ei _ rfl|refine lN ?_|refine bS ?_|fail
    all_goals exact congrArg (fun n=>AV.c (.t n)) (succ_eq j hj 8 (by decide) hl)
   all_goals repeat' first|refine Ai ?_ ?_|exact rfl|exact trivial|exact Ei _ rfl|refine lN ?_|refine bS ?_|fail
  ·have hq:(fun n=>n==id) l[j]=false:=by rw [← hXj];exact hq
   have hi:i < X.length:=by omega
   have hi2:i < l.length:=by omega
   refine Tp.run [] ?_
   refine Ei i (Ai rfl (Ai (by rw [Lm];exact hi) ?_))
   refine Ei (eI X[i]) (Ai (map_get _ _ i hi) (Ai (Nb rfl) ?_))
   refine Tp.run [] ?_
   refine Ei (i+1,j+1,X.set i l[j]) (Ai (hx.keep hj hq) (Ai (show l.length - (j+1) < l.length - j by omega) ?_))
   refine wkl_of (n1:=1) rfl rfl ?_ ?_ ?_
   ·repeat' first|refine Ai ?_ ?_|exact rfl|exact trivial|exact Ei _ rfl|refine lN ?_|refine bS ?_|fail
    ·exact congrArg (fun n=>AV.c (.t n)) (succ_eq i hi2 8 (by decide) hl)
    ·exact congrArg (fun n=>AV.c (.t n)) (succ_eq j hj 8 (by decide) hl)
   ·repeat' first|refine Ai ?_ ?_|exact rfl|exact trivial|exact Ei _ rfl|refine lN ?_|refine bS ?_|fail
   ·repeat' first|refine Ai ?_ ?_|exact rfl|exact trivial|exact Ei _ rfl|refine lN ?_|refine bS ?_|fail
    exact congrArg (fun xs=>some (⟨3,1,0,xs,none⟩:Row)) (by rw [List.map_set,← hXj];rfl)
 ·have hjj:j=l.length:=(len_ge hc (show j≤X.length by omega)).trans hlen
  obtain ⟨g1,g2⟩:=hx.fin hjj
  refine Ei i (Ai rfl (Ai (by rw [Lm];exact g2) ?_))
  refine Ei [iv 0] (Ai (show ZFit [.t (.lit (.int .i64 0))] [iv 0] from ⟨rfl,trivial⟩) (Ai (by rw [Lm];exact g2) ?_))
  refine Ei i (Ai rfl (Ai (by simp;omega) ?_))
  refine Ei [(0,0)] (Ai (Ai rfl (Ai ?_ (Ai ?_ ?_))) ?_)
  ·repeat' first|refine Ai ?_ ?_|exact rfl|exact trivial|exact Ei _ rfl|refine lN ?_|refine bS ?_|fail
   exact (tk_fin (by rw [Lm];exact g2)).trans (by rw [← List.map_take];exact congrArg (List.map eI) g1)
  all_goals repeat' first|refine Ai ?_ ?_|exact rfl|exact trivial|exact Ei _ rfl|refine lN ?_|refine bS ?_|fail
def zof:List Ce→List Tr
 | []=>[]
 | .t x :: cs=>x :: zof cs
 | _ :: cs=>.sl 0 [] :: zof cs
def zgood:List Ce→Bool
 | []=>true
 | .t _ :: cs=>zgood cs
 | .nil :: cs=>zgood cs
 | _ :: _=>false
theorem zfit_zof:∀ (cs:List Ce),zgood cs=true→ZFit cs (zof cs)
 | [],_=>trivial
 | .t _ :: cs,h=>⟨rfl,zfit_zof cs h⟩
 | .nil :: cs,h=>⟨⟨0,rfl⟩,zfit_zof cs h⟩
theorem removeF_ct (o0:GObject) (x:GItem):Ct Tryz.prog 167 [.agg (x.enc.map .t),.iptr o0.enc 0] (AV.b (x.id==o0.id&&x.kind==1)) [] true:=by
 refine Ct.lit (b:=false) ?_ rfl
 refine ct_of Tryz.func167 rfl (enters_of Tryz.func167 (by kernel_rfl) rfl) tabOk (by kernel_rfl) rfl rfl rfl rfl fun w0 O _=>Tp.run [] ?_
 refine cS (fun h=>?_) (fun h=>?_)
 ·rw [show (x.id==o0.id)=true from h]
  refine Ei [] (Ai rfl (Ai trivial ?_))
  repeat' first|refine Ai ?_ ?_|exact rfl|exact trivial|exact Ei _ rfl|refine lN ?_|refine bS ?_|fail
 ·rw [show (x.id==o0.id)=false from h]
  refine Ei [] (Ai rfl (Ai trivial ?_))
  repeat' first|refine Ai ?_ ?_|exact rfl|exact trivial|exact Ei _ rfl|refine lN ?_|refine bS ?_|fail
theorem delI_ctm (l:List GItem) (o0:GObject) (hl:l.length*824≤limB):CtM Tryz.prog 166 [.c (.row 0 0),.fn 167 [(0,0)]] [o0.enc.map .t] [⟨91,94,0,l.map GItem.enc,none⟩] (.c (.row 0 1)) [o0.enc.map .t] [⟨91,94,1,(l.filter fun x=>!(fun x:GItem=>x.id==o0.id&&x.kind==1) x).map GItem.enc,none⟩] []:=by
 have hix:=indexI_ct l (fun x:GItem=>x.id==o0.id&&x.kind==1) 167 [(o0.enc,0)] (fun o=>removeF_ct o0 o) hl
 rcases fidx_cases (fun x:GItem=>x.id==o0.id&&x.kind==1) l with ⟨e1,_,e2⟩|⟨i,hi,e1,e2,_⟩
 ·have e3:l.filter (fun x=>!(fun x:GItem=>x.id==o0.id&&x.kind==1) x)=l:=List.filter_eq_self.2 fun x hx=>by
   have:=List.find?_eq_none.1 e2 x hx
   rw [Bool.not_eq_true] at this
   exact congrArg (fun b=>!b) this
  rw [e3]
  rw [e1] at hix
  refine ctm_of 1 Tryz.func166 rfl (enters_of Tryz.func166 (by kernel_rfl) rfl) tabOk (by kernel_rfl) rfl rfl rfl rfl rfl fun w0 O _=>Tp.run [3,4] ?_
  refine cI hix ⟨⟨rfl,rfl⟩,⟨rfl,⟨⟨rfl,rfl⟩,trivial⟩⟩,trivial⟩ (.inl rfl) ?_
  refine Tp.run [] ?_
  refine Ei [(0,0)] (Ai (Ai rfl (Ai ?_ (Ai ?_ ?_))) ?_)
  all_goals repeat' first|refine Ai ?_ ?_|exact rfl|exact trivial|exact Ei _ rfl|refine lN ?_|refine bS ?_|fail
 rw [e1] at hix
 obtain ⟨h3,h4,h5⟩:=List.findIdx?_eq_some_iff_getElem.1 e2
 have hno:∀ j (h:j < l.length),j < i→(fun x:GItem=>x.id==o0.id&&x.kind==1) l[j]=false:=fun j h hj=>by simpa using h5 j hj
 have hw:IntKind.i64.wrap ((i:Int)+1)=((i+1:Nat):Int):=by
  have:=succ_eq i hi 824 (by decide) hl
  injection this with this
  injection this
 refine ctm_of 1 Tryz.func166 rfl (enters_of Tryz.func166 (by kernel_rfl) rfl) tabOk (by kernel_rfl) rfl rfl rfl rfl rfl fun w0 O _=>Tp.run [3,4] ?_
 refine cI hix ⟨⟨rfl,rfl⟩,⟨rfl,⟨⟨rfl,rfl⟩,trivial⟩⟩,trivial⟩ (.inl rfl) ?_
 refine Tp.run [] ?_
 refine Tp.loopL (fun x:Nat × Nat × List GItem=>⟨[(0,.c (.row 0 0)),(1,.fn 167 [(0,0)]),(5,AV.i x.1),(6,AV.i x.2.1)],[(0,(o0.enc.map .t))],[(0,⟨91,94,0,x.2.2.map GItem.enc,none⟩)],10000⟩) (KpD (fun x:GItem=>x.id==o0.id&&x.kind==1) l) (fun x=>l.length - x.2.1) (i,i+1,l) ?_ (KpD.start hi h4 hno) ?_
 ·refine wkl_of (n1:=1) rfl rfl ?_ ?_ ?_
  ·repeat' first|refine Ai ?_ ?_|exact rfl|exact trivial|exact Ei _ rfl|refine lN ?_|refine bS ?_|fail
   all_goals exact congrArg (fun n=>AV.i n) hw
  all_goals repeat' first|refine Ai ?_ ?_|exact rfl|exact trivial|exact Ei _ rfl|refine lN ?_|refine bS ?_|fail
 rintro ⟨i,j,X⟩ hx
 have hlen:=hx.len
 have hij:=hx.ij
 have hjl:=hx.jl
 simp only at hlen hij hjl
 refine Tp.run [7,9,6] ?_
 refine cS (fun hc=>?_) (fun hc=>?_)
 ·have hjX:j < X.length:=len_lt hc
  have hj:j < l.length:=by omega
  have hXj:X[j]=l[j]:=by
   have:=hx.get hj
   rw [List.getElem?_eq_getElem hjX] at this
   exact Option.some.inj this
  refine Tp.run [] ?_
  refine Ei j (Ai rfl (Ai (by rw [Lm];exact hjX) ?_))
  refine Ei (X[j].enc) (Ei _ (Ai (map_get _ _ j hjX) (Ai rfl ?_)))
  refine cI (removeF_ct o0 X[j]) ⟨fL X[j].enc,⟨⟨rfl,rfl⟩,trivial⟩,trivial⟩ (.inl rfl) ?_
  refine cond_n (cS (fun hq=>?_) (fun hq=>?_))
  ·rw [hXj] at hq
   refine Tp.run [] ?_
   refine Ei (i,j+1,X) (Ai (hx.skip hj hq) (Ai (show l.length - (j+1) < l.length - j by omega) ?_))
   refine wkl_of (n1:=1) rfl rfl ?_ ?_ ?_
   ·repeat' first|refine Ai ?_ ?_|exact rfl|exact trivial|exact Ei _ rfl|refine lN ?_|refine bS ?_|fail
    all_goals exact congrArg (fun n=>AV.c (.t n)) (succ_eq j hj 824 (by decide) hl)
   all_goals repeat' first|refine Ai ?_ ?_|exact rfl|exact trivial|exact Ei _ rfl|refine lN ?_|refine bS ?_|fail
  ·have hq:(fun x:GItem=>x.id==o0.id&&x.kind==1) l[j]=false:=by rw [← hXj];exact hq
   have hi:i < X.length:=by omega
   have hi2:i < l.length:=by omega
   refine Tp.run [] ?_
   refine Ei i (Ai rfl (Ai (by rw [Lm];exact hi) ?_))
   refine Ei (X[i].enc) (Ai (map_get _ _ i hi) (Ai (Nb rfl) ?_))
   refine Tp.run [] ?_
   refine Ei (i+1,j+1,X.set i l[j]) (Ai (hx.keep hj hq) (Ai (show l.length - (j+1) < l.length - j by omega) ?_))
   refine wkl_of (n1:=1) rfl rfl ?_ ?_ ?_
   ·repeat' first|refine Ai ?_ ?_|exact rfl|exact trivial|exact Ei _ rfl|refine lN ?_|refine bS ?_|fail
    ·exact congrArg (fun n=>AV.c (.t n)) (succ_eq i hi2 824 (by decide) hl)
    ·exact congrArg (fun n=>AV.c (.t n)) (succ_eq j hj 824 (by decide) hl)
   ·repeat' first|refine Ai ?_ ?_|exact rfl|exact trivial|exact Ei _ rfl|refine lN ?_|refine bS ?_|fail
   ·repeat' first|refine Ai ?_ ?_|exact rfl|exact trivial|exact Ei _ rfl|refine lN ?_|refine bS ?_|fail
    exact congrArg (fun xs=>some (⟨91,94,0,xs,none⟩:Row)) (by rw [List.map_set,← hXj];rfl)
 ·have hjj:j=l.length:=(len_ge hc (show j≤X.length by omega)).trans hlen
  obtain ⟨g1,g2⟩:=hx.fin hjj
  refine Ei i (Ai rfl (Ai (by rw [Lm];exact g2) ?_))
  refine Ei _ (Ai (zfit_zof _ rfl) (Ai (by rw [Lm];exact g2) ?_))
  refine Ei i (Ai rfl (Ai (by simp;omega) ?_))
  refine Ei [(0,0)] (Ai (Ai rfl (Ai ?_ (Ai ?_ ?_))) ?_)
  ·repeat' first|refine Ai ?_ ?_|exact rfl|exact trivial|exact Ei _ rfl|refine lN ?_|refine bS ?_|fail
   exact (tk_fin (by rw [Lm];exact g2)).trans (by rw [← List.map_take];exact congrArg (List.map GItem.enc) g1)
  all_goals repeat' first|refine Ai ?_ ?_|exact rfl|exact trivial|exact Ei _ rfl|refine lN ?_|refine bS ?_|fail
theorem rtl_lits {F F':Nat→Prop} {w:World}:∀ {vs:List Value} {ts:List Tr},RTL F w vs ts→(∀ t∈ts,∃ x,t=Tr.lit x)→RTL F' w vs ts
 | _,_,.nil,_=>.nil
 | _,_,.cons h1 h2,h=>by
  obtain ⟨x,rfl⟩:=h _ (List.mem_cons_self ..)
  refine .cons ?_ (rtl_lits h2 fun t ht=>h t (List.mem_cons_of_mem _ ht))
  cases h1 with
  | lit q=>exact .lit q
theorem ct_free {P:Program} {f:FuncId} {ars:List AV} {ty k:Nat} {xs:List (List Tr)} {b:Bool} (h:Ct P f ars (.c (.row 0 0)) [⟨ty,k,0,xs,none⟩] b) (hx:∀ ts∈xs,∀ t∈ts,∃ v,t=Tr.lit v):Ct P f ars (.c (.row 0 0)) [⟨ty,k,0,xs,none⟩] true:=by
 refine ⟨h.ent,h.few,h.shut,h.plain,h.nob,h.rid,fun w vs E0 ha=>(h.run w vs E0 ha).mono ?_⟩
 rintro e w' ⟨v,rfl,hbel,E,hr,hrow,hcold⟩
 refine ⟨v,rfl,hbel,⟨fun b=>if b < w.heap.size then .non else E.rl b,E.bk,E.vl⟩,hr,fun j R hj=>?_,fun b hlt hc=>?_⟩
 ·cases j with
  | succ j=>simp at hj
  | zero=>
   injection hj with hj
   subst hj
   obtain ⟨es,h1,h2,h3⟩:=(hrow 0 _ rfl).ow rfl
   refine Ow.rr rfl ⟨es,h1,⟨h2.len,fun j x ts q1 q2=>rtl_lits (h2.at_ j x ts q1 q2) (hx ts (List.mem_of_getElem? q2))⟩,fun g hg=>?_⟩
   show (if g < w.heap.size then BRole.non else E.rl g)=_
   rw [if_neg (Nat.not_lt.2 (h1.lt g hg).1)]
   exact h3 g hg
 ·have hc:(if b < w.heap.size then BRole.non else E.rl b)=.cold:=hc
  rw [if_pos hlt] at hc
  cases hc
theorem encI_lits (l:List Int):∀ ts∈l.map eI,∀ t∈ts,∃ v,t=Tr.lit v:=fun ts h t ht=>by
 obtain ⟨n,_,rfl⟩:=List.mem_map.1 h
 have:t=iv n:=List.mem_singleton.1 ht
 exact ⟨_,this⟩
theorem withoutP_ct (l:List Int) (id:Int) (hl:l.length*8≤limB):Ct Tryz.prog 165 [.c (.t (.sl 1 (l.map eI))),.c (.t (iv id))] (.c (.row 0 0)) [⟨3,1,0,(l.filter fun n=>!(fun n=>n==id) n).map eI,none⟩] true:=by
 refine ct_free (b:=false) ?_ (encI_lits _)
 refine ct_of Tryz.func165 rfl (enters_of Tryz.func165 (by kernel_rfl) rfl) tabOk (by kernel_rfl) rfl rfl rfl rfl fun w0 O _=>Tp.run [] ?_
 refine cI (cloneInt_ct _ (map_bound _ _ _ hl)) ⟨rfl,trivial⟩ (.inr rfl) ?_
 refine cM [0] [(384,0)] (delN_ctm l id hl) ?_ ?_ ?_
 ·repeat' first|refine Ai ?_ ?_|exact rfl|exact trivial|exact Ei _ rfl|refine lN ?_|refine bS ?_|fail
 ·exact rfl
 refine Ei [(0,384)] (Ai rfl (Ai ?_ ?_))
 all_goals repeat' first|refine Ai ?_ ?_|exact rfl|exact trivial|exact Ei _ rfl|refine lN ?_|refine bS ?_|fail
theorem newP_ct (id card player z stamp:Int):Ct Tryz.prog 125 [.c (.t (iv id)),.c (.t (iv card)),.c (.t (iv player)),.c (.t (iv z)),.c (.t (iv stamp))] (.agg ((newM id card player z stamp).enc.map .t)) [] true:=by
 refine Ct.litT (b:=false) ?_ rfl
 refine ct_of Tryz.func125 rfl (enters_of Tryz.func125 (by kernel_rfl) rfl) tabOk (by kernel_rfl) rfl rfl rfl rfl fun w0 O _=>Tp.run [] ?_
 refine Ei [] (Ai rfl (Ai ?_ ?_))
 all_goals repeat' first|refine Ai ?_ ?_|exact rfl|exact trivial|exact Ei _ rfl|refine lN ?_|refine bS ?_|fail
theorem movedP_ct (x:GObject) (id z p stamp:Int):Ct Tryz.prog 120 [.agg (x.enc.map .t),.c (.t (iv id)),.c (.t (iv z)),.c (.t (iv p)),.c (.t (iv stamp))] (.agg ((movedM x id z p stamp).enc.map .t)) [] true:=by
 refine Ct.litT (b:=false) ?_ rfl
 generalize hM:movedM x id z p stamp=M
 refine ct_of Tryz.func120 rfl (enters_of Tryz.func120 (by kernel_rfl) rfl) tabOk (by kernel_rfl) rfl rfl rfl rfl fun w0 O _=>Tp.run [4,5] ?_
 refine cI (newP_ct id x.card x.owner z stamp) ⟨rfl,rfl,rfl,rfl,rfl,trivial⟩ (.inl rfl) ?_
 refine cS (fun h0=>?_) (fun h0=>?_)
 ·have hM2:M={ newM id x.card x.owner z stamp with token:=x.token,control:=p,sick:=z==0 }:=by rw [← hM];unfold movedM;rw [if_pos (by rw [show (z==0)=true from h0];rfl)]
  subst hM2
  refine Tp.run [5] ?_
  refine Tp.run [] ?_
  refine Ei [] (Ai rfl (Ai ?_ ?_))
  all_goals repeat' first|refine Ai ?_ ?_|exact rfl|exact trivial|exact Ei _ rfl|refine lN ?_|refine bS ?_|fail
 refine cS (fun h5=>?_) (fun h5=>?_)
 ·have hM2:M={ newM id x.card x.owner z stamp with token:=x.token,control:=p,sick:=z==0 }:=by rw [← hM];unfold movedM;rw [if_pos (by rw [show (z==5)=true from h5,Bool.or_true])]
  subst hM2
  refine Tp.run [5] ?_
  refine Tp.run [] ?_
  refine Ei [] (Ai rfl (Ai ?_ ?_))
  all_goals repeat' first|refine Ai ?_ ?_|exact rfl|exact trivial|exact Ei _ rfl|refine lN ?_|refine bS ?_|fail
 have hM2:M={ newM id x.card x.owner z stamp with token:=x.token,control:=x.owner,sick:=z==0 }:=by rw [← hM];unfold movedM;rw [if_neg (by rw [show (z==5)=false from h5,show (z==0)=false from h0];decide)]
 subst hM2
 refine Tp.run [] ?_
 refine Ei [] (Ai rfl (Ai ?_ ?_))
 all_goals repeat' first|refine Ai ?_ ?_|exact rfl|exact trivial|exact Ei _ rfl|refine lN ?_|refine bS ?_|fail
theorem insO_ctm (l:List GObject) (o:GObject) (hl:l.length*128≤limB):CtM Tryz.prog 169 [.c (.row 0 0),.c (.t (iv (l.length:Int))),.c (.row 1 0)] [] [⟨49,19,0,l.map GObject.enc,none⟩,⟨49,19,0,[o.enc],none⟩] (.c (.row 0 1)) [] [⟨49,19,1,(l++[o]).map GObject.enc,none⟩,⟨49,19,0,[o.enc],none⟩] []:=by
 refine ctm_of 2 Tryz.func169 rfl (enters_of Tryz.func169 (by kernel_rfl) rfl) tabOk (by kernel_rfl) rfl rfl rfl rfl rfl fun w0 O _=>Tp.run [7,8] ?_
 refine Ei l.length (Ai rfl (Ai (by rw [Lm];exact Nat.le_refl _) ?_))
 refine cond_t (by simp) ?_
 refine Tp.run [] ?_
 refine Ai (.inl rfl) (Ai ?_ (Ai ?_ ?_))
 ·rw [Lm]
  show (l.length+1)*128≤_
  unfold limB at hl
  omega
 ·rw [Lm]
  show l.length+1 < _
  unfold limB at hl
  omega
 refine Ei [(0,0),(1,1)] (Ai (Ai rfl (Ai ?_ (Ai ?_ ?_))) ?_)
 ·repeat' first|refine Ai ?_ ?_|exact rfl|exact trivial|exact Ei _ rfl|refine lN ?_|refine bS ?_|fail
  all_goals exact (List.map_append (l₁:=l) (l₂:=[o]) (f:=GObject.enc)).symm
 all_goals repeat' first|refine Ai ?_ ?_|exact rfl|exact trivial|exact Ei _ rfl|refine lN ?_|refine bS ?_|fail
end Go.Proofs.YtmloamomcbmfhaaGreat
end
section
namespace Go.Proofs.YtmloamomcbmfhaaGreat
open Go Go.RowKit Go.Sort Go.Shelf Cg
def Bn (w:World) (b:Nat) (t:TypeId) (cs:List Value):Prop:=∃ cur:Array Value,w.heap[b]? = some (.cells cur t (0,0))∧∀ (j:Nat) (u:Value),cs[j]? = some u→cur[j]? = some u
theorem Bn.lt {w:World} {b:Nat} {t:TypeId} {cs:List Value} (h:Bn w b t cs):b < w.heap.size:=by
 obtain ⟨cur,h,_⟩:=h
 exact (Array.getElem?_eq_some_iff.1 h).1
theorem Bn.cell {w:World} {b:Nat} {t:TypeId} {cs:List Value} (h:Bn w b t cs) (i:Nat) (u:Value) (hu:cs[i]? = some u):w.cell? ⟨b,i,none⟩=some u:=by
 obtain ⟨cur,h1,h2⟩:=h
 rw [cell_of_row _ _ i _ _ _ h1]
 exact h2 i u hu
theorem Bn.frozen {w:World} {b:Nat} {t:TypeId} {cs:List Value} (h:Bn w b t cs) (i:Nat):w.frozen? ⟨b,i,none⟩=false:=by
 obtain ⟨cur,h1,h2⟩:=h
 simp [World.frozen?,h1]
def bnSize (w:World) (b:Nat):Nat:=match w.heap[b]? with
 | some (.cells cur _ _)=>cur.size
 | _=>0
theorem Bn.shape {w:World} {b:Nat} {t:TypeId} {cs:List Value} (h:Bn w b t cs):w.shape? b=some (t,bnSize w b):=by
 obtain ⟨cur,h1,h2⟩:=h
 simp [World.shape?,bnSize,h1]
theorem insNSize:(Tryz.prog.info? 3).map (·.size)=some 1:=by kernel_rfl
theorem insNOvl (w:World) (a b:Addr) (la ca lb cb:Nat) (hne:a.block≠b.block) (tA tB:TypeId) (kA kB:Nat)
  (hsa:w.shape? a.block=some (tA,kA)) (hsb:w.shape? b.block=some (tB,kB)) (hkB:kB≠0)
  (hfa:w.frozen? a=false) (hfe:w.frozen? { block:=a.block,off:=kA }=false):(callFunc 170 #[.slice (some a) la ca,.slice (some b) lb cb]).run Tryz.prog w=.ok (.value (.bool false)) w:=by
 rw [run_callFunc_extern Tryz.func170 (by kernel_rfl) (by kernel_rfl) (by kernel_rfl) (e:=Extern.SlicesOverlaps.overlaps #[25,25] #[4]) (by kernel_rfl),
  Lib.run_overlaps_apart w 25 4 3 Tryz.underlying25 1 (fun w=>by kernel_rfl) a b la ca lb cb hne tA tB kA kB hsa hsb hkB hfa hfe]
 rfl
theorem insNShift (base g n c i nb cb:Nat) (es:List (Cl 1)) (y:Cl 1) (w:World) (hb:BlkC 1 3 w g es) (hh:HdC base 3 1 w g c) (hl:es.length=n) (hi:i < n) (hroom:n+1≤c) (hnb:Bn w nb 3 y.1) (hne:nb≠g) :
  Calls Tryz.prog 123 #[.slice (some ⟨g,0,none⟩) n c,.int .i64 i,.slice (some ⟨nb,0,none⟩) 1 cb] w fun e w'=>e=.returned (.slice (some ⟨g,0,none⟩) (n+1) c)∧w'=(w.drew.setCells g ((i+1)) ((es.drop i).flatMap Subtype.val)).setCells g (i) y.1:=by
 obtain ⟨h0,hc63,cur,hg,hcs⟩:=hh
 have hdl:((es.drop i).flatMap Subtype.val).length=(n - i)*1:=by rw [flat_len Cl.len,List.length_drop,hl]
 have hin:∀ j,j < (n+1)*1→(w.cell? ⟨g,j,none⟩).isSome=true:=fun j hj=>by
  rw [cell_of_row _ _ j _ _ _ hg,Array.getElem?_eq_getElem (by rw [hcs];exact Nat.lt_of_lt_of_le hj (Nat.mul_le_mul_right _ hroom))]
  rfl
 have hfz:∀ j,w.frozen? ⟨g,j,none⟩=false:=fun j=>hb.frozen j
 have hov:∀ lb ch,(callFunc 170 #[.slice (some ⟨nb,0,none⟩) 1 cb,.slice (some ⟨g,(i+1),none⟩) lb ch]).run Tryz.prog w=.ok (.value (.bool false)) w:=fun lb ch=>
  insNOvl w ⟨nb,0,none⟩ ⟨g,(i+1),none⟩ 1 1 lb cb hne 3 3 _ (c*1) hnb.shape (by simp [World.shape?,hg,hcs]) (by omega) (hnb.frozen 0) (hnb.frozen _)
 obtain ⟨W1,hW1⟩:∃ W1,W1=w.drew.setCells g ((i+1)) ((es.drop i).flatMap Subtype.val):=⟨_,rfl⟩
 have hcp1:∀ ty dc sc,(Builtin.copy_ #[25,25] ty #[.slice (some ⟨g,(i+1),none⟩) (n - i) dc,.slice (some ⟨g,i,none⟩) (n+1 - i) sc]).run Tryz.prog w.drew=.ok (goInt (Nat.min (n+1 - i) (n - i))) W1:=fun ty dc sc=>by
  rw [hW1]
  refine run_copy_cellsK w.drew _ _ ty 3 1 g ((i+1)) (n - i) dc ⟨g,i,none⟩ (n+1 - i) sc _ Tryz.underlying25 insNSize (by rw [hdl];simp only [Nat.min_def];split <;> congr 1 <;> omega)
   (fun j v hj=>?_) (fun j hj=>hin _ (by rw [hdl] at hj;omega)) (fun j hj=>hfz _) (fun u hu=>by
    obtain ⟨x,_,hx⟩:=List.mem_flatMap.1 hu
    exact Cl.one x u hx)
  rw [Addr.add_lit]
  have hj1:=(List.getElem?_eq_some_iff.1 hj).1
  rw [hdl] at hj1
  have hq:j / 1 < (es.drop i).length:=by rw [List.length_drop,hl];omega
  have hg2:=flat_get (enc:=Subtype.val) Cl.len (es.drop i) (j / 1) _ (List.getElem?_eq_getElem hq) (j % 1) (Nat.mod_lt _ (by decide))
  rw [show j / 1*1+j % 1=j by omega,hj] at hg2
  rw [List.getElem_drop] at hg2
  have:=hb.cell (i+j / 1) _ (List.getElem?_eq_getElem (by rw [List.length_drop] at hq;omega)) (j % 1) v hg2.symm
  rw [show (i+j / 1)*1+j % 1=i*1+j by omega] at this
  rw [Nat.mul_one] at this
  exact this
 have hsp1:∀ j,j < (n+1)*1→(W1.cell? ⟨g,j,none⟩).isSome=true:=fun j hj=>by
  rw [hW1]
  exact isSome_setCells g ((es.drop i).flatMap Subtype.val) ((i+1)) w.drew (fun t ht=>hin ((i+1)+t) (by rw [hdl] at ht;omega)) j (hin j hj)
 have hcp2:∀ (W:World),(∀ x,W.cell? x=W1.cell? x)→(∀ x,W.frozen? x=W1.frozen? x)→∀ ty dc,(Builtin.copy_ #[25,25] ty #[.slice (some ⟨g,i,none⟩) (n+1 - i) dc,.slice (some ⟨nb,0,none⟩) 1 cb]).run Tryz.prog W=.ok (goInt (Nat.min 1 (n+1 - i))) (W.setCells g (i) y.1):=fun W hWc hWf ty dc=>
  run_copy_cellsK W _ _ ty 3 1 g (i) (n+1 - i) dc ⟨nb,0,none⟩ 1 cb y.1 Tryz.underlying25 insNSize (by rw [y.len,show Nat.min 1 (n+1 - i)=1 by simp only [Nat.min_def];split <;> omega])
   (fun j v hj=>by
    rw [Addr.add_lit,hWc,hW1,World.cell?_setCells_out g _ _ _ _ (fun h _=>absurd h hne),Nat.zero_add]
    exact hnb.cell j v hj)
   (fun j hj=>by rw [hWc];exact hsp1 _ (by rw [y.len] at hj;omega)) (fun j hj=>by rw [hWf,hW1,World.frozen?_setCells];exact hfz _) y.one
 rw [← hW1]
 have HCP1:=Lib.hid hcp1
 have HCP2:=Lib.hid hcp2
 have HOV:=Lib.hid hov
 have hz2:((i:Int)==(n:Int))=false:=beq_eq_false_iff_ne.2 (by omega)
 have hz2':¬ ((i:Int)=(n:Int)):=by omega
 have hcm:c≤9223372036854775807:=by have:=hc63;simp only [maxLen] at this;omega
 have hz3:¬ ((c:Int) < (n:Int)+1):=by omega
 have hw0:(0:Int)≤(i:Int)+1:=by omega
 have hw1:IntKind.i64.wrap ((i:Int)+1)=(i:Int)+1:=by rw [IntKind.wrap_i64];omega
 have hw2:IntKind.i64.wrap ((n:Int)+1)=(n:Int)+1:=by rw [IntKind.wrap_i64];omega
 have hin2:i≤n:=by omega
 have hin3:i+1≤n+1:=by omega
 have hin4:i≤n+1:=by omega
 have hnc:n≤c:=by omega
 have hb3:(i:Int)≤(n:Int)+1:=by omega
 have hb2:¬ (c=i+1):=by omega
 have hb4:¬ (c=i):=by omega
 clear hin hfz hov hcp1 hcp2 hsp1 hW1 hdl hb hg hcs h0 hc63 hnb
 go_enter Tryz.func123,Tryz.ntmps123
 go_wp2_with (simp only [HOV.out])
 go_region_law (refine step_copy_runI rfl (.tmp 73) (.tmp 76) 25 25 rfl (.slice (some ⟨g,(i+1),none⟩) (n - i) (c - (i+1))) (.slice (some ⟨g,i,none⟩) (n+1 - i) (c - i)) (by simp [Act.eval,Act.put]) (by simp [Act.eval,Act.put]) (HCP1.out _ _ _) ?_)
 have hq2:=HCP2.out W1 (fun _=>rfl) (fun _=>rfl)
 go_wp2_with fail
 go_ret
 exact ⟨rfl,rfl⟩
theorem insNGrow (base g n c i nb cb:Nat) (es:List (Cl 1)) (y:Cl 1) (w:World) (hb:BlkC 1 3 w g es) (hl:es.length=n) (hi:i < n) (hnc:n≤c) (hroom:c < n+1) (hbig:(n+1)*8≤140737488355328) (hnb:Bn w nb 3 y.1) (hbase:base≤w.heap.size) :
  Calls Tryz.prog 123 #[.slice (some ⟨g,0,none⟩) n c,.int .i64 i,.slice (some ⟨nb,0,none⟩) 1 cb] w fun e w'=>∃ G,e=.returned (.slice (some ⟨w.heap.size,0,none⟩) (n+1) G)∧w'.ownsRow base 3 1 (.slice (some ⟨w.heap.size,0,none⟩) (n+1) G) (n+1) ((es.take i++y :: es.drop i).flatMap Subtype.val)∧Below w.heap.size w w':=by
 obtain ⟨z,ht,hzs,hsz,i0,hi0,hz0,hs0,hby0⟩:=elemint
 have hgw:=hb.lt
 have hnw:=hnb.lt
 have hdl:((es.drop i).flatMap Subtype.val).length=(n - i)*1:=by rw [flat_len Cl.len,List.length_drop,hl]
 have htl:((es.take i).flatMap Subtype.val).length=i*1:=by rw [flat_len Cl.len,List.length_take,hl,Nat.min_eq_left (by omega)]
 have hkk:(n:Int)+1 - (i:Int)=((n+1 - i:Nat):Int):=by omega
 have hik:i+(n+1 - i)=n+1:=by omega
 have srcG:∀ j v,(es.flatMap Subtype.val)[j]? = some v→w.cell? ⟨g,j,none⟩=some v:=fun j v hj=>by
  have hj1:=(List.getElem?_eq_some_iff.1 hj).1
  rw [flat_len Cl.len,hl] at hj1
  have hq:j / 1 < es.length:=by rw [hl];omega
  have hg2:=flat_get (enc:=Subtype.val) Cl.len es (j / 1) _ (List.getElem?_eq_getElem hq) (j % 1) (Nat.mod_lt _ (by decide))
  rw [show j / 1*1+j % 1=j by omega,hj] at hg2
  have:=hb.cell (j / 1) _ (List.getElem?_eq_getElem hq) (j % 1) v hg2.symm
  rw [show j / 1*1+j % 1=j by omega] at this
  exact this
 have hsplit:es.flatMap Subtype.val=(es.take i).flatMap Subtype.val++(es.drop i).flatMap Subtype.val:=by rw [← List.flatMap_append,List.take_append_drop]
 have hold:(Builtin.firstCells i0.size i (.slice (some ⟨g,0,none⟩) i c)).run Tryz.prog w.drew=.ok ((es.take i).flatMap Subtype.val).toArray w.drew:=by
  rw [hs0]
  exact run_firstCells_some w.drew 1 i ⟨g,0,none⟩ i c _ htl (fun j v hj=>by
   rw [Addr.add_lit,Nat.zero_add]
   refine srcG j v ?_
   rw [hsplit,List.getElem?_append_left (List.getElem?_eq_some_iff.1 hj).1]
   exact hj)
 have hrz:∀ ty,(Builtin.append_ #[25,3] ty #[.slice (some ⟨g,0,none⟩) i c,.int .i64 ((n:Int)+1 - (i:Int))]).run Tryz.prog w =
   .ok (.slice (some ⟨w.heap.size,0,none⟩) (n+1) (grownCap w (n+1) c 3)) (w.drew.alloc (.cells (((es.take i).flatMap Subtype.val).toArray++Builtin.zeroCells z.cells (n+1 - i)++Builtin.zeroCells z.cells (grownCap w (n+1) c 3 - (n+1))) 3)):=fun ty=>by
  have h:=Lib.run_append_grow_zeros w 25 3 ty 3 i0 _ .i64 .i64 ht Tryz.underlying3 hi0 hz0 (some ⟨g,0,none⟩) i c _ hold (n+1 - i) (by omega) (by omega) (by omega) (by omega) (by rw [hby0];omega) (by rw [hby0,hik];exact growslice_fits hroom hbig)
  rw [hik] at h
  rw [hkk]
  exact h
 obtain ⟨G,hG⟩:∃ G,G=grownCap w (n+1) c 3:=⟨_,rfl⟩
 have hGn:n+1≤G:=by rw [hG];exact grownCap_ge w _ _ _
 have hGm:G≤maxLen:=by rw [hG];exact grownCap_le_maxLen w (n+1) c 3 (by unfold maxLen;omega)
 obtain ⟨ROW,hROW⟩:∃ ROW:Array Value,ROW=((es.take i).flatMap Subtype.val).toArray++Builtin.zeroCells z.cells (n+1 - i)++Builtin.zeroCells z.cells (G - (n+1)):=⟨_,rfl⟩
 rw [← hG,← hROW] at hrz
 have hRl:ROW.size=G*1:=by
  rw [hROW,Array.size_append,Array.size_append,size_zeroCells,size_zeroCells,hzs,List.size_toArray,htl]
  omega
 obtain ⟨W1,hW1⟩:∃ W1,W1=w.drew.alloc (.cells ROW 3):=⟨_,rfl⟩
 rw [← hW1] at hrz
 have hrow:W1.heap[w.heap.size]? = some (.cells ROW 3 (0,0)):=by rw [hW1];exact heap_alloc_new w.drew _
 have hN:∀ j,j < (n+1)*1→(W1.cell? ⟨w.heap.size,j,none⟩).isSome=true:=fun j hj=>by
  rw [cell_of_row _ _ j _ _ _ hrow,Array.getElem?_eq_getElem (by rw [hRl];exact Nat.lt_of_lt_of_le hj (Nat.mul_le_mul_right _ hGn))]
  rfl
 have hNf:∀ j,W1.frozen? ⟨w.heap.size,j,none⟩=false:=fun j=>by simp [World.frozen?,hrow]
 have hOld:∀ b,b < w.heap.size→W1.heap[b]? = w.heap[b]?:=fun b hlt=>by rw [hW1];exact heap_alloc_old w.drew _ hlt
 have hcpA:∀ ty dc,(Builtin.copy_ #[25,25] ty #[.slice (some ⟨w.heap.size,i,none⟩) (n+1 - i) dc,.slice (some ⟨nb,0,none⟩) 1 cb]).run Tryz.prog W1=.ok (goInt (Nat.min 1 (n+1 - i))) (W1.setCells w.heap.size (i) y.1):=fun ty dc=>
  run_copy_cellsK W1 _ _ ty 3 1 w.heap.size (i) (n+1 - i) dc ⟨nb,0,none⟩ 1 cb y.1 Tryz.underlying25 insNSize (by rw [y.len,show Nat.min 1 (n+1 - i)=1 by simp only [Nat.min_def];split <;> omega])
   (fun j v hj=>by
    rw [Addr.add_lit,Nat.zero_add]
    exact (World.cell?_of_block (a:=⟨nb,j,none⟩) (hOld nb hnw)).trans (hnb.cell j v hj))
   (fun j hj=>hN _ (by rw [y.len] at hj;omega)) (fun j hj=>hNf _) y.one
 obtain ⟨W2,hW2⟩:∃ W2,W2=W1.setCells w.heap.size (i) y.1:=⟨_,rfl⟩
 rw [← hW2] at hcpA
 have hcpB:∀ ty dc sc,(Builtin.copy_ #[25,25] ty #[.slice (some ⟨w.heap.size,(i+1),none⟩) (n - i) dc,.slice (some ⟨g,i,none⟩) (n - i) sc]).run Tryz.prog W2.drew=.ok (goInt (Nat.min (n - i) (n - i))) (W2.drew.setCells w.heap.size ((i+1)) ((es.drop i).flatMap Subtype.val)):=fun ty dc sc=>
  run_copy_cellsK W2.drew _ _ ty 3 1 w.heap.size ((i+1)) (n - i) dc ⟨g,i,none⟩ (n - i) sc _ Tryz.underlying25 insNSize (by rw [hdl,show Nat.min (n - i) (n - i)=n - i from Nat.min_self _])
   (fun j v hj=>by
    rw [Addr.add_lit]
    have e1:W2.heap[g]? = w.heap[g]?:=by rw [hW2,heap_sets _ _ _ _ g (by omega)];exact hOld g hgw
    refine (World.cell?_of_block (w:=w) (w':=W2.drew) (a:=⟨g,i+j,none⟩) e1).trans (srcG (i+j) v ?_)
    rw [hsplit,List.getElem?_append_right (by rw [htl];omega),htl,show i+j - i*1=j by omega]
    exact hj)
   (fun j hj=>by
    show (W2.cell? _).isSome=true
    rw [hW2]
    exact isSome_setCells w.heap.size y.1 (i) W1 (fun t ht=>hN (i+t) (by rw [y.len] at ht;omega)) _ (hN _ (by rw [hdl] at hj;omega)))
   (fun j hj=>by
    show W2.frozen? _=false
    rw [hW2,World.frozen?_setCells]
    exact hNf _) (fun u hu=>by
    obtain ⟨x,_,hx⟩:=List.mem_flatMap.1 hu
    exact Cl.one x u hx)
 have HF:=Lib.hid (show (W2.drew.setCells w.heap.size ((i+1)) ((es.drop i).flatMap Subtype.val)).ownsRow base 3 1 (.slice (some ⟨w.heap.size,0,none⟩) (n+1) G) (n+1) ((es.take i++y :: es.drop i).flatMap Subtype.val)∧Below w.heap.size w (W2.drew.setCells w.heap.size ((i+1)) ((es.drop i).flatMap Subtype.val)) by
  have hd:HdC base 3 1 W1 w.heap.size G:=⟨hbase,hGm,ROW,hrow,hRl⟩
  have htl2:(es.take i).length=i:=by rw [List.length_take,hl,Nat.min_eq_left (by omega)]
  have b1:BlkC 1 3 W1 w.heap.size (es.take i):=⟨ROW,hrow,by rw [hRl,htl2];exact Nat.mul_le_mul_right _ (by omega),fun j x hj q u hu=>by
   have hq:q < 1:=by have:=(List.getElem?_eq_some_iff.1 hu).1;rwa [Cl.len] at this
   have hjl:=(List.getElem?_eq_some_iff.1 hj).1
   rw [htl2] at hjl
   have:=flat_get (enc:=Subtype.val) Cl.len (es.take i) j x hj q hq
   rw [hROW,Array.append_assoc,Array.getElem?_append_left (by rw [List.size_toArray,htl];omega),List.getElem?_toArray,this]
   exact hu⟩
  obtain ⟨b2,d2⟩:=BlkC.write b1 hd i [y] (by rw [htl2];exact Nat.le_refl _) (by rw [List.length_singleton];omega)
  rw [List.flatMap_cons,List.flatMap_nil,List.append_nil] at b2 d2
  have e2:(es.take i).take i++[y]++(es.take i).drop (i+[y].length)=es.take i++[y]:=by
   rw [List.take_of_length_le (by omega),List.drop_eq_nil_of_le (by rw [htl2];omega),List.append_nil]
  rw [e2] at b2
  have hl3:(es.take i++[y]).length=i+1:=by rw [List.length_append,htl2,List.length_singleton]
  obtain ⟨b3,d3⟩:=BlkC.write (w:=W2.drew) (es:=es.take i++[y]) (by rw [hW2];rw [Nat.mul_one] at b2;exact b2) (by rw [hW2];rw [Nat.mul_one] at d2;exact d2) (i+1) (es.drop i) (by rw [hl3];exact Nat.le_refl _) (by rw [List.length_drop,hl];omega)
  have e3:(es.take i++[y]).take (i+1)++es.drop i++(es.take i++[y]).drop (i+1+(es.drop i).length)=es.take i++y :: es.drop i:=by
   rw [show (es.take i++[y]).take (i+1)=es.take i++[y] from List.take_of_length_le (by omega),show (es.take i++[y]).drop (i+1+(es.drop i).length)=[] from List.drop_eq_nil_of_le (by rw [hl3];omega),List.append_nil,List.append_assoc,List.singleton_append]
  rw [e3] at b3
  have hl4:(es.take i++y :: es.drop i).length=n+1:=by rw [List.length_append,htl2,List.length_cons,List.length_drop,hl];omega
  refine ⟨?_,?_⟩
  ·have:=own_of b3 d3 (by rw [hl4];exact hGn)
   rw [hl4] at this
   rw [Nat.mul_one] at this
   exact this
  ·refine below_sets _ _ _ ?_ _ (Nat.le_refl _)
   show Below w.heap.size w W2.drew
   rw [hW2]
   refine Below.drew (below_sets _ _ _ ?_ _ (Nat.le_refl _))
   rw [hW1]
   exact ((Below.refl w.heap.size w).drew).alloc (Nat.le_refl _) _)
 have hGi:¬ (G=i):=by omega
 have hGim:¬ (G=i+1):=by omega
 have hci:¬ (c=i):=by omega
 have hG63:G≤9223372036854775807:=by have:=hGm;simp only [maxLen] at this;omega
 have hz2:((i:Int)==(n:Int))=false:=beq_eq_false_iff_ne.2 (by omega)
 have hz2':¬ ((i:Int)=(n:Int)):=by omega
 have hz3:(c:Int) < (n:Int)+1:=by omega
 have hw0:(0:Int)≤(i:Int)+1:=by omega
 have hw1:IntKind.i64.wrap ((i:Int)+1)=(i:Int)+1:=by rw [IntKind.wrap_i64];omega
 have hw2:IntKind.i64.wrap ((n:Int)+1)=(n:Int)+1:=by rw [IntKind.wrap_i64];omega
 have hw3:IntKind.i64.wrap ((n:Int)+1 - (i:Int))=(n:Int)+1 - (i:Int):=by rw [IntKind.wrap_i64];omega
 have hin:i≤n:=by omega
 have hic:i≤c:=by omega
 have hin4:i≤n+1:=by omega
 have hin3:i+1≤n+1:=by omega
 have hb3:(i:Int)≤(n:Int)+1:=by omega
 have hb5:(i:Int)≤(n:Int):=by omega
 have HRZ:=Lib.hid hrz
 have HCPB:=Lib.hid hcpB
 clear hrz hcpB hROW hRl hrow hN hNf hOld hW1 hW2 hdl htl hkk hik srcG hsplit hold hG hGm hb hnb hz0 hi0 ht hzs hsz hs0 hby0
 go_enter Tryz.func123,Tryz.ntmps123
 go_wp2_with (at_builtin;refine Lib.wpList_append_run _ rfl _ _ _ _ rfl _ _ rfl rfl _ _ (HRZ.out _) ?_)
 go_region_law (refine step_copy_runI rfl (.tmp 50) (.tmp 53) 25 25 rfl (.slice (some ⟨w.heap.size,(i+1),none⟩) (n - i) (G - (i+1))) (.slice (some ⟨g,i,none⟩) (n - i) (c - i)) (by simp [Act.eval,Act.put]) (by simp [Act.eval,Act.put]) (HCPB.out _ _ _) ?_)
 go_wp2_with fail
 go_ret
 exact ⟨G,rfl,HF.out⟩
theorem insNAll (base:Nat) (v:Value) (es:List (Cl 1)) (i nb cb:Nat) (y:Cl 1) (w:World) (hown:w.ownsRow base 3 1 v es.length (es.flatMap Subtype.val)) (hi:i≤es.length) (hbig:(es.length+1)*8≤140737488355328) (hnb:Bn w nb 3 y.1) (hne:v.ownBlock≠some nb) (hbase:base≤w.heap.size) :
  Calls Tryz.prog 123 #[v,.int .i64 i,.slice (some ⟨nb,0,none⟩) 1 cb] w fun e w'=>∃ ao m c,e=.returned (.slice ao m c)∧w'.ownsRow base 3 1 (.slice ao m c) (es.length+1) ((es.take i++y :: es.drop i).flatMap Subtype.val)∧w.grownBy w' v.ownBlock∧((Value.slice ao m c).ownBlock=v.ownBlock∨(Value.slice ao m c).ownBlock=some w.heap.size):=by
 by_cases hend:i=es.length
 ·obtain ⟨z,hE⟩:=elemint
  have HE:=Lib.hid hE
  have HOWN:=Lib.hid hown
  have HNB:=Lib.hid hnb
  obtain ⟨n,hn⟩:∃ n,n=es.length:=⟨_,rfl⟩
  obtain ⟨p,m,c,rfl⟩:=own_sl hown
  obtain ⟨hmn,hcn,hnil,hat⟩:=own_cap hown
  subst hmn
  rw [← hn] at HOWN hcn hbig hend ⊢
  subst hend
  have hyl:y.1.length=1*1:=by rw [y.len]
  have hes:es.take i=es:=List.take_of_length_le (by omega)
  have hes2:es.drop i=[]:=List.drop_eq_nil_of_le (by omega)
  rw [hes,hes2,List.flatMap_append,List.flatMap_cons,List.flatMap_nil,List.append_nil]
  obtain ⟨fs,hfs⟩:∃ fs,fs=es.flatMap Subtype.val:=⟨_,rfl⟩
  rw [← hfs] at HOWN ⊢
  have hc63:c≤9223372036854775807:=by
   rcases hown.2 with ⟨hv,_⟩|⟨g',cap',cur,hv,_,_,_,hm,_⟩
   ·simp only [Value.slice.injEq] at hv;omega
   ·simp only [Value.slice.injEq] at hv
    have:=hm
    simp only [maxLen] at this
    omega
  rw [← hn] at hown
  obtain ⟨ob,hob⟩:∃ ob,ob=(Value.slice p i c).ownBlock:=⟨_,rfl⟩
  have HOB:=Lib.hid hob
  rw [← hob]
  clear hes hes2 hnil hat hE hown hnb hfs hn hi hob hne
  go_enter Tryz.func123,Tryz.ntmps123
  go_wp2_with (at_builtin;refine wpList_append_own2 rfl (.tmp 23) (.tmp 24) 25 rfl base HE.out (.slice p i c) i fs rfl HOWN.out ⟨nb,0,none⟩ 1 cb y.1 rfl hyl (fun j u hj=>by rw [Addr.add_lit,Nat.zero_add];exact HNB.out.cell j u hj) y.one (by simp only [maxLen];omega) hbig hbase (by decide) ?_;intro v1 w1 own1 gr1 fr1;have O1:=Lib.hid own1;have G1:=Lib.hid gr1;have F1:=Lib.hid fr1;clear own1 gr1 fr1)
  all_goals
   go_ret
   obtain ⟨p1,m1,c1,rfl⟩:=own_sl O1.out
   exact ⟨_,_,_,rfl,O1.out,by rw [HOB.out];exact G1.out,by rw [HOB.out];exact F1.out⟩
 ·have hlt:i < es.length:=by omega
  rcases own_form hown with ⟨cap,rfl,h0⟩|⟨g,c,rfl⟩
  ·omega
  ·have hgb:=(hown.lt g rfl)
   obtain ⟨_,hcn,_,_⟩:=own_cap hown
   have hne2:nb≠g:=fun e=>hne (by rw [e];rfl)
   have hb:=own_blkC hown rfl
   have hd:=hdC_of hown
   by_cases hroom:es.length+1≤c
   ·refine (insNShift base g es.length c i nb cb es y w hb hd rfl hlt hroom hnb hne2).mono ?_
    rintro e w' ⟨rfl,rfl⟩
    refine ⟨_,_,_,rfl,?_,⟨?_,?_,?_,by rw [sets_size,sets_size];exact Nat.le_refl _,fun q hq hr=>?_⟩,.inl rfl⟩
    ·obtain ⟨b1,d1⟩:=BlkC.write (w:=w.drew) hb hd (i+1) (es.drop i) (by omega) (by rw [List.length_drop];omega)
     have e1:es.take (i+1)++es.drop i++es.drop (i+1+(es.drop i).length)=es.take (i+1)++es.drop i:=by
      rw [show es.drop (i+1+(es.drop i).length)=[] from List.drop_eq_nil_of_le (by rw [List.length_drop];omega),List.append_nil]
     rw [e1] at b1
     have l1:(es.take (i+1)++es.drop i).length=es.length+1:=by rw [List.length_append,List.length_take,List.length_drop];omega
     obtain ⟨b2,d2⟩:=BlkC.write b1 d1 i [y] (by omega) (by rw [List.length_singleton];omega)
     have e2:(es.take (i+1)++es.drop i).take i++[y]++(es.take (i+1)++es.drop i).drop (i+[y].length)=es.take i++y :: es.drop i:=by
      rw [List.take_append_of_le_length (by rw [List.length_take];omega),List.take_take,Nat.min_eq_left (by omega),List.length_singleton,List.drop_left' (by rw [List.length_take];omega),List.append_assoc,List.singleton_append]
     rw [e2,List.flatMap_cons,List.flatMap_nil,List.append_nil] at b2
     rw [List.flatMap_cons,List.flatMap_nil,List.append_nil] at d2
     have l2:(es.take i++y :: es.drop i).length=es.length+1:=by rw [List.length_append,List.length_take,List.length_cons,List.length_drop];omega
     have:=own_of b2 d2 (by rw [l2];exact hroom)
     rw [l2] at this
     simp only [Nat.mul_one] at this
     exact this
    ·have:=below_sets y.1 (i) _ (below_sets ((es.drop i).flatMap Subtype.val) ((i+1)) _ ((Below.refl base w).drew) g hgb.1) g hgb.1
     exact this.os
    ·have:=below_sets y.1 (i) _ (below_sets ((es.drop i).flatMap Subtype.val) ((i+1)) _ ((Below.refl base w).drew) g hgb.1) g hgb.1
     exact this.tape
    ·have:=below_sets y.1 (i) _ (below_sets ((es.drop i).flatMap Subtype.val) ((i+1)) _ ((Below.refl base w).drew) g hgb.1) g hgb.1
     exact this.output
    ·have hqg:q≠g:=fun e=>hr (by rw [e];rfl)
     rw [heap_sets _ _ _ _ q hqg,heap_sets _ _ _ _ q hqg]
     rfl
   ·refine (insNGrow base g es.length c i nb cb es y w hb rfl hlt hcn (by omega) hbig hnb hbase).mono ?_
    rintro e w' ⟨G,rfl,own,bel⟩
    exact ⟨_,_,_,rfl,own,⟨bel.os,bel.tape,bel.output,bel.size,fun q hq _=>bel.block q hq⟩,.inr rfl⟩
end Go.Proofs.YtmloamomcbmfhaaGreat
end
section
namespace Go.Proofs.YtmloamomcbmfhaaGreat
open Go Cg Go.RowKit Go.Sort
theorem own2_ctm {P:Program} {f:FuncId} {ty k ty2 k2:Nat} {a:AV} {xs xs' xs2:List (List Tr)} (he:Ent P f)
  (hr:∀ (n0:Nat) (w:World) (v u v2:Value) (es:List (Cl k)) (es2:List (Cl k2)) (E0:Env),n0≤w.heap.size→w.ownsRow n0 ty k v es.length (es.flatMap Subtype.val)→Ets E0.F w es xs→w.ownsRow n0 ty2 k2 v2 es2.length (es2.flatMap Subtype.val)→Ets E0.F w es2 xs2→(∀ g,v.ownBlock=some g→v2.ownBlock≠some g)→R1 E0 w u a→Calls P f #[v,u,v2] w fun e w'=>∃ (v':Value) (es':List (Cl k)),e=.returned v'∧w'.ownsRow n0 ty k v' es'.length (es'.flatMap Subtype.val)∧w.grownBy w' v.ownBlock∧(∀ g,v'.ownBlock=some g→v.ownBlock=some g∨w.heap.size≤g)∧∀ F:Nat→Prop,Ets F w es xs→Ets F w es2 xs2→(∀ b,F b→b < w.heap.size→w'.heap[b]? = w.heap[b]?)→Ets F w' es' xs') :
  CtM P f [.c (.row 0 0),a,.c (.row 1 0)] [] [⟨ty,k,0,xs,none⟩,⟨ty2,k2,0,xs2,none⟩] (.c (.row 0 1)) [] [⟨ty,k,1,xs',none⟩,⟨ty2,k2,0,xs2,none⟩] []:=by
 refine ⟨he,Nat.zero_le _,fun R hR=>?_,rfl,rfl,fun b hb=>(by cases hb),fun p hp=>?_,fun i cs h=>(by simp at h),fun w0 w vs E0 hb0 ha hbx hrw hrl hlow=>?_⟩
 ·simp only [List.append_nil,List.mem_cons,List.not_mem_nil,or_false] at hR
  rcases hR with rfl|rfl <;> rfl
 ·obtain rfl:p=(0,1):=by simpa [AV.rids,AV.rid1,Ce.rids] using hp
  exact ⟨_,rfl,Nat.le_refl _⟩
 cases ha with
 | cons hv hus=>
 cases hus with
 | cons hu hus=>
 cases hus with
 | cons hv2 hus=>
  cases hus
  rename_i v u v2
  have hR2:RR E0 w w0.heap.size 1 ⟨ty2,k2,0,xs2,none⟩:=hrw 1 _ rfl
  obtain ⟨es,h1,h2,h3⟩:=(hrw 0 _ rfl).ow rfl
  obtain ⟨es2,g1,g2,g3⟩:=hR2.ow rfl
  have hv0:v=E0.vl 0 0:=hv.1
  have hv20:v2=E0.vl 1 0:=hv2.1
  simp only at h1 h3 g1 g3
  rw [← hv0] at h1 h3
  rw [← hv20] at g1 g3
  refine (hr w0.heap.size w v u v2 es es2 E0 hb0.size h1 h2 g1 g2 (fun g q1 q2=>by
   have:=(h3 g q1).symm.trans (g3 g q2)
   cases this) hu).mono ?_
  rintro e w' ⟨v',es',rfl,hown,hg,hob,hets⟩
  have hne:∀ b,b < w.heap.size→E0.rl b=.cold∨E0.rl b=.non∨E0.rl b=.rw 1→w'.heap[b]? = w.heap[b]?:=fun b hlt hc=>hg.block b hlt fun e=>by
   rw [h3 b e.symm] at hc
   rcases hc with h|h|h <;> cases h
  refine ⟨v',rfl,⟨hg.os.trans hb0.os,hg.tape.trans hb0.tape,hg.output.trans hb0.output,Nat.le_trans hb0.size hg.size,fun b hb=>(hne b (Nat.lt_of_lt_of_le hb hb0.size) (by rcases hlow b hb with h|h;exact .inl h;exact .inr (.inl h))).trans (hb0.block b hb)⟩,hg.size,⟨fun b=>if b < w.heap.size then E0.rl b else .rw 0,E0.bk,fun j u=>if j=0∧u=1 then v' else E0.vl j u⟩,⟨by simp,own_one hown⟩,fun i hi=>(by simp at hi),fun i cs h=>(by simp at h),fun j R hj=>?_,fun j hj=>?_,fun b hlt hc=>⟨hne b hlt (by rcases hc with h|h;exact .inl h;exact .inr (.inl h)),?_⟩⟩
  ·cases j with
   | succ j=>
    cases j with
    | succ j=>simp at hj
    | zero=>
     obtain rfl:=Option.some.inj hj
     refine Ow.rr rfl ((hR2.ow rfl).fr hg.size (fun b hb hlt=>⟨hne b hlt (.inl hb),?_⟩) (fun g hg2 hlt hq=>⟨hne g hlt (.inr (.inr hq)),?_⟩))
     ·show (if b < w.heap.size then E0.rl b else BRole.rw 0)=.cold
      rw [if_pos hlt]
      exact hb
     ·show (if g < w.heap.size then E0.rl g else BRole.rw 0)=.rw 1
      rw [if_pos hlt]
      exact hq
   | zero=>
    obtain rfl:=Option.some.inj hj
    refine Ow.rr rfl ⟨es',by simpa using hown,?_,fun g hg2=>?_⟩
    ·refine (hets (fun b=>E0.rl b=.cold∧b < w.heap.size) (h2.fr (Nat.le_refl _) (fun _ _ _=>rfl) fun b hb hlt=>⟨hb,hlt⟩) (g2.fr (Nat.le_refl _) (fun _ _ _=>rfl) fun b hb hlt=>⟨hb,hlt⟩) (fun b hb hlt=>hne b hlt (.inl hb.1))).fr (Nat.le_refl _) (fun _ _ _=>rfl) fun b hb _=>?_
     show (if b < w.heap.size then E0.rl b else BRole.rw 0)=.cold
     rw [if_pos hb.2]
     exact hb.1
    ·have hg2:v'.ownBlock=some g:=by simpa using hg2
     show (if g < w.heap.size then E0.rl g else BRole.rw 0)=.rw 0
     split
     ·rename_i hlt
      rcases hob g hg2 with h|h
      ·exact h3 g h
      ·omega
     ·rfl
  ·show (if j=0∧0=1 then v' else E0.vl j 0)=E0.vl j 0
   rw [if_neg (by omega)]
  ·show (if b < w.heap.size then E0.rl b else BRole.rw 0)=E0.rl b
   rw [if_pos hlt]
theorem insN_ctm (l:List Int) (n:Int) (hl:l.length*8≤limB):CtM Tryz.prog 123 [.c (.row 0 0),.c (.t (iv 0)),.c (.row 1 0)] [] [⟨3,1,0,l.map eI,none⟩,⟨3,1,0,[[iv n]],none⟩] (.c (.row 0 1)) [] [⟨3,1,1,(n :: l).map eI,none⟩,⟨3,1,0,[[iv n]],none⟩] []:=by
 refine own2_ctm (enters_of Tryz.func123 (by kernel_rfl) rfl) fun n0 w v u v2 es es2 E0 hn h1 h2 g1 g2 hno hu=>?_
 have hu:RT E0.F w u (.lit (.int .i64 0)):=hu
 cases hu
 have hlen:es.length=l.length:=by rw [h2.len,Lm]
 have hlen2:es2.length=1:=g2.len
 obtain ⟨y,rfl⟩:=List.length_eq_one_iff.1 hlen2
 obtain ⟨nb,cb,cur,rfl,q1,q2,q3,q4,q5,q6,q7⟩:=own_at g1 (i:=0) (x:=y) rfl
 have hBn:Bn w nb 3 y.1:=⟨cur,q2,fun j u hju=>by
  have hj:j < 1:=by have:=(List.getElem?_eq_some_iff.1 hju).1;rwa [Cl.len] at this
  have q:=congrArg (fun xs=>xs[j]?) q6
  simp only [List.flatMap_cons,List.flatMap_nil,List.append_nil,List.length_singleton,Nat.one_mul,List.getElem?_take] at q
  rw [if_pos hj,Array.getElem?_toList,hju] at q
  exact q⟩
 refine (insNAll n0 v es 0 nb cb y w h1 (Nat.zero_le _) (by rw [hlen];unfold limB at hl;omega) hBn (fun e=>hno nb e rfl) hn).mono ?_
 rintro e w' ⟨ao,m,c,rfl,own,grow,hob⟩
 refine ⟨_,y :: es,rfl,own,grow,fun g hg=>?_,fun F hF hF2 hsame=>?_⟩
 ·rcases hob with h|h
  ·exact .inl (h▸hg)
  ·rw [h] at hg
   injection hg with hg
   exact .inr (Nat.le_of_eq hg)
 ·have a1:Ets F w' es (l.map eI):=hF.fr grow.size hsame fun b hb _=>hb
  have a2:Ets F w' [y] [[iv n]]:=hF2.fr grow.size hsame fun b hb _=>hb
  refine ⟨by rw [List.length_cons,Lm,List.length_cons,hlen],fun j vs ts e1 e2=>?_⟩
  cases j with
  | zero=>exact a2.at_ 0 vs ts e1 e2
  | succ j=>exact a1.at_ j vs ts e1 e2
def cellsO (s:GState):List Ce:=[.row 0 0,.row 1 1,.row 2 0,.row 3 0,.row 4 0]++(s.enc.drop 5).map .t
def rowsO (s:GState):List Row:=[plR s,⟨49,19,1,s.objects.map GObject.enc,none⟩,⟨3,1,0,s.battlefield.map eI,none⟩,⟨3,1,0,s.exile.map eI,none⟩,⟨91,94,0,s.stack.map GItem.enc,none⟩]
theorem putF_ct (x o:GObject):Ct Tryz.prog 168 [.agg (x.enc.map .t),.iptr o.enc 0] (AV.b (decide (x.id > o.id))) [] true:=by
 refine Ct.lit (b:=false) ?_ rfl
 refine ct_of Tryz.func168 rfl (enters_of Tryz.func168 (by kernel_rfl) rfl) tabOk (by kernel_rfl) rfl rfl rfl rfl fun w0 O _=>Tp.run [] ?_
 refine Ei [] (Ai rfl (Ai trivial ?_))
 repeat' first|refine Ai ?_ ?_|exact rfl|exact trivial|exact Ei _ rfl|refine lN ?_|refine bS ?_|fail
theorem fidx_none {α:Type} {p:α→Bool} {l:List α} (h:∀ x∈l,p x=false):fidx p l = -1:=by
 rcases fidx_cases p l with ⟨e,_,_⟩|⟨i,hi,_,e2,_⟩
 ·exact e
 ·obtain ⟨h1,h2,_⟩:=List.findIdx?_eq_some_iff_getElem.1 e2
  rw [h _ (List.getElem_mem h1)] at h2
  cases h2
theorem put_ctm (s:GState) (o:GObject) (hs:s.objects.length*128≤limB) (hno:∀ x∈s.objects,x.id < o.id):CtM Tryz.prog 121 [.agg (cells5 s),.agg (o.enc.map .t)] [] (rows5 s) (.agg (cellsO { s with objects:=s.objects++[o] })) [] (rowsO { s with objects:=s.objects++[o] }) []:=by
 have e1:placeM s.objects o.id = -1:=fidx_none fun x hx=>beq_eq_false_iff_ne.2 (by have:=hno x hx;omega)
 have e2:fidx (fun x:GObject=>decide (x.id > o.id)) s.objects = -1:=fidx_none fun x hx=>decide_eq_false (by have:=hno x hx;omega)
 have hp:=placeP_ct s o.id hs
 have hi:=indexO_ct s.objects (fun x:GObject=>decide (x.id > o.id)) 168 [(o.enc,0)] (fun x=>putF_ct x o) hs
 rw [e1] at hp
 rw [e2] at hi
 refine ctm_of 5 Tryz.func121 rfl (enters_of Tryz.func121 (by kernel_rfl) rfl) tabOk (by kernel_rfl) rfl rfl rfl rfl rfl fun w0 O _=>Tp.run [8] ?_
 refine cI hp ⟨?_,rfl,trivial⟩ (.inl rfl) ?_
 ·repeat' first|refine Ai ?_ ?_|exact rfl|exact trivial|exact Ei _ rfl|refine lN ?_|refine bS ?_|fail
 refine cI hi ⟨?_,?_,trivial⟩ (.inl rfl) ?_
 ·repeat' first|refine Ai ?_ ?_|exact rfl|exact trivial|exact Ei _ rfl|refine lN ?_|refine bS ?_|fail
 ·repeat' first|refine Ai ?_ ?_|exact rfl|exact trivial|exact Ei _ rfl|refine lN ?_|refine bS ?_|fail
 refine Tp.run [] ?_
 refine cM [] [(1,0),(3205,0)] (insO_ctm s.objects o hs) ?_ ?_ ?_
 ·repeat' first|refine Ai ?_ ?_|exact rfl|exact trivial|exact Ei _ rfl|refine lN ?_|refine bS ?_|fail
  exact congrArg (fun n:Nat=>iv (n:Int)) (Lm GObject.enc)
 ·exact rfl
 refine Ei [(0,0),(1,1),(2,2),(3,3),(4,4)] (Ai (Ai rfl (Ai ?_ (Ai ?_ ?_))) ?_)
 all_goals repeat' first|refine Ai ?_ ?_|exact rfl|exact trivial|exact Ei _ rfl|refine lN ?_|refine bS ?_|fail
def delS (s:GState) (i:Nat):GState:={ s with objects:=s.objects.take i++s.objects.drop (i+1) }
def cutN (l:List Int) (id:Int):List Int:=l.filter fun n=>!(fun n=>n==id) n
def cutI (l:List GItem) (id:Int):List GItem:=l.filter fun x=>!(fun x:GItem=>x.id==id&&x.kind==1) x
def rowO (s:GState) (i:Nat):Row:=⟨49,19,1,(delS s i).objects.map GObject.enc,none⟩
def rowI (s:GState) (id:Int):Row:=⟨91,94,1,(cutI s.stack id).map GItem.enc,none⟩
def rowL (v:Nat) (l:List Int):Row:=⟨3,1,v,l.map eI,none⟩
def rowP (s:GState) (l:List GPlayer):Row:=⟨47,14,0,l.map GPlayer.enc,some ⟨plD,s.players.length,[]⟩⟩
theorem delS_enc (s:GState) (i:Nat):(s.objects.map GObject.enc).take i++(s.objects.map GObject.enc).drop (i+1)=(delS s i).objects.map GObject.enc:=((List.map_append (f:=GObject.enc) (l₁:=s.objects.take i) (l₂:=s.objects.drop (i+1))).trans (by rw [List.map_take,List.map_drop])).symm
theorem pl_set (l:List GPlayer) (p:Nat) (A B:List Tr) (q:GPlayer) (hB:B=q.enc):((l.map GPlayer.enc).set p A).set p B=(l.set p q).map GPlayer.enc:=by rw [List.set_set,List.map_set,hB]
theorem remove_bf (s:GState) (i:Nat) (hi:i < s.objects.length) (h:s.ok) (hp:placeM s.objects s.objects[i].id=i) (hz:s.objects[i].zone=0):CtM Tryz.prog 119 [.agg (cells5 s),.agg (s.objects[i].enc.map .t)] [] (rows5 s) (.agg ([.row 0 0,.row 1 1,.row 5 0,.row 3 0,.row 4 1]++(s.enc.drop 5).map .t)) [] [plR s,rowO s i,rowL 0 s.battlefield,rowL 0 s.exile,rowI s s.objects[i].id] [rowL 0 (cutN s.battlefield s.objects[i].id)]:=by
 generalize ho:s.objects[i]=o at *
 have hpl:=placeP_ct s o.id h.2.2.1
 rw [hp] at hpl
 have hl:=list_bf (delS s i) o.owner
 rw [← hz] at hl
 have hst:s.stack.length*824≤limB:=h.2.2.2.2.2.2.1
 have hbt:s.battlefield.length*8≤limB:=h.2.2.2.2.1
 have hxt:s.exile.length*8≤limB:=h.2.2.2.2.2.1
 refine ctm_of 5 Tryz.func119 rfl (enters_of Tryz.func119 (by kernel_rfl) rfl) tabOk (by kernel_rfl) rfl rfl rfl rfl rfl fun w0 O _=>Tp.run [5,6] ?_
 refine cI hpl ⟨?_,rfl,trivial⟩ (.inl rfl) ?_
 ·repeat' first|refine Ai ?_ ?_|exact rfl|exact trivial|exact Ei _ rfl|refine lN ?_|refine bS ?_|fail
 refine cM [] [(1,0)] (deleteO_ctm s.objects i hi) ?_ ?_ ?_
 ·repeat' first|refine Ai ?_ ?_|exact rfl|exact trivial|exact Ei _ rfl|refine lN ?_|refine bS ?_|fail
  exact succ_eq i hi 128 (by decide) h.2.2.1
 ·exact rfl
 refine cM [5] [(0,0),(1,1),(2,0),(3,0),(4,0)] hl ?_ ?_ ?_
 ·repeat' first|refine Ai ?_ ?_|exact rfl|exact trivial|exact Ei _ rfl|refine lN ?_|refine bS ?_|fail
  exact (delS_enc s i).symm
 ·exact rfl
 refine Tp.run [] ?_
 refine cI (withoutP_ct s.battlefield o.id hbt) ⟨?_,rfl,trivial⟩ (.inl rfl) ?_
 ·repeat' first|refine Ai ?_ ?_|exact rfl|exact trivial|exact Ei _ rfl|refine lN ?_|refine bS ?_|fail
 refine Tp.run [] ?_
 refine cM [133] [(4,0)] (delI_ctm s.stack o hst) ?_ ?_ ?_
 ·repeat' first|refine Ai ?_ ?_|exact rfl|exact trivial|exact Ei _ rfl|refine lN ?_|refine bS ?_|fail
 ·exact rfl
 refine Ei [(0,0),(1,1),(2,2),(3,3),(4,4),(5,3845)] (Ai (Ai rfl (Ai ?_ (Ai ?_ ?_))) ?_)
 all_goals repeat' first|refine Ai ?_ ?_|exact rfl|exact trivial|exact Ei _ rfl|refine lN ?_|refine bS ?_|fail
theorem remove_ex (s:GState) (i:Nat) (hi:i < s.objects.length) (h:s.ok) (hp:placeM s.objects s.objects[i].id=i) (hz:s.objects[i].zone=4):CtM Tryz.prog 119 [.agg (cells5 s),.agg (s.objects[i].enc.map .t)] [] (rows5 s) (.agg ([.row 0 0,.row 1 1,.row 2 0,.row 5 0,.row 4 1]++(s.enc.drop 5).map .t)) [] [plR s,rowO s i,rowL 0 s.battlefield,rowL 0 s.exile,rowI s s.objects[i].id] [rowL 0 (cutN s.exile s.objects[i].id)]:=by
 generalize ho:s.objects[i]=o at *
 have hpl:=placeP_ct s o.id h.2.2.1
 rw [hp] at hpl
 have hl:=list_ex (delS s i) o.owner
 rw [← hz] at hl
 have hst:s.stack.length*824≤limB:=h.2.2.2.2.2.2.1
 have hbt:s.battlefield.length*8≤limB:=h.2.2.2.2.1
 have hxt:s.exile.length*8≤limB:=h.2.2.2.2.2.1
 refine ctm_of 5 Tryz.func119 rfl (enters_of Tryz.func119 (by kernel_rfl) rfl) tabOk (by kernel_rfl) rfl rfl rfl rfl rfl fun w0 O _=>Tp.run [5,6] ?_
 refine cI hpl ⟨?_,rfl,trivial⟩ (.inl rfl) ?_
 ·repeat' first|refine Ai ?_ ?_|exact rfl|exact trivial|exact Ei _ rfl|refine lN ?_|refine bS ?_|fail
 refine cM [] [(1,0)] (deleteO_ctm s.objects i hi) ?_ ?_ ?_
 ·repeat' first|refine Ai ?_ ?_|exact rfl|exact trivial|exact Ei _ rfl|refine lN ?_|refine bS ?_|fail
  exact succ_eq i hi 128 (by decide) h.2.2.1
 ·exact rfl
 refine cM [5] [(0,0),(1,1),(2,0),(3,0),(4,0)] hl ?_ ?_ ?_
 ·repeat' first|refine Ai ?_ ?_|exact rfl|exact trivial|exact Ei _ rfl|refine lN ?_|refine bS ?_|fail
  exact (delS_enc s i).symm
 ·exact rfl
 refine Tp.run [] ?_
 refine cI (withoutP_ct s.exile o.id hxt) ⟨?_,rfl,trivial⟩ (.inl rfl) ?_
 ·repeat' first|refine Ai ?_ ?_|exact rfl|exact trivial|exact Ei _ rfl|refine lN ?_|refine bS ?_|fail
 refine Tp.run [] ?_
 refine cM [133] [(4,0)] (delI_ctm s.stack o hst) ?_ ?_ ?_
 ·repeat' first|refine Ai ?_ ?_|exact rfl|exact trivial|exact Ei _ rfl|refine lN ?_|refine bS ?_|fail
 ·exact rfl
 refine Ei [(0,0),(1,1),(2,2),(3,3),(4,4),(5,3845)] (Ai (Ai rfl (Ai ?_ (Ai ?_ ?_))) ?_)
 all_goals repeat' first|refine Ai ?_ ?_|exact rfl|exact trivial|exact Ei _ rfl|refine lN ?_|refine bS ?_|fail
theorem remove_hand (s:GState) (i:Nat) (hi:i < s.objects.length) (h:s.ok) (hp:placeM s.objects s.objects[i].id=i) (hz:s.objects[i].zone=1) (p:Nat) (hpo:s.objects[i].owner=(p:Int)) (hpl:p < s.players.length):CtM Tryz.prog 119 [.agg (cells5 s),.agg (s.objects[i].enc.map .t)] [] (rows5 s) (.agg ([.row 0 0,.row 1 1,.row 2 0,.row 3 0,.row 4 1]++(s.enc.drop 5).map .t)) [] [rowP s (s.players.set p { s.players[p] with hand:=cutN s.players[p].hand s.objects[i].id }),rowO s i,rowL 0 s.battlefield,rowL 0 s.exile,rowI s s.objects[i].id] []:=by
 generalize ho:s.objects[i]=o at *
 have hqo:=placeP_ct s o.id h.2.2.1
 rw [hp] at hqo
 have hl:=list_hand (delS s i) p hpl
 rw [← hz,← hpo] at hl
 have hst:s.stack.length*824≤limB:=h.2.2.2.2.2.2.1
 have hbt:s.battlefield.length*8≤limB:=h.2.2.2.2.1
 have hxt:s.exile.length*8≤limB:=h.2.2.2.2.2.1
 refine ctm_of 5 Tryz.func119 rfl (enters_of Tryz.func119 (by kernel_rfl) rfl) tabOk (by kernel_rfl) rfl rfl rfl rfl rfl fun w0 O _=>Tp.run [5,6] ?_
 refine cI hqo ⟨?_,rfl,trivial⟩ (.inl rfl) ?_
 ·repeat' first|refine Ai ?_ ?_|exact rfl|exact trivial|exact Ei _ rfl|refine lN ?_|refine bS ?_|fail
 refine cM [] [(1,0)] (deleteO_ctm s.objects i hi) ?_ ?_ ?_
 ·repeat' first|refine Ai ?_ ?_|exact rfl|exact trivial|exact Ei _ rfl|refine lN ?_|refine bS ?_|fail
  exact succ_eq i hi 128 (by decide) h.2.2.1
 ·exact rfl
 refine cM [5] [(0,0),(1,1),(2,0),(3,0),(4,0)] hl ?_ ?_ ?_
 ·repeat' first|refine Ai ?_ ?_|exact rfl|exact trivial|exact Ei _ rfl|refine lN ?_|refine bS ?_|fail
  exact (delS_enc s i).symm
 ·exact rfl
 have hplm:p < (s.players.map GPlayer.enc).length:=by rw [Lm];exact hpl
 have hll:s.players[p].hand.length*8≤limB:=(h.2.1 _ (List.getElem_mem hpl)).2.1
 refine Tp.take 0 p 12 3 1 (ts:=s.players[p].enc) (ys:=s.players[p].hand.map eI) rfl rfl rfl (by simp [plD]) hpl (map_get _ _ p hpl) rfl ?_
 refine Tp.run [] ?_
 refine Ai rfl (Ai hplm (Ai (Nb rfl) ?_))
 refine cI (withoutP_ct s.players[p].hand o.id hll) ⟨?_,rfl,trivial⟩ (.inl rfl) ?_
 ·repeat' first|refine Ai ?_ ?_|exact rfl|exact trivial|exact Ei _ rfl|refine lN ?_|refine bS ?_|fail
 refine Ei (s.players[p].enc) (Ai (map_get _ _ p hpl) (Ai (Nb rfl) (Ai (Ai rfl trivial) (Ai (.inl rfl) ?_))))
 refine Tp.put 0 p s.players.length rfl rfl (List.getElem?_set_self hplm) rfl (Ai rfl trivial) rfl (.inl (Ai rfl hpl)) ?_
 refine Tp.run [] ?_
 refine cM [133] [(4,0)] (delI_ctm s.stack o hst) ?_ ?_ ?_
 ·repeat' first|refine Ai ?_ ?_|exact rfl|exact trivial|exact Ei _ rfl|refine lN ?_|refine bS ?_|fail
 ·exact rfl
 refine Ei [(0,0),(1,1),(2,2),(3,3),(4,4)] (Ai (Ai rfl (Ai ?_ (Ai ?_ ?_))) ?_)
 ·repeat' first|refine Ai ?_ ?_|exact rfl|exact trivial|exact Ei _ rfl|refine lN ?_|refine bS ?_|fail
  exact pl_set s.players p _ _ _ rfl
 all_goals repeat' first|refine Ai ?_ ?_|exact rfl|exact trivial|exact Ei _ rfl|refine lN ?_|refine bS ?_|fail
theorem remove_lib (s:GState) (i:Nat) (hi:i < s.objects.length) (h:s.ok) (hp:placeM s.objects s.objects[i].id=i) (hz:s.objects[i].zone=2) (p:Nat) (hpo:s.objects[i].owner=(p:Int)) (hpl:p < s.players.length):CtM Tryz.prog 119 [.agg (cells5 s),.agg (s.objects[i].enc.map .t)] [] (rows5 s) (.agg ([.row 0 0,.row 1 1,.row 2 0,.row 3 0,.row 4 1]++(s.enc.drop 5).map .t)) [] [rowP s (s.players.set p { s.players[p] with library:=cutN s.players[p].library s.objects[i].id }),rowO s i,rowL 0 s.battlefield,rowL 0 s.exile,rowI s s.objects[i].id] []:=by
 generalize ho:s.objects[i]=o at *
 have hqo:=placeP_ct s o.id h.2.2.1
 rw [hp] at hqo
 have hl:=list_lib (delS s i) p hpl
 rw [← hz,← hpo] at hl
 have hst:s.stack.length*824≤limB:=h.2.2.2.2.2.2.1
 have hbt:s.battlefield.length*8≤limB:=h.2.2.2.2.1
 have hxt:s.exile.length*8≤limB:=h.2.2.2.2.2.1
 refine ctm_of 5 Tryz.func119 rfl (enters_of Tryz.func119 (by kernel_rfl) rfl) tabOk (by kernel_rfl) rfl rfl rfl rfl rfl fun w0 O _=>Tp.run [5,6] ?_
 refine cI hqo ⟨?_,rfl,trivial⟩ (.inl rfl) ?_
 ·repeat' first|refine Ai ?_ ?_|exact rfl|exact trivial|exact Ei _ rfl|refine lN ?_|refine bS ?_|fail
 refine cM [] [(1,0)] (deleteO_ctm s.objects i hi) ?_ ?_ ?_
 ·repeat' first|refine Ai ?_ ?_|exact rfl|exact trivial|exact Ei _ rfl|refine lN ?_|refine bS ?_|fail
  exact succ_eq i hi 128 (by decide) h.2.2.1
 ·exact rfl
 refine cM [5] [(0,0),(1,1),(2,0),(3,0),(4,0)] hl ?_ ?_ ?_
 ·repeat' first|refine Ai ?_ ?_|exact rfl|exact trivial|exact Ei _ rfl|refine lN ?_|refine bS ?_|fail
  exact (delS_enc s i).symm
 ·exact rfl
 have hplm:p < (s.players.map GPlayer.enc).length:=by rw [Lm];exact hpl
 have hll:s.players[p].library.length*8≤limB:=(h.2.1 _ (List.getElem_mem hpl)).1
 refine Tp.take 0 p 11 3 1 (ts:=s.players[p].enc) (ys:=s.players[p].library.map eI) rfl rfl rfl (by simp [plD]) hpl (map_get _ _ p hpl) rfl ?_
 refine Tp.run [] ?_
 refine Ai rfl (Ai hplm (Ai (Nb rfl) ?_))
 refine cI (withoutP_ct s.players[p].library o.id hll) ⟨?_,rfl,trivial⟩ (.inl rfl) ?_
 ·repeat' first|refine Ai ?_ ?_|exact rfl|exact trivial|exact Ei _ rfl|refine lN ?_|refine bS ?_|fail
 refine Ei (s.players[p].enc) (Ai (map_get _ _ p hpl) (Ai (Nb rfl) (Ai (Ai rfl trivial) (Ai (.inl rfl) ?_))))
 refine Tp.put 0 p s.players.length rfl rfl (List.getElem?_set_self hplm) rfl (Ai rfl trivial) rfl (.inl (Ai rfl hpl)) ?_
 refine Tp.run [] ?_
 refine cM [133] [(4,0)] (delI_ctm s.stack o hst) ?_ ?_ ?_
 ·repeat' first|refine Ai ?_ ?_|exact rfl|exact trivial|exact Ei _ rfl|refine lN ?_|refine bS ?_|fail
 ·exact rfl
 refine Ei [(0,0),(1,1),(2,2),(3,3),(4,4)] (Ai (Ai rfl (Ai ?_ (Ai ?_ ?_))) ?_)
 ·repeat' first|refine Ai ?_ ?_|exact rfl|exact trivial|exact Ei _ rfl|refine lN ?_|refine bS ?_|fail
  exact pl_set s.players p _ _ _ rfl
 all_goals repeat' first|refine Ai ?_ ?_|exact rfl|exact trivial|exact Ei _ rfl|refine lN ?_|refine bS ?_|fail
theorem remove_grave (s:GState) (i:Nat) (hi:i < s.objects.length) (h:s.ok) (hp:placeM s.objects s.objects[i].id=i) (hz:s.objects[i].zone=3) (p:Nat) (hpo:s.objects[i].owner=(p:Int)) (hpl:p < s.players.length):CtM Tryz.prog 119 [.agg (cells5 s),.agg (s.objects[i].enc.map .t)] [] (rows5 s) (.agg ([.row 0 0,.row 1 1,.row 2 0,.row 3 0,.row 4 1]++(s.enc.drop 5).map .t)) [] [rowP s (s.players.set p { s.players[p] with graveyard:=cutN s.players[p].graveyard s.objects[i].id }),rowO s i,rowL 0 s.battlefield,rowL 0 s.exile,rowI s s.objects[i].id] []:=by
 generalize ho:s.objects[i]=o at *
 have hqo:=placeP_ct s o.id h.2.2.1
 rw [hp] at hqo
 have hl:=list_grave (delS s i) p hpl
 rw [← hz,← hpo] at hl
 have hst:s.stack.length*824≤limB:=h.2.2.2.2.2.2.1
 have hbt:s.battlefield.length*8≤limB:=h.2.2.2.2.1
 have hxt:s.exile.length*8≤limB:=h.2.2.2.2.2.1
 refine ctm_of 5 Tryz.func119 rfl (enters_of Tryz.func119 (by kernel_rfl) rfl) tabOk (by kernel_rfl) rfl rfl rfl rfl rfl fun w0 O _=>Tp.run [5,6] ?_
 refine cI hqo ⟨?_,rfl,trivial⟩ (.inl rfl) ?_
 ·repeat' first|refine Ai ?_ ?_|exact rfl|exact trivial|exact Ei _ rfl|refine lN ?_|refine bS ?_|fail
 refine cM [] [(1,0)] (deleteO_ctm s.objects i hi) ?_ ?_ ?_
 ·repeat' first|refine Ai ?_ ?_|exact rfl|exact trivial|exact Ei _ rfl|refine lN ?_|refine bS ?_|fail
  exact succ_eq i hi 128 (by decide) h.2.2.1
 ·exact rfl
 refine cM [5] [(0,0),(1,1),(2,0),(3,0),(4,0)] hl ?_ ?_ ?_
 ·repeat' first|refine Ai ?_ ?_|exact rfl|exact trivial|exact Ei _ rfl|refine lN ?_|refine bS ?_|fail
  exact (delS_enc s i).symm
 ·exact rfl
 have hplm:p < (s.players.map GPlayer.enc).length:=by rw [Lm];exact hpl
 have hll:s.players[p].graveyard.length*8≤limB:=(h.2.1 _ (List.getElem_mem hpl)).2.2
 refine Tp.take 0 p 13 3 1 (ts:=s.players[p].enc) (ys:=s.players[p].graveyard.map eI) rfl rfl rfl (by simp [plD]) hpl (map_get _ _ p hpl) rfl ?_
 refine Tp.run [] ?_
 refine Ai rfl (Ai hplm (Ai (Nb rfl) ?_))
 refine cI (withoutP_ct s.players[p].graveyard o.id hll) ⟨?_,rfl,trivial⟩ (.inl rfl) ?_
 ·repeat' first|refine Ai ?_ ?_|exact rfl|exact trivial|exact Ei _ rfl|refine lN ?_|refine bS ?_|fail
 refine Ei (s.players[p].enc) (Ai (map_get _ _ p hpl) (Ai (Nb rfl) (Ai (Ai rfl trivial) (Ai (.inl rfl) ?_))))
 refine Tp.put 0 p s.players.length rfl rfl (List.getElem?_set_self hplm) rfl (Ai rfl trivial) rfl (.inl (Ai rfl hpl)) ?_
 refine Tp.run [] ?_
 refine cM [133] [(4,0)] (delI_ctm s.stack o hst) ?_ ?_ ?_
 ·repeat' first|refine Ai ?_ ?_|exact rfl|exact trivial|exact Ei _ rfl|refine lN ?_|refine bS ?_|fail
 ·exact rfl
 refine Ei [(0,0),(1,1),(2,2),(3,3),(4,4)] (Ai (Ai rfl (Ai ?_ (Ai ?_ ?_))) ?_)
 ·repeat' first|refine Ai ?_ ?_|exact rfl|exact trivial|exact Ei _ rfl|refine lN ?_|refine bS ?_|fail
  exact pl_set s.players p _ _ _ rfl
 all_goals repeat' first|refine Ai ?_ ?_|exact rfl|exact trivial|exact Ei _ rfl|refine lN ?_|refine bS ?_|fail
theorem remove_stk (s:GState) (i:Nat) (hi:i < s.objects.length) (h:s.ok) (hp:placeM s.objects s.objects[i].id=i) (hz:s.objects[i].zone=5) (p:Nat) (hpo:s.objects[i].owner=(p:Int)) (hpl:p < s.players.length):CtM Tryz.prog 119 [.agg (cells5 s),.agg (s.objects[i].enc.map .t)] [] (rows5 s) (.agg ([.row 0 0,.row 1 1,.row 2 0,.row 3 0,.row 4 1]++(s.enc.drop 5).map .t)) [] [plR s,rowO s i,rowL 0 s.battlefield,rowL 0 s.exile,rowI s s.objects[i].id] []:=by
 generalize ho:s.objects[i]=o at *
 have hqo:=placeP_ct s o.id h.2.2.1
 rw [hp] at hqo
 have hl:=list_stk (delS s i) p hpl
 rw [← hz,← hpo] at hl
 have hst:s.stack.length*824≤limB:=h.2.2.2.2.2.2.1
 have hbt:s.battlefield.length*8≤limB:=h.2.2.2.2.1
 have hxt:s.exile.length*8≤limB:=h.2.2.2.2.2.1
 refine ctm_of 5 Tryz.func119 rfl (enters_of Tryz.func119 (by kernel_rfl) rfl) tabOk (by kernel_rfl) rfl rfl rfl rfl rfl fun w0 O _=>Tp.run [5,6] ?_
 refine cI hqo ⟨?_,rfl,trivial⟩ (.inl rfl) ?_
 ·repeat' first|refine Ai ?_ ?_|exact rfl|exact trivial|exact Ei _ rfl|refine lN ?_|refine bS ?_|fail
 refine cM [] [(1,0)] (deleteO_ctm s.objects i hi) ?_ ?_ ?_
 ·repeat' first|refine Ai ?_ ?_|exact rfl|exact trivial|exact Ei _ rfl|refine lN ?_|refine bS ?_|fail
  exact succ_eq i hi 128 (by decide) h.2.2.1
 ·exact rfl
 refine cM [5] [(0,0),(1,1),(2,0),(3,0),(4,0)] hl ?_ ?_ ?_
 ·repeat' first|refine Ai ?_ ?_|exact rfl|exact trivial|exact Ei _ rfl|refine lN ?_|refine bS ?_|fail
  exact (delS_enc s i).symm
 ·exact rfl
 refine Tp.run [] ?_
 refine cM [133] [(4,0)] (delI_ctm s.stack o hst) ?_ ?_ ?_
 ·repeat' first|refine Ai ?_ ?_|exact rfl|exact trivial|exact Ei _ rfl|refine lN ?_|refine bS ?_|fail
 ·exact rfl
 refine Ei [(0,0),(1,1),(2,2),(3,3),(4,4)] (Ai (Ai rfl (Ai ?_ (Ai ?_ ?_))) ?_)
 all_goals repeat' first|refine Ai ?_ ?_|exact rfl|exact trivial|exact Ei _ rfl|refine lN ?_|refine bS ?_|fail
section
theorem cutI_eq (l:List GItem) (id:Int):l.filter (keepM id)=cutI l id:=by
 unfold cutI
 refine List.filter_congr fun x _=>?_
 show (!(x.kind==1)||!(x.id==id))=!(x.id==id&&x.kind==1)
 cases (x.id==id) <;> cases (x.kind==1) <;> rfl
section
variable (s:GState) (id:Int) (i:Nat) (o:GObject)
theorem remM_bf (hz:o.zone=0):remM s id i o={ delS s i with battlefield:=cutN s.battlefield id,stack:=cutI s.stack id }:=by
 unfold remM setM listM
 rw [cutI_eq,hz]
 rfl
theorem remM_ex (hz:o.zone=4):remM s id i o={ delS s i with exile:=cutN s.exile id,stack:=cutI s.stack id }:=by
 unfold remM setM listM
 rw [cutI_eq,hz]
 rfl
variable (p:Nat) (hpo:o.owner=(p:Int)) (hpl:p < s.players.length)
include hpo hpl
theorem remM_hand (hz:o.zone=1):remM s id i o={ delS s i with players:=s.players.set p { s.players[p] with hand:=cutN s.players[p].hand id },stack:=cutI s.stack id }:=by
 unfold remM setM listM
 rw [cutI_eq,hz,hpo,if_neg (by decide),if_neg (by decide),if_neg (by omega),if_neg (by decide),if_neg (by decide),if_neg (by omega),Int.toNat_natCast,List.getElem?_eq_getElem hpl]
 rfl
theorem remM_lib (hz:o.zone=2):remM s id i o={ delS s i with players:=s.players.set p { s.players[p] with library:=cutN s.players[p].library id },stack:=cutI s.stack id }:=by
 unfold remM setM listM
 rw [cutI_eq,hz,hpo,if_neg (by decide),if_neg (by decide),if_neg (by omega),if_neg (by decide),if_neg (by decide),if_neg (by omega),Int.toNat_natCast,List.getElem?_eq_getElem hpl]
 rfl
theorem remM_grave (hz:o.zone=3):remM s id i o={ delS s i with players:=s.players.set p { s.players[p] with graveyard:=cutN s.players[p].graveyard id },stack:=cutI s.stack id }:=by
 unfold remM setM listM
 rw [cutI_eq,hz,hpo,if_neg (by decide),if_neg (by decide),if_neg (by omega),if_neg (by decide),if_neg (by decide),if_neg (by omega),Int.toNat_natCast,List.getElem?_eq_getElem hpl]
 rfl
theorem remM_stk (hz:o.zone=5):remM s id i o={ delS s i with stack:=cutI s.stack id }:=by
 unfold remM setM listM
 rw [cutI_eq,hz,hpo,if_neg (by decide),if_neg (by decide),if_neg (by omega),if_neg (by decide),if_neg (by decide),if_neg (by omega),Int.toNat_natCast,List.getElem?_eq_getElem hpl]
 show ({ s with players:=s.players.set p s.players[p],objects:=s.objects.take i++s.objects.drop (i+1),stack:=cutI s.stack id }:GState)=_
 rw [List.set_getElem_self]
 rfl
end
theorem setM_pl (s:GState) (z p:Int) (l:List Int):(setM s z p l).players.length=s.players.length:=by
 unfold setM
 split
 ·rfl
 split
 ·rfl
 split
 ·rfl
 split
 ·exact List.length_set ..
 ·rfl
theorem remM_pl (s:GState) (id:Int) (i:Nat) (o:GObject):(remM s id i o).players.length=s.players.length:=setM_pl s _ _ _
def addO (R:GState) (x:GObject):GState:={ R with objects:=R.objects++[x],nextId:=IntKind.i64.wrap (R.nextId+1),nextStamp:=IntKind.i64.wrap (R.nextStamp+1) }
section
variable (R:GState) (x:GObject) (hR:∀ y∈R.objects,y.id < x.id) (b:Bool)
include hR
theorem end_bf:mvEnd (putM R x) x 0 b={ addO R x with battlefield:=R.battlefield++[x.id] }:=by
 unfold mvEnd putM setM listM mvFin
 rw [putL_end hR]
 rfl
theorem end_ex:mvEnd (putM R x) x 4 b={ addO R x with exile:=R.exile++[x.id] }:=by
 unfold mvEnd putM setM listM mvFin
 rw [putL_end hR]
 rfl
variable (p:Nat) (hpo:x.owner=(p:Int)) (hpl:p < R.players.length)
include hpo hpl
theorem end_hand:mvEnd (putM R x) x 1 b={ addO R x with players:=R.players.set p { R.players[p] with hand:=R.players[p].hand++[x.id] } }:=by
 have hlt:¬ ((p:Int) < 0∨(R.players.length:Int)≤(p:Int)):=by omega
 cases b <;>
 ·unfold mvEnd putM setM listM mvFin
  rw [putL_end hR,hpo]
  dsimp only
  simp only [if_neg hlt,Int.toNat_natCast,List.getElem?_eq_getElem hpl]
  rfl
theorem end_grave:mvEnd (putM R x) x 3 b={ addO R x with players:=R.players.set p { R.players[p] with graveyard:=R.players[p].graveyard++[x.id] } }:=by
 have hlt:¬ ((p:Int) < 0∨(R.players.length:Int)≤(p:Int)):=by omega
 cases b <;>
 ·unfold mvEnd putM setM listM mvFin
  rw [putL_end hR,hpo]
  dsimp only
  simp only [if_neg hlt,Int.toNat_natCast,List.getElem?_eq_getElem hpl]
  rfl
theorem end_lib:mvEnd (putM R x) x 2 b={ addO R x with players:=R.players.set p { R.players[p] with library:=if b=true then R.players[p].library++[x.id] else x.id :: R.players[p].library } }:=by
 have hlt:¬ ((p:Int) < 0∨(R.players.length:Int)≤(p:Int)):=by omega
 cases b <;>
 ·unfold mvEnd putM setM listM mvFin
  rw [putL_end hR,hpo]
  dsimp only
  simp only [if_neg hlt,Int.toNat_natCast,List.getElem?_eq_getElem hpl]
  rfl
end
end
theorem joinK {P:Program} {T:Nat→Option Ty} {N:Nat} {w0:World} {O:Gst} {c:Code} {Q:Ex→St→Prop} {B:Prop} (st:St) (h:Tp P T N w0 O c st Q→B) (key:Tp P T N w0 O c st Q):B:=h key
def cells9 (s:GState):List Ce:=[.row 9000 0,.row 9001 1,.row 9002 0,.row 9003 0,.row 9004 1]++(s.enc.drop 5).map .t
def rows9 (s:GState):List (Nat × Row):=[(9000,plR s),(9001,⟨49,19,1,s.objects.map GObject.enc,none⟩),(9002,rowL 0 s.battlefield),(9003,rowL 0 s.exile),(9004,⟨91,94,1,s.stack.map GItem.enc,none⟩)]
theorem remM_nos {s:GState} {id:Int} {i:Nat} {o:GObject} (hlt:∀ y∈s.objects,y.id < s.nextId):∀ y∈(remM s id i o).objects,y.id < (remM s id i o).nextId:=fun y hy=>by
 have e:(remM s id i o).nextId=s.nextId:=(setM_next s _ _ _).1
 rw [e]
 rcases List.mem_append.1 hy with hy|hy
 ·exact hlt y (List.mem_of_mem_take hy)
 ·exact hlt y (List.mem_of_mem_drop hy)
theorem pl_app_hand (l:List GPlayer) (p:Nat) (q:GPlayer) (A:List Tr) (n:Int):((l.map GPlayer.enc).set p A).set p (q.enc.set 12 (.sl 1 (q.hand.map eI++[[iv n]])))=(l.set p { q with hand:=q.hand++[n] }).map GPlayer.enc:=by
 rw [List.set_set,List.map_set,show q.hand.map eI++[[iv n]]=(q.hand++[n]).map eI from (List.map_append (f:=eI) (l₁:=q.hand) (l₂:=[n])).symm]
 rfl
theorem pl_app_lib (l:List GPlayer) (p:Nat) (q:GPlayer) (A:List Tr) (n:Int):((l.map GPlayer.enc).set p A).set p (q.enc.set 11 (.sl 1 (q.library.map eI++[[iv n]])))=(l.set p { q with library:=q.library++[n] }).map GPlayer.enc:=by
 rw [List.set_set,List.map_set,show q.library.map eI++[[iv n]]=(q.library++[n]).map eI from (List.map_append (f:=eI) (l₁:=q.library) (l₂:=[n])).symm]
 rfl
theorem pl_app_grave (l:List GPlayer) (p:Nat) (q:GPlayer) (A:List Tr) (n:Int):((l.map GPlayer.enc).set p A).set p (q.enc.set 13 (.sl 1 (q.graveyard.map eI++[[iv n]])))=(l.set p { q with graveyard:=q.graveyard++[n] }).map GPlayer.enc:=by
 rw [List.set_set,List.map_set,show q.graveyard.map eI++[[iv n]]=(q.graveyard++[n]).map eI from (List.map_append (f:=eI) (l₁:=q.graveyard) (l₂:=[n])).symm]
 rfl
theorem pl_ins (l:List GPlayer) (p:Nat) (q:GPlayer) (A:List Tr) (n:Int):((l.map GPlayer.enc).set p A).set p (q.enc.set 11 (.sl 1 ((n :: q.library).map eI)))=(l.set p { q with library:=n :: q.library }).map GPlayer.enc:=by
 rw [List.set_set,List.map_set]
 rfl
theorem moveP_bf (s:GState) (id p:Int) (b:Bool) (i:Nat) (h:s.ok) (hi:i < s.objects.length) (e0:placeM s.objects id=i) (e1:s.objects.findIdx? (fun o=>o.id==id)=some i) (e2:s.objects.find? (fun o=>o.id==id)=some s.objects[i]) (hid:s.objects[i].id=id) (q:Nat) (hq:s.objects[i].owner=(q:Int)) (hql:q < s.players.length) (hlt:∀ y∈s.objects,y.id < s.nextId) (hzz:0≤s.objects[i].zone∧s.objects[i].zone≤5) :
  Ct Tryz.prog 70 [.agg (s.enc.map .t),.c (.t (iv id)),.c (.t (iv 0)),.c (.t (iv p)),AV.b b] (.tup [.agg (((moveM s id 0 p b).1.enc.map .t).set 1 (.row 0 0)),.c (.t (iv (moveM s id 0 p b).2))]) [⟨49,19,0,(moveM s id 0 p b).1.objects.map GObject.enc,none⟩] false:=by
 subst hid
 have hf:=findP_ct s s.objects[i].id h.2.2.1
 unfold findM hasM at hf
 rw [e2] at hf
 change Ct _ _ _ (.tup [.agg (s.objects[i].enc.map .t),AV.b true]) _ _ at hf
 generalize hM:moveM s s.objects[i].id 0 p b=M
 unfold moveM at hM
 rw [e1] at hM
 simp only [List.getElem?_eq_getElem hi] at hM
 unfold mvFound at hM
 rw [if_neg (by omega)] at hM
 obtain ⟨hRok,hRn⟩:=remM_ok h s.objects[i].id i s.objects[i] hi
 have hno:=remM_nos (id:=s.objects[i].id) (i:=i) (o:=s.objects[i]) hlt
 have hRpl:(remM s s.objects[i].id i s.objects[i]).players.length=s.players.length:=remM_pl s _ i _
 refine ct_of Tryz.func70 rfl (enters_of Tryz.func70 (by kernel_rfl) rfl) tabOk (by kernel_rfl) rfl rfl rfl rfl fun w0 O _=>Tp.run [5,7,8,15,16,17] ?_
 refine cI hf ⟨fL s.enc,rfl,trivial⟩ (.inl rfl) ?_
 refine cI (copyP_ct s h) ⟨fL s.enc,trivial⟩ (.inr rfl) ?_
 obtain ⟨R,hR⟩:∃ R,remM s s.objects[i].id i s.objects[i]=R:=⟨_,rfl⟩
 rw [hR] at hM hRok hRn hno hRpl
 rw [if_neg (fun hx=>by cases hx.2.1)] at hM
 apply joinK (P:=Tryz.prog) (T:=T) (N:=Tryz.f70.ntmps) (w0:=w0) (O:=O) ⟨[(2,.c (.t (iv 0))),(3,.c (.t (iv p))),(4,AV.b b),(5,.ptr 0 0),(10,.ptr 128 0),(12,.ptr 1152 0)],[(0,cells9 R),(128,List.replicate 19 .bot),(1152,s.objects[i].enc.map .t)],rows9 R,20000⟩
 case h=>
  intro K
  rcases (show s.objects[i].zone=0∨s.objects[i].zone=1∨s.objects[i].zone=2∨s.objects[i].zone=3∨s.objects[i].zone=4∨s.objects[i].zone=5 by omega) with hz|hz|hz|hz|hz|hz
  ·have hRz:=remM_bf s s.objects[i].id i s.objects[i] hz
   rw [hR] at hRz
   refine Tp.run [] ?_
   refine cM [] [(1664,0),(1665,0),(1666,0),(1667,0),(1668,0)] (remove_bf s i hi h e0 hz) ?_ ?_ ?_
   ·repeat' first|refine Ai ?_ ?_|exact rfl|exact trivial|exact Ei _ rfl|refine lN ?_|refine bS ?_|fail
   ·exact rfl
   rw [hRz] at K
   refine cS (fun ht=>?_) (fun ht=>?_)
   ·refine Tp.wk (wk_of [(9000,1664),(9001,1665),(9002,3456),(9003,1667),(9004,1668)] rfl rfl ?_ ?_ ?_) K
    all_goals repeat' first|refine Ai ?_ ?_|exact rfl|exact trivial|exact Ei _ rfl|refine lN ?_|refine bS ?_|fail
   ·refine Tp.wk (wk_of [(9000,1664),(9001,1665),(9002,3456),(9003,1667),(9004,1668)] rfl rfl ?_ ?_ ?_) K
    all_goals repeat' first|refine Ai ?_ ?_|exact rfl|exact trivial|exact Ei _ rfl|refine lN ?_|refine bS ?_|fail
  ·have hRz:=remM_hand s s.objects[i].id i s.objects[i] q hq hql hz
   rw [hR] at hRz
   refine Tp.run [] ?_
   refine cM [] [(1664,0),(1665,0),(1666,0),(1667,0),(1668,0)] (remove_hand s i hi h e0 hz q hq hql) ?_ ?_ ?_
   ·repeat' first|refine Ai ?_ ?_|exact rfl|exact trivial|exact Ei _ rfl|refine lN ?_|refine bS ?_|fail
   ·exact rfl
   rw [hRz] at K
   refine cS (fun ht=>?_) (fun ht=>?_)
   ·refine Tp.wk (wk_of [(9000,1664),(9001,1665),(9002,1666),(9003,1667),(9004,1668)] rfl rfl ?_ ?_ ?_) K
    ·repeat' first|refine Ai ?_ ?_|exact rfl|exact trivial|exact Ei _ rfl|refine lN ?_|refine bS ?_|fail
    ·repeat' first|refine Ai ?_ ?_|exact rfl|exact trivial|exact Ei _ rfl|refine lN ?_|refine bS ?_|fail
    ·repeat' first|refine Ai ?_ ?_|exact rfl|exact trivial|exact Ei _ rfl|refine lN ?_|refine bS ?_|fail
     exact congrArg (fun n=>(⟨plD,n,[]⟩:Dp)) List.length_set.symm
   ·refine Tp.wk (wk_of [(9000,1664),(9001,1665),(9002,1666),(9003,1667),(9004,1668)] rfl rfl ?_ ?_ ?_) K
    ·repeat' first|refine Ai ?_ ?_|exact rfl|exact trivial|exact Ei _ rfl|refine lN ?_|refine bS ?_|fail
    ·repeat' first|refine Ai ?_ ?_|exact rfl|exact trivial|exact Ei _ rfl|refine lN ?_|refine bS ?_|fail
    ·repeat' first|refine Ai ?_ ?_|exact rfl|exact trivial|exact Ei _ rfl|refine lN ?_|refine bS ?_|fail
     exact congrArg (fun n=>(⟨plD,n,[]⟩:Dp)) List.length_set.symm
  ·have hRz:=remM_lib s s.objects[i].id i s.objects[i] q hq hql hz
   rw [hR] at hRz
   refine Tp.run [] ?_
   refine cM [] [(1664,0),(1665,0),(1666,0),(1667,0),(1668,0)] (remove_lib s i hi h e0 hz q hq hql) ?_ ?_ ?_
   ·repeat' first|refine Ai ?_ ?_|exact rfl|exact trivial|exact Ei _ rfl|refine lN ?_|refine bS ?_|fail
   ·exact rfl
   rw [hRz] at K
   refine cS (fun ht=>?_) (fun ht=>?_)
   ·refine Tp.wk (wk_of [(9000,1664),(9001,1665),(9002,1666),(9003,1667),(9004,1668)] rfl rfl ?_ ?_ ?_) K
    ·repeat' first|refine Ai ?_ ?_|exact rfl|exact trivial|exact Ei _ rfl|refine lN ?_|refine bS ?_|fail
    ·repeat' first|refine Ai ?_ ?_|exact rfl|exact trivial|exact Ei _ rfl|refine lN ?_|refine bS ?_|fail
    ·repeat' first|refine Ai ?_ ?_|exact rfl|exact trivial|exact Ei _ rfl|refine lN ?_|refine bS ?_|fail
     exact congrArg (fun n=>(⟨plD,n,[]⟩:Dp)) List.length_set.symm
   ·refine Tp.wk (wk_of [(9000,1664),(9001,1665),(9002,1666),(9003,1667),(9004,1668)] rfl rfl ?_ ?_ ?_) K
    ·repeat' first|refine Ai ?_ ?_|exact rfl|exact trivial|exact Ei _ rfl|refine lN ?_|refine bS ?_|fail
    ·repeat' first|refine Ai ?_ ?_|exact rfl|exact trivial|exact Ei _ rfl|refine lN ?_|refine bS ?_|fail
    ·repeat' first|refine Ai ?_ ?_|exact rfl|exact trivial|exact Ei _ rfl|refine lN ?_|refine bS ?_|fail
     exact congrArg (fun n=>(⟨plD,n,[]⟩:Dp)) List.length_set.symm
  ·have hRz:=remM_grave s s.objects[i].id i s.objects[i] q hq hql hz
   rw [hR] at hRz
   refine Tp.run [] ?_
   refine cM [] [(1664,0),(1665,0),(1666,0),(1667,0),(1668,0)] (remove_grave s i hi h e0 hz q hq hql) ?_ ?_ ?_
   ·repeat' first|refine Ai ?_ ?_|exact rfl|exact trivial|exact Ei _ rfl|refine lN ?_|refine bS ?_|fail
   ·exact rfl
   rw [hRz] at K
   refine cS (fun ht=>?_) (fun ht=>?_)
   ·refine Tp.wk (wk_of [(9000,1664),(9001,1665),(9002,1666),(9003,1667),(9004,1668)] rfl rfl ?_ ?_ ?_) K
    ·repeat' first|refine Ai ?_ ?_|exact rfl|exact trivial|exact Ei _ rfl|refine lN ?_|refine bS ?_|fail
    ·repeat' first|refine Ai ?_ ?_|exact rfl|exact trivial|exact Ei _ rfl|refine lN ?_|refine bS ?_|fail
    ·repeat' first|refine Ai ?_ ?_|exact rfl|exact trivial|exact Ei _ rfl|refine lN ?_|refine bS ?_|fail
     exact congrArg (fun n=>(⟨plD,n,[]⟩:Dp)) List.length_set.symm
   ·refine Tp.wk (wk_of [(9000,1664),(9001,1665),(9002,1666),(9003,1667),(9004,1668)] rfl rfl ?_ ?_ ?_) K
    ·repeat' first|refine Ai ?_ ?_|exact rfl|exact trivial|exact Ei _ rfl|refine lN ?_|refine bS ?_|fail
    ·repeat' first|refine Ai ?_ ?_|exact rfl|exact trivial|exact Ei _ rfl|refine lN ?_|refine bS ?_|fail
    ·repeat' first|refine Ai ?_ ?_|exact rfl|exact trivial|exact Ei _ rfl|refine lN ?_|refine bS ?_|fail
     exact congrArg (fun n=>(⟨plD,n,[]⟩:Dp)) List.length_set.symm
  ·have hRz:=remM_ex s s.objects[i].id i s.objects[i] hz
   rw [hR] at hRz
   refine Tp.run [] ?_
   refine cM [] [(1664,0),(1665,0),(1666,0),(1667,0),(1668,0)] (remove_ex s i hi h e0 hz) ?_ ?_ ?_
   ·repeat' first|refine Ai ?_ ?_|exact rfl|exact trivial|exact Ei _ rfl|refine lN ?_|refine bS ?_|fail
   ·exact rfl
   rw [hRz] at K
   refine cS (fun ht=>?_) (fun ht=>?_)
   ·refine Tp.wk (wk_of [(9000,1664),(9001,1665),(9002,1666),(9003,3456),(9004,1668)] rfl rfl ?_ ?_ ?_) K
    all_goals repeat' first|refine Ai ?_ ?_|exact rfl|exact trivial|exact Ei _ rfl|refine lN ?_|refine bS ?_|fail
   ·refine Tp.wk (wk_of [(9000,1664),(9001,1665),(9002,1666),(9003,3456),(9004,1668)] rfl rfl ?_ ?_ ?_) K
    all_goals repeat' first|refine Ai ?_ ?_|exact rfl|exact trivial|exact Ei _ rfl|refine lN ?_|refine bS ?_|fail
  ·have hRz:=remM_stk s s.objects[i].id i s.objects[i] q hq hql hz
   rw [hR] at hRz
   refine Tp.run [] ?_
   refine cM [] [(1664,0),(1665,0),(1666,0),(1667,0),(1668,0)] (remove_stk s i hi h e0 hz q hq hql) ?_ ?_ ?_
   ·repeat' first|refine Ai ?_ ?_|exact rfl|exact trivial|exact Ei _ rfl|refine lN ?_|refine bS ?_|fail
   ·exact rfl
   rw [hRz] at K
   refine cS (fun ht=>?_) (fun ht=>?_)
   ·refine Tp.wk (wk_of [(9000,1664),(9001,1665),(9002,1666),(9003,1667),(9004,1668)] rfl rfl ?_ ?_ ?_) K
    all_goals repeat' first|refine Ai ?_ ?_|exact rfl|exact trivial|exact Ei _ rfl|refine lN ?_|refine bS ?_|fail
   ·refine Tp.wk (wk_of [(9000,1664),(9001,1665),(9002,1666),(9003,1667),(9004,1668)] rfl rfl ?_ ?_ ?_) K
    all_goals repeat' first|refine Ai ?_ ?_|exact rfl|exact trivial|exact Ei _ rfl|refine lN ?_|refine bS ?_|fail
 case key=>
  have hv:=movedP_ct s.objects[i] R.nextId 0 p R.nextStamp
  unfold mvNew at hM
  obtain ⟨x,hx⟩:∃ x,movedM s.objects[i] R.nextId 0 p R.nextStamp=x:=⟨_,rfl⟩
  rw [hx] at hv hM
  have hxi:x.id=R.nextId:=by rw [← hx];rfl
  have hxo:x.owner=(q:Int):=by rw [← hx];exact hq
  rw [← hxi] at hno
  refine Tp.run [15,16,17] ?_
  refine cI hv ⟨fL s.objects[i].enc,rfl,rfl,rfl,rfl,trivial⟩ (.inl rfl) ?_
  refine cM [] [(9000,0),(9001,1),(9002,0),(9003,0),(9004,1)] (put_ctm R x hRok.2.2.1 hno) ?_ ?_ ?_
  ·repeat' first|refine Ai ?_ ?_|exact rfl|exact trivial|exact Ei _ rfl|refine lN ?_|refine bS ?_|fail
  ·exact rfl
  rw [end_bf R x hno b] at hM
  subst hM
  have hbt:R.battlefield.length*8≤limB:=hRok.2.2.2.2.1
  refine cM [0] [(9000,0),(9001,2),(9002,0),(9003,0),(9004,1)] (list_bf (addO R x) x.owner) ?_ ?_ ?_
  ·repeat' first|refine Ai ?_ ?_|exact rfl|exact trivial|exact Ei _ rfl|refine lN ?_|refine bS ?_|fail
  ·exact rfl
  refine Tp.run [] ?_
  refine Ai (.inl rfl) (Ai ?_ (Ai ?_ ?_))
  ·show ((R.battlefield.map eI).length+1)*8≤_
   rw [Lm]
   exact Nat.le_of_lt (one_more (by decide) hbt)
  ·show (R.battlefield.map eI).length+1 < _
   rw [Lm]
   have:=one_more (n:=R.battlefield.length) (b:=8) (by decide) hbt
   omega
  refine Tp.frz [9001] (Tp.run [] ?_)
  refine Ei [(0,9001)] (Ai rfl (Ai ?_ ?_))
  ·repeat' first|refine Ai ?_ ?_|exact rfl|exact trivial|exact Ei _ rfl|refine lN ?_|refine bS ?_|fail
  ·repeat' first|refine Ai ?_ ?_|exact rfl|exact trivial|exact Ei _ rfl|refine lN ?_|refine bS ?_|fail
   first
   | exact congrArg (Tr.sl 1) (List.map_append (f:=eI) (l₁:=R.battlefield) (l₂:=[x.id])).symm
   | exact congrArg (Tr.sl 1) (List.map_append (f:=eI) (l₁:=R.battlefield) (l₂:=[x.id]))
theorem moveP_hand (s:GState) (id p:Int) (b:Bool) (i:Nat) (h:s.ok) (hi:i < s.objects.length) (e0:placeM s.objects id=i) (e1:s.objects.findIdx? (fun o=>o.id==id)=some i) (e2:s.objects.find? (fun o=>o.id==id)=some s.objects[i]) (hid:s.objects[i].id=id) (q:Nat) (hq:s.objects[i].owner=(q:Int)) (hql:q < s.players.length) (hlt:∀ y∈s.objects,y.id < s.nextId) (hzz:0≤s.objects[i].zone∧s.objects[i].zone≤5) :
  Ct Tryz.prog 70 [.agg (s.enc.map .t),.c (.t (iv id)),.c (.t (iv 1)),.c (.t (iv p)),AV.b b] (.tup [.agg (((moveM s id 1 p b).1.enc.map .t).set 1 (.row 0 0)),.c (.t (iv (moveM s id 1 p b).2))]) [⟨49,19,0,(moveM s id 1 p b).1.objects.map GObject.enc,none⟩] false:=by
 subst hid
 have hf:=findP_ct s s.objects[i].id h.2.2.1
 unfold findM hasM at hf
 rw [e2] at hf
 change Ct _ _ _ (.tup [.agg (s.objects[i].enc.map .t),AV.b true]) _ _ at hf
 generalize hM:moveM s s.objects[i].id 1 p b=M
 unfold moveM at hM
 rw [e1] at hM
 simp only [List.getElem?_eq_getElem hi] at hM
 unfold mvFound at hM
 rw [if_neg (by omega)] at hM
 obtain ⟨hRok,hRn⟩:=remM_ok h s.objects[i].id i s.objects[i] hi
 have hno:=remM_nos (id:=s.objects[i].id) (i:=i) (o:=s.objects[i]) hlt
 have hRpl:(remM s s.objects[i].id i s.objects[i]).players.length=s.players.length:=remM_pl s _ i _
 refine ct_of Tryz.func70 rfl (enters_of Tryz.func70 (by kernel_rfl) rfl) tabOk (by kernel_rfl) rfl rfl rfl rfl fun w0 O _=>Tp.run [5,7,8,15,16,17] ?_
 refine cI hf ⟨fL s.enc,rfl,trivial⟩ (.inl rfl) ?_
 refine cI (copyP_ct s h) ⟨fL s.enc,trivial⟩ (.inr rfl) ?_
 obtain ⟨R,hR⟩:∃ R,remM s s.objects[i].id i s.objects[i]=R:=⟨_,rfl⟩
 rw [hR] at hM hRok hRn hno hRpl
 by_cases ht:s.objects[i].token=true
 ·rw [if_pos ⟨ht,rfl,rfl⟩] at hM
  rcases (show s.objects[i].zone=0∨s.objects[i].zone=1∨s.objects[i].zone=2∨s.objects[i].zone=3∨s.objects[i].zone=4∨s.objects[i].zone=5 by omega) with hz|hz|hz|hz|hz|hz
  ·have hRz:=remM_bf s s.objects[i].id i s.objects[i] hz
   rw [hR] at hRz
   refine Tp.run [] ?_
   refine cM [] [(1664,0),(1665,0),(1666,0),(1667,0),(1668,0)] (remove_bf s i hi h e0 hz) ?_ ?_ ?_
   ·repeat' first|refine Ai ?_ ?_|exact rfl|exact trivial|exact Ei _ rfl|refine lN ?_|refine bS ?_|fail
   ·exact rfl
   rw [hRz] at hM
   subst hM
   refine cond_t ht ?_
   refine Tp.frz [1665] (Tp.run [] ?_)
   refine Ei [(0,1665)] (Ai rfl (Ai ?_ ?_))
   all_goals repeat' first|refine Ai ?_ ?_|exact rfl|exact trivial|exact Ei _ rfl|refine lN ?_|refine bS ?_|fail
  ·have hRz:=remM_hand s s.objects[i].id i s.objects[i] q hq hql hz
   rw [hR] at hRz
   refine Tp.run [] ?_
   refine cM [] [(1664,0),(1665,0),(1666,0),(1667,0),(1668,0)] (remove_hand s i hi h e0 hz q hq hql) ?_ ?_ ?_
   ·repeat' first|refine Ai ?_ ?_|exact rfl|exact trivial|exact Ei _ rfl|refine lN ?_|refine bS ?_|fail
   ·exact rfl
   rw [hRz] at hM
   subst hM
   refine cond_t ht ?_
   refine Tp.frz [1665] (Tp.run [] ?_)
   refine Ei [(0,1665)] (Ai rfl (Ai ?_ ?_))
   all_goals repeat' first|refine Ai ?_ ?_|exact rfl|exact trivial|exact Ei _ rfl|refine lN ?_|refine bS ?_|fail
  ·have hRz:=remM_lib s s.objects[i].id i s.objects[i] q hq hql hz
   rw [hR] at hRz
   refine Tp.run [] ?_
   refine cM [] [(1664,0),(1665,0),(1666,0),(1667,0),(1668,0)] (remove_lib s i hi h e0 hz q hq hql) ?_ ?_ ?_
   ·repeat' first|refine Ai ?_ ?_|exact rfl|exact trivial|exact Ei _ rfl|refine lN ?_|refine bS ?_|fail
   ·exact rfl
   rw [hRz] at hM
   subst hM
   refine cond_t ht ?_
   refine Tp.frz [1665] (Tp.run [] ?_)
   refine Ei [(0,1665)] (Ai rfl (Ai ?_ ?_))
   all_goals repeat' first|refine Ai ?_ ?_|exact rfl|exact trivial|exact Ei _ rfl|refine lN ?_|refine bS ?_|fail
  ·have hRz:=remM_grave s s.objects[i].id i s.objects[i] q hq hql hz
   rw [hR] at hRz
   refine Tp.run [] ?_
   refine cM [] [(1664,0),(1665,0),(1666,0),(1667,0),(1668,0)] (remove_grave s i hi h e0 hz q hq hql) ?_ ?_ ?_
   ·repeat' first|refine Ai ?_ ?_|exact rfl|exact trivial|exact Ei _ rfl|refine lN ?_|refine bS ?_|fail
   ·exact rfl
   rw [hRz] at hM
   subst hM
   refine cond_t ht ?_
   refine Tp.frz [1665] (Tp.run [] ?_)
   refine Ei [(0,1665)] (Ai rfl (Ai ?_ ?_))
   all_goals repeat' first|refine Ai ?_ ?_|exact rfl|exact trivial|exact Ei _ rfl|refine lN ?_|refine bS ?_|fail
  ·have hRz:=remM_ex s s.objects[i].id i s.objects[i] hz
   rw [hR] at hRz
   refine Tp.run [] ?_
   refine cM [] [(1664,0),(1665,0),(1666,0),(1667,0),(1668,0)] (remove_ex s i hi h e0 hz) ?_ ?_ ?_
   ·repeat' first|refine Ai ?_ ?_|exact rfl|exact trivial|exact Ei _ rfl|refine lN ?_|refine bS ?_|fail
   ·exact rfl
   rw [hRz] at hM
   subst hM
   refine cond_t ht ?_
   refine Tp.frz [1665] (Tp.run [] ?_)
   refine Ei [(0,1665)] (Ai rfl (Ai ?_ ?_))
   all_goals repeat' first|refine Ai ?_ ?_|exact rfl|exact trivial|exact Ei _ rfl|refine lN ?_|refine bS ?_|fail
  ·have hRz:=remM_stk s s.objects[i].id i s.objects[i] q hq hql hz
   rw [hR] at hRz
   refine Tp.run [] ?_
   refine cM [] [(1664,0),(1665,0),(1666,0),(1667,0),(1668,0)] (remove_stk s i hi h e0 hz q hq hql) ?_ ?_ ?_
   ·repeat' first|refine Ai ?_ ?_|exact rfl|exact trivial|exact Ei _ rfl|refine lN ?_|refine bS ?_|fail
   ·exact rfl
   rw [hRz] at hM
   subst hM
   refine cond_t ht ?_
   refine Tp.frz [1665] (Tp.run [] ?_)
   refine Ei [(0,1665)] (Ai rfl (Ai ?_ ?_))
   all_goals repeat' first|refine Ai ?_ ?_|exact rfl|exact trivial|exact Ei _ rfl|refine lN ?_|refine bS ?_|fail
 have ht:s.objects[i].token=false:=by simpa using ht
 rw [if_neg (fun hx=>by rw [ht] at hx;cases hx.1)] at hM
 apply joinK (P:=Tryz.prog) (T:=T) (N:=Tryz.f70.ntmps) (w0:=w0) (O:=O) ⟨[(2,.c (.t (iv 1))),(3,.c (.t (iv p))),(4,AV.b b),(5,.ptr 0 0),(10,.ptr 128 0),(12,.ptr 1152 0)],[(0,cells9 R),(128,List.replicate 19 .bot),(1152,s.objects[i].enc.map .t)],rows9 R,20000⟩
 case h=>
  intro K
  rcases (show s.objects[i].zone=0∨s.objects[i].zone=1∨s.objects[i].zone=2∨s.objects[i].zone=3∨s.objects[i].zone=4∨s.objects[i].zone=5 by omega) with hz|hz|hz|hz|hz|hz
  ·have hRz:=remM_bf s s.objects[i].id i s.objects[i] hz
   rw [hR] at hRz
   refine Tp.run [] ?_
   refine cM [] [(1664,0),(1665,0),(1666,0),(1667,0),(1668,0)] (remove_bf s i hi h e0 hz) ?_ ?_ ?_
   ·repeat' first|refine Ai ?_ ?_|exact rfl|exact trivial|exact Ei _ rfl|refine lN ?_|refine bS ?_|fail
   ·exact rfl
   rw [hRz] at K
   refine cond_f ht ?_
   refine Tp.wk (wk_of [(9000,1664),(9001,1665),(9002,3456),(9003,1667),(9004,1668)] rfl rfl ?_ ?_ ?_) K
   all_goals repeat' first|refine Ai ?_ ?_|exact rfl|exact trivial|exact Ei _ rfl|refine lN ?_|refine bS ?_|fail
  ·have hRz:=remM_hand s s.objects[i].id i s.objects[i] q hq hql hz
   rw [hR] at hRz
   refine Tp.run [] ?_
   refine cM [] [(1664,0),(1665,0),(1666,0),(1667,0),(1668,0)] (remove_hand s i hi h e0 hz q hq hql) ?_ ?_ ?_
   ·repeat' first|refine Ai ?_ ?_|exact rfl|exact trivial|exact Ei _ rfl|refine lN ?_|refine bS ?_|fail
   ·exact rfl
   rw [hRz] at K
   refine cond_f ht ?_
   refine Tp.wk (wk_of [(9000,1664),(9001,1665),(9002,1666),(9003,1667),(9004,1668)] rfl rfl ?_ ?_ ?_) K
   ·repeat' first|refine Ai ?_ ?_|exact rfl|exact trivial|exact Ei _ rfl|refine lN ?_|refine bS ?_|fail
   ·repeat' first|refine Ai ?_ ?_|exact rfl|exact trivial|exact Ei _ rfl|refine lN ?_|refine bS ?_|fail
   ·repeat' first|refine Ai ?_ ?_|exact rfl|exact trivial|exact Ei _ rfl|refine lN ?_|refine bS ?_|fail
    exact congrArg (fun n=>(⟨plD,n,[]⟩:Dp)) List.length_set.symm
  ·have hRz:=remM_lib s s.objects[i].id i s.objects[i] q hq hql hz
   rw [hR] at hRz
   refine Tp.run [] ?_
   refine cM [] [(1664,0),(1665,0),(1666,0),(1667,0),(1668,0)] (remove_lib s i hi h e0 hz q hq hql) ?_ ?_ ?_
   ·repeat' first|refine Ai ?_ ?_|exact rfl|exact trivial|exact Ei _ rfl|refine lN ?_|refine bS ?_|fail
   ·exact rfl
   rw [hRz] at K
   refine cond_f ht ?_
   refine Tp.wk (wk_of [(9000,1664),(9001,1665),(9002,1666),(9003,1667),(9004,1668)] rfl rfl ?_ ?_ ?_) K
   ·repeat' first|refine Ai ?_ ?_|exact rfl|exact trivial|exact Ei _ rfl|refine lN ?_|refine bS ?_|fail
   ·repeat' first|refine Ai ?_ ?_|exact rfl|exact trivial|exact Ei _ rfl|refine lN ?_|refine bS ?_|fail
   ·repeat' first|refine Ai ?_ ?_|exact rfl|exact trivial|exact Ei _ rfl|refine lN ?_|refine bS ?_|fail
    exact congrArg (fun n=>(⟨plD,n,[]⟩:Dp)) List.length_set.symm
  ·have hRz:=remM_grave s s.objects[i].id i s.objects[i] q hq hql hz
   rw [hR] at hRz
   refine Tp.run [] ?_
   refine cM [] [(1664,0),(1665,0),(1666,0),(1667,0),(1668,0)] (remove_grave s i hi h e0 hz q hq hql) ?_ ?_ ?_
   ·repeat' first|refine Ai ?_ ?_|exact rfl|exact trivial|exact Ei _ rfl|refine lN ?_|refine bS ?_|fail
   ·exact rfl
   rw [hRz] at K
   refine cond_f ht ?_
   refine Tp.wk (wk_of [(9000,1664),(9001,1665),(9002,1666),(9003,1667),(9004,1668)] rfl rfl ?_ ?_ ?_) K
   ·repeat' first|refine Ai ?_ ?_|exact rfl|exact trivial|exact Ei _ rfl|refine lN ?_|refine bS ?_|fail
   ·repeat' first|refine Ai ?_ ?_|exact rfl|exact trivial|exact Ei _ rfl|refine lN ?_|refine bS ?_|fail
   ·repeat' first|refine Ai ?_ ?_|exact rfl|exact trivial|exact Ei _ rfl|refine lN ?_|refine bS ?_|fail
    exact congrArg (fun n=>(⟨plD,n,[]⟩:Dp)) List.length_set.symm
  ·have hRz:=remM_ex s s.objects[i].id i s.objects[i] hz
   rw [hR] at hRz
   refine Tp.run [] ?_
   refine cM [] [(1664,0),(1665,0),(1666,0),(1667,0),(1668,0)] (remove_ex s i hi h e0 hz) ?_ ?_ ?_
   ·repeat' first|refine Ai ?_ ?_|exact rfl|exact trivial|exact Ei _ rfl|refine lN ?_|refine bS ?_|fail
   ·exact rfl
   rw [hRz] at K
   refine cond_f ht ?_
   refine Tp.wk (wk_of [(9000,1664),(9001,1665),(9002,1666),(9003,3456),(9004,1668)] rfl rfl ?_ ?_ ?_) K
   all_goals repeat' first|refine Ai ?_ ?_|exact rfl|exact trivial|exact Ei _ rfl|refine lN ?_|refine bS ?_|fail
  ·have hRz:=remM_stk s s.objects[i].id i s.objects[i] q hq hql hz
   rw [hR] at hRz
   refine Tp.run [] ?_
   refine cM [] [(1664,0),(1665,0),(1666,0),(1667,0),(1668,0)] (remove_stk s i hi h e0 hz q hq hql) ?_ ?_ ?_
   ·repeat' first|refine Ai ?_ ?_|exact rfl|exact trivial|exact Ei _ rfl|refine lN ?_|refine bS ?_|fail
   ·exact rfl
   rw [hRz] at K
   refine cond_f ht ?_
   refine Tp.wk (wk_of [(9000,1664),(9001,1665),(9002,1666),(9003,1667),(9004,1668)] rfl rfl ?_ ?_ ?_) K
   all_goals repeat' first|refine Ai ?_ ?_|exact rfl|exact trivial|exact Ei _ rfl|refine lN ?_|refine bS ?_|fail
 case key=>
  have hv:=movedP_ct s.objects[i] R.nextId 1 p R.nextStamp
  unfold mvNew at hM
  obtain ⟨x,hx⟩:∃ x,movedM s.objects[i] R.nextId 1 p R.nextStamp=x:=⟨_,rfl⟩
  rw [hx] at hv hM
  have hxi:x.id=R.nextId:=by rw [← hx];rfl
  have hxo:x.owner=(q:Int):=by rw [← hx];exact hq
  rw [← hxi] at hno
  refine Tp.run [15,16,17] ?_
  refine cI hv ⟨fL s.objects[i].enc,rfl,rfl,rfl,rfl,trivial⟩ (.inl rfl) ?_
  refine cM [] [(9000,0),(9001,1),(9002,0),(9003,0),(9004,1)] (put_ctm R x hRok.2.2.1 hno) ?_ ?_ ?_
  ·repeat' first|refine Ai ?_ ?_|exact rfl|exact trivial|exact Ei _ rfl|refine lN ?_|refine bS ?_|fail
  ·exact rfl
  have hqR:q < R.players.length:=by rw [hRpl];exact hql
  have hqm:q < (R.players.map GPlayer.enc).length:=by rw [Lm];exact hqR
  have hll:R.players[q].hand.length*8≤limB:=(hRok.2.1 _ (List.getElem_mem hqR)).2.1
  rw [end_hand R x hno b q hxo hqR] at hM
  have hl:=list_hand (addO R x) q hqR
  rw [← hxo] at hl
  refine cM [0] [(9000,0),(9001,2),(9002,0),(9003,0),(9004,1)] hl ?_ ?_ ?_
  ·repeat' first|refine Ai ?_ ?_|exact rfl|exact trivial|exact Ei _ rfl|refine lN ?_|refine bS ?_|fail
  ·exact rfl
  subst hM
  refine Tp.take 9000 q 12 3 1 (ts:=R.players[q].enc) (ys:=R.players[q].hand.map eI) rfl rfl rfl (by simp [plD]) hqR (map_get _ _ q hqR) rfl ?_
  refine Tp.run [] ?_
  refine Ai rfl (Ai hqm (Ai (Nb rfl) ?_))
  refine Ai (.inl rfl) (Ai ?_ (Ai ?_ ?_))
  ·show ((R.players[q].hand.map eI).length+1)*8≤_
   rw [Lm]
   exact Nat.le_of_lt (one_more (by decide) hll)
  ·show (R.players[q].hand.map eI).length+1 < _
   rw [Lm]
   have:=one_more (n:=R.players[q].hand.length) (b:=8) (by decide) hll
   omega
  refine Ei (R.players[q].enc) (Ai (map_get _ _ q hqR) (Ai (Nb rfl) (Ai (Ai rfl trivial) (Ai (.inl rfl) ?_))))
  refine Tp.put 9000 q R.players.length rfl rfl (List.getElem?_set_self hqm) rfl (Ai rfl trivial) rfl (.inl (Ai rfl hqR)) ?_
  refine Tp.frz [9001] (Tp.run [] ?_)
  refine Ei [(0,9001)] (Ai rfl (Ai ?_ ?_))
  ·repeat' first|refine Ai ?_ ?_|exact rfl|exact trivial|exact Ei _ rfl|refine lN ?_|refine bS ?_|fail
  ·repeat' first|refine Ai ?_ ?_|exact rfl|exact trivial|exact Ei _ rfl|refine lN ?_|refine bS ?_|fail
   exact congrArg (Tr.sl 14) (pl_app_hand R.players q R.players[q] _ x.id)
theorem moveP_lib (s:GState) (id p:Int) (b:Bool) (i:Nat) (h:s.ok) (hi:i < s.objects.length) (e0:placeM s.objects id=i) (e1:s.objects.findIdx? (fun o=>o.id==id)=some i) (e2:s.objects.find? (fun o=>o.id==id)=some s.objects[i]) (hid:s.objects[i].id=id) (q:Nat) (hq:s.objects[i].owner=(q:Int)) (hql:q < s.players.length) (hlt:∀ y∈s.objects,y.id < s.nextId) (hzz:0≤s.objects[i].zone∧s.objects[i].zone≤5) :
  Ct Tryz.prog 70 [.agg (s.enc.map .t),.c (.t (iv id)),.c (.t (iv 2)),.c (.t (iv p)),AV.b b] (.tup [.agg (((moveM s id 2 p b).1.enc.map .t).set 1 (.row 0 0)),.c (.t (iv (moveM s id 2 p b).2))]) [⟨49,19,0,(moveM s id 2 p b).1.objects.map GObject.enc,none⟩] false:=by
 subst hid
 have hf:=findP_ct s s.objects[i].id h.2.2.1
 unfold findM hasM at hf
 rw [e2] at hf
 change Ct _ _ _ (.tup [.agg (s.objects[i].enc.map .t),AV.b true]) _ _ at hf
 generalize hM:moveM s s.objects[i].id 2 p b=M
 unfold moveM at hM
 rw [e1] at hM
 simp only [List.getElem?_eq_getElem hi] at hM
 unfold mvFound at hM
 rw [if_neg (by omega)] at hM
 obtain ⟨hRok,hRn⟩:=remM_ok h s.objects[i].id i s.objects[i] hi
 have hno:=remM_nos (id:=s.objects[i].id) (i:=i) (o:=s.objects[i]) hlt
 have hRpl:(remM s s.objects[i].id i s.objects[i]).players.length=s.players.length:=remM_pl s _ i _
 refine ct_of Tryz.func70 rfl (enters_of Tryz.func70 (by kernel_rfl) rfl) tabOk (by kernel_rfl) rfl rfl rfl rfl fun w0 O _=>Tp.run [5,7,8,15,16,17] ?_
 refine cI hf ⟨fL s.enc,rfl,trivial⟩ (.inl rfl) ?_
 refine cI (copyP_ct s h) ⟨fL s.enc,trivial⟩ (.inr rfl) ?_
 obtain ⟨R,hR⟩:∃ R,remM s s.objects[i].id i s.objects[i]=R:=⟨_,rfl⟩
 rw [hR] at hM hRok hRn hno hRpl
 by_cases ht:s.objects[i].token=true
 ·rw [if_pos ⟨ht,rfl,rfl⟩] at hM
  rcases (show s.objects[i].zone=0∨s.objects[i].zone=1∨s.objects[i].zone=2∨s.objects[i].zone=3∨s.objects[i].zone=4∨s.objects[i].zone=5 by omega) with hz|hz|hz|hz|hz|hz
  ·have hRz:=remM_bf s s.objects[i].id i s.objects[i] hz
   rw [hR] at hRz
   refine Tp.run [] ?_
   refine cM [] [(1664,0),(1665,0),(1666,0),(1667,0),(1668,0)] (remove_bf s i hi h e0 hz) ?_ ?_ ?_
   ·repeat' first|refine Ai ?_ ?_|exact rfl|exact trivial|exact Ei _ rfl|refine lN ?_|refine bS ?_|fail
   ·exact rfl
   rw [hRz] at hM
   subst hM
   refine cond_t ht ?_
   refine Tp.frz [1665] (Tp.run [] ?_)
   refine Ei [(0,1665)] (Ai rfl (Ai ?_ ?_))
   all_goals repeat' first|refine Ai ?_ ?_|exact rfl|exact trivial|exact Ei _ rfl|refine lN ?_|refine bS ?_|fail
  ·have hRz:=remM_hand s s.objects[i].id i s.objects[i] q hq hql hz
   rw [hR] at hRz
   refine Tp.run [] ?_
   refine cM [] [(1664,0),(1665,0),(1666,0),(1667,0),(1668,0)] (remove_hand s i hi h e0 hz q hq hql) ?_ ?_ ?_
   ·repeat' first|refine Ai ?_ ?_|exact rfl|exact trivial|exact Ei _ rfl|refine lN ?_|refine bS ?_|fail
   ·exact rfl
   rw [hRz] at hM
   subst hM
   refine cond_t ht ?_
   refine Tp.frz [1665] (Tp.run [] ?_)
   refine Ei [(0,1665)] (Ai rfl (Ai ?_ ?_))
   all_goals repeat' first|refine Ai ?_ ?_|exact rfl|exact trivial|exact Ei _ rfl|refine lN ?_|refine bS ?_|fail
  ·have hRz:=remM_lib s s.objects[i].id i s.objects[i] q hq hql hz
   rw [hR] at hRz
   refine Tp.run [] ?_
   refine cM [] [(1664,0),(1665,0),(1666,0),(1667,0),(1668,0)] (remove_lib s i hi h e0 hz q hq hql) ?_ ?_ ?_
   ·repeat' first|refine Ai ?_ ?_|exact rfl|exact trivial|exact Ei _ rfl|refine lN ?_|refine bS ?_|fail
   ·exact rfl
   rw [hRz] at hM
   subst hM
   refine cond_t ht ?_
   refine Tp.frz [1665] (Tp.run [] ?_)
   refine Ei [(0,1665)] (Ai rfl (Ai ?_ ?_))
   all_goals repeat' first|refine Ai ?_ ?_|exact rfl|exact trivial|exact Ei _ rfl|refine lN ?_|refine bS ?_|fail
  ·have hRz:=remM_grave s s.objects[i].id i s.objects[i] q hq hql hz
   rw [hR] at hRz
   refine Tp.run [] ?_
   refine cM [] [(1664,0),(1665,0),(1666,0),(1667,0),(1668,0)] (remove_grave s i hi h e0 hz q hq hql) ?_ ?_ ?_
   ·repeat' first|refine Ai ?_ ?_|exact rfl|exact trivial|exact Ei _ rfl|refine lN ?_|refine bS ?_|fail
   ·exact rfl
   rw [hRz] at hM
   subst hM
   refine cond_t ht ?_
   refine Tp.frz [1665] (Tp.run [] ?_)
   refine Ei [(0,1665)] (Ai rfl (Ai ?_ ?_))
   all_goals repeat' first|refine Ai ?_ ?_|exact rfl|exact trivial|exact Ei _ rfl|refine lN ?_|refine bS ?_|fail
  ·have hRz:=remM_ex s s.objects[i].id i s.objects[i] hz
   rw [hR] at hRz
   refine Tp.run [] ?_
   refine cM [] [(1664,0),(1665,0),(1666,0),(1667,0),(1668,0)] (remove_ex s i hi h e0 hz) ?_ ?_ ?_
   ·repeat' first|refine Ai ?_ ?_|exact rfl|exact trivial|exact Ei _ rfl|refine lN ?_|refine bS ?_|fail
   ·exact rfl
   rw [hRz] at hM
   subst hM
   refine cond_t ht ?_
   refine Tp.frz [1665] (Tp.run [] ?_)
   refine Ei [(0,1665)] (Ai rfl (Ai ?_ ?_))
   all_goals repeat' first|refine Ai ?_ ?_|exact rfl|exact trivial|exact Ei _ rfl|refine lN ?_|refine bS ?_|fail
  ·have hRz:=remM_stk s s.objects[i].id i s.objects[i] q hq hql hz
   rw [hR] at hRz
   refine Tp.run [] ?_
   refine cM [] [(1664,0),(1665,0),(1666,0),(1667,0),(1668,0)] (remove_stk s i hi h e0 hz q hq hql) ?_ ?_ ?_
   ·repeat' first|refine Ai ?_ ?_|exact rfl|exact trivial|exact Ei _ rfl|refine lN ?_|refine bS ?_|fail
   ·exact rfl
   rw [hRz] at hM
   subst hM
   refine cond_t ht ?_
   refine Tp.frz [1665] (Tp.run [] ?_)
   refine Ei [(0,1665)] (Ai rfl (Ai ?_ ?_))
   all_goals repeat' first|refine Ai ?_ ?_|exact rfl|exact trivial|exact Ei _ rfl|refine lN ?_|refine bS ?_|fail
 have ht:s.objects[i].token=false:=by simpa using ht
 rw [if_neg (fun hx=>by rw [ht] at hx;cases hx.1)] at hM
 apply joinK (P:=Tryz.prog) (T:=T) (N:=Tryz.f70.ntmps) (w0:=w0) (O:=O) ⟨[(2,.c (.t (iv 2))),(3,.c (.t (iv p))),(4,AV.b b),(5,.ptr 0 0),(10,.ptr 128 0),(12,.ptr 1152 0)],[(0,cells9 R),(128,List.replicate 19 .bot),(1152,s.objects[i].enc.map .t)],rows9 R,20000⟩
 case h=>
  intro K
  rcases (show s.objects[i].zone=0∨s.objects[i].zone=1∨s.objects[i].zone=2∨s.objects[i].zone=3∨s.objects[i].zone=4∨s.objects[i].zone=5 by omega) with hz|hz|hz|hz|hz|hz
  ·have hRz:=remM_bf s s.objects[i].id i s.objects[i] hz
   rw [hR] at hRz
   refine Tp.run [] ?_
   refine cM [] [(1664,0),(1665,0),(1666,0),(1667,0),(1668,0)] (remove_bf s i hi h e0 hz) ?_ ?_ ?_
   ·repeat' first|refine Ai ?_ ?_|exact rfl|exact trivial|exact Ei _ rfl|refine lN ?_|refine bS ?_|fail
   ·exact rfl
   rw [hRz] at K
   refine cond_f ht ?_
   refine Tp.wk (wk_of [(9000,1664),(9001,1665),(9002,3456),(9003,1667),(9004,1668)] rfl rfl ?_ ?_ ?_) K
   all_goals repeat' first|refine Ai ?_ ?_|exact rfl|exact trivial|exact Ei _ rfl|refine lN ?_|refine bS ?_|fail
  ·have hRz:=remM_hand s s.objects[i].id i s.objects[i] q hq hql hz
   rw [hR] at hRz
   refine Tp.run [] ?_
   refine cM [] [(1664,0),(1665,0),(1666,0),(1667,0),(1668,0)] (remove_hand s i hi h e0 hz q hq hql) ?_ ?_ ?_
   ·repeat' first|refine Ai ?_ ?_|exact rfl|exact trivial|exact Ei _ rfl|refine lN ?_|refine bS ?_|fail
   ·exact rfl
   rw [hRz] at K
   refine cond_f ht ?_
   refine Tp.wk (wk_of [(9000,1664),(9001,1665),(9002,1666),(9003,1667),(9004,1668)] rfl rfl ?_ ?_ ?_) K
   ·repeat' first|refine Ai ?_ ?_|exact rfl|exact trivial|exact Ei _ rfl|refine lN ?_|refine bS ?_|fail
   ·repeat' first|refine Ai ?_ ?_|exact rfl|exact trivial|exact Ei _ rfl|refine lN ?_|refine bS ?_|fail
   ·repeat' first|refine Ai ?_ ?_|exact rfl|exact trivial|exact Ei _ rfl|refine lN ?_|refine bS ?_|fail
    exact congrArg (fun n=>(⟨plD,n,[]⟩:Dp)) List.length_set.symm
  ·have hRz:=remM_lib s s.objects[i].id i s.objects[i] q hq hql hz
   rw [hR] at hRz
   refine Tp.run [] ?_
   refine cM [] [(1664,0),(1665,0),(1666,0),(1667,0),(1668,0)] (remove_lib s i hi h e0 hz q hq hql) ?_ ?_ ?_
   ·repeat' first|refine Ai ?_ ?_|exact rfl|exact trivial|exact Ei _ rfl|refine lN ?_|refine bS ?_|fail
   ·exact rfl
   rw [hRz] at K
   refine cond_f ht ?_
   refine Tp.wk (wk_of [(9000,1664),(9001,1665),(9002,1666),(9003,1667),(9004,1668)] rfl rfl ?_ ?_ ?_) K
   ·repeat' first|refine Ai ?_ ?_|exact rfl|exact trivial|exact Ei _ rfl|refine lN ?_|refine bS ?_|fail
   ·repeat' first|refine Ai ?_ ?_|exact rfl|exact trivial|exact Ei _ rfl|refine lN ?_|refine bS ?_|fail
   ·repeat' first|refine Ai ?_ ?_|exact rfl|exact trivial|exact Ei _ rfl|refine lN ?_|refine bS ?_|fail
    exact congrArg (fun n=>(⟨plD,n,[]⟩:Dp)) List.length_set.symm
  ·have hRz:=remM_grave s s.objects[i].id i s.objects[i] q hq hql hz
   rw [hR] at hRz
   refine Tp.run [] ?_
   refine cM [] [(1664,0),(1665,0),(1666,0),(1667,0),(1668,0)] (remove_grave s i hi h e0 hz q hq hql) ?_ ?_ ?_
   ·repeat' first|refine Ai ?_ ?_|exact rfl|exact trivial|exact Ei _ rfl|refine lN ?_|refine bS ?_|fail
   ·exact rfl
   rw [hRz] at K
   refine cond_f ht ?_
   refine Tp.wk (wk_of [(9000,1664),(9001,1665),(9002,1666),(9003,1667),(9004,1668)] rfl rfl ?_ ?_ ?_) K
   ·repeat' first|refine Ai ?_ ?_|exact rfl|exact trivial|exact Ei _ rfl|refine lN ?_|refine bS ?_|fail
   ·repeat' first|refine Ai ?_ ?_|exact rfl|exact trivial|exact Ei _ rfl|refine lN ?_|refine bS ?_|fail
   ·repeat' first|refine Ai ?_ ?_|exact rfl|exact trivial|exact Ei _ rfl|refine lN ?_|refine bS ?_|fail
    exact congrArg (fun n=>(⟨plD,n,[]⟩:Dp)) List.length_set.symm
  ·have hRz:=remM_ex s s.objects[i].id i s.objects[i] hz
   rw [hR] at hRz
   refine Tp.run [] ?_
   refine cM [] [(1664,0),(1665,0),(1666,0),(1667,0),(1668,0)] (remove_ex s i hi h e0 hz) ?_ ?_ ?_
   ·repeat' first|refine Ai ?_ ?_|exact rfl|exact trivial|exact Ei _ rfl|refine lN ?_|refine bS ?_|fail
   ·exact rfl
   rw [hRz] at K
   refine cond_f ht ?_
   refine Tp.wk (wk_of [(9000,1664),(9001,1665),(9002,1666),(9003,3456),(9004,1668)] rfl rfl ?_ ?_ ?_) K
   all_goals repeat' first|refine Ai ?_ ?_|exact rfl|exact trivial|exact Ei _ rfl|refine lN ?_|refine bS ?_|fail
  ·have hRz:=remM_stk s s.objects[i].id i s.objects[i] q hq hql hz
   rw [hR] at hRz
   refine Tp.run [] ?_
   refine cM [] [(1664,0),(1665,0),(1666,0),(1667,0),(1668,0)] (remove_stk s i hi h e0 hz q hq hql) ?_ ?_ ?_
   ·repeat' first|refine Ai ?_ ?_|exact rfl|exact trivial|exact Ei _ rfl|refine lN ?_|refine bS ?_|fail
   ·exact rfl
   rw [hRz] at K
   refine cond_f ht ?_
   refine Tp.wk (wk_of [(9000,1664),(9001,1665),(9002,1666),(9003,1667),(9004,1668)] rfl rfl ?_ ?_ ?_) K
   all_goals repeat' first|refine Ai ?_ ?_|exact rfl|exact trivial|exact Ei _ rfl|refine lN ?_|refine bS ?_|fail
 case key=>
  have hv:=movedP_ct s.objects[i] R.nextId 2 p R.nextStamp
  unfold mvNew at hM
  obtain ⟨x,hx⟩:∃ x,movedM s.objects[i] R.nextId 2 p R.nextStamp=x:=⟨_,rfl⟩
  rw [hx] at hv hM
  have hxi:x.id=R.nextId:=by rw [← hx];rfl
  have hxo:x.owner=(q:Int):=by rw [← hx];exact hq
  rw [← hxi] at hno
  refine Tp.run [15,16,17] ?_
  refine cI hv ⟨fL s.objects[i].enc,rfl,rfl,rfl,rfl,trivial⟩ (.inl rfl) ?_
  refine cM [] [(9000,0),(9001,1),(9002,0),(9003,0),(9004,1)] (put_ctm R x hRok.2.2.1 hno) ?_ ?_ ?_
  ·repeat' first|refine Ai ?_ ?_|exact rfl|exact trivial|exact Ei _ rfl|refine lN ?_|refine bS ?_|fail
  ·exact rfl
  have hqR:q < R.players.length:=by rw [hRpl];exact hql
  have hqm:q < (R.players.map GPlayer.enc).length:=by rw [Lm];exact hqR
  have hll:R.players[q].library.length*8≤limB:=(hRok.2.1 _ (List.getElem_mem hqR)).1
  rw [end_lib R x hno b q hxo hqR] at hM
  have hl:=list_lib (addO R x) q hqR
  rw [← hxo] at hl
  refine cM [0] [(9000,0),(9001,2),(9002,0),(9003,0),(9004,1)] hl ?_ ?_ ?_
  ·repeat' first|refine Ai ?_ ?_|exact rfl|exact trivial|exact Ei _ rfl|refine lN ?_|refine bS ?_|fail
  ·exact rfl
  cases b with
  | true=>
   subst hM
   refine Tp.take 9000 q 11 3 1 (ts:=R.players[q].enc) (ys:=R.players[q].library.map eI) rfl rfl rfl (by simp [plD]) hqR (map_get _ _ q hqR) rfl ?_
   refine Tp.run [] ?_
   refine Ai rfl (Ai hqm (Ai (Nb rfl) ?_))
   refine Ai (.inl rfl) (Ai ?_ (Ai ?_ ?_))
   ·show ((R.players[q].library.map eI).length+1)*8≤_
    rw [Lm]
    exact Nat.le_of_lt (one_more (by decide) hll)
   ·show (R.players[q].library.map eI).length+1 < _
    rw [Lm]
    have:=one_more (n:=R.players[q].library.length) (b:=8) (by decide) hll
    omega
   refine Ei (R.players[q].enc) (Ai (map_get _ _ q hqR) (Ai (Nb rfl) (Ai (Ai rfl trivial) (Ai (.inl rfl) ?_))))
   refine Tp.put 9000 q R.players.length rfl rfl (List.getElem?_set_self hqm) rfl (Ai rfl trivial) rfl (.inl (Ai rfl hqR)) ?_
   refine Tp.frz [9001] (Tp.run [] ?_)
   refine Ei [(0,9001)] (Ai rfl (Ai ?_ ?_))
   ·repeat' first|refine Ai ?_ ?_|exact rfl|exact trivial|exact Ei _ rfl|refine lN ?_|refine bS ?_|fail
   ·repeat' first|refine Ai ?_ ?_|exact rfl|exact trivial|exact Ei _ rfl|refine lN ?_|refine bS ?_|fail
    exact congrArg (Tr.sl 14) (pl_app_lib R.players q R.players[q] _ x.id)
  | false=>
   subst hM
   refine Tp.take 9000 q 11 3 1 (ts:=R.players[q].enc) (ys:=R.players[q].library.map eI) rfl rfl rfl (by simp [plD]) hqR (map_get _ _ q hqR) rfl ?_
   refine Tp.run [] ?_
   refine Ai rfl (Ai hqm (Ai (Nb rfl) ?_))
   refine cM [] [(24736,0),(25505,0)] (insN_ctm R.players[q].library x.id hll) ?_ ?_ ?_
   ·repeat' first|refine Ai ?_ ?_|exact rfl|exact trivial|exact Ei _ rfl|refine lN ?_|refine bS ?_|fail
   ·exact rfl
   refine Ei (R.players[q].enc) (Ai (map_get _ _ q hqR) (Ai (Nb rfl) (Ai (Ai rfl trivial) (Ai (.inl rfl) ?_))))
   refine Tp.put 9000 q R.players.length rfl rfl (List.getElem?_set_self hqm) rfl (Ai rfl trivial) rfl (.inl (Ai rfl hqR)) ?_
   refine Tp.frz [9001] (Tp.run [] ?_)
   refine Ei [(0,9001)] (Ai rfl (Ai ?_ ?_))
   ·repeat' first|refine Ai ?_ ?_|exact rfl|exact trivial|exact Ei _ rfl|refine lN ?_|refine bS ?_|fail
   ·repeat' first|refine Ai ?_ ?_|exact rfl|exact trivial|exact Ei _ rfl|refine lN ?_|refine bS ?_|fail
    exact congrArg (Tr.sl 14) (pl_ins R.players q R.players[q] _ x.id)
theorem moveP_grave (s:GState) (id p:Int) (b:Bool) (i:Nat) (h:s.ok) (hi:i < s.objects.length) (e0:placeM s.objects id=i) (e1:s.objects.findIdx? (fun o=>o.id==id)=some i) (e2:s.objects.find? (fun o=>o.id==id)=some s.objects[i]) (hid:s.objects[i].id=id) (q:Nat) (hq:s.objects[i].owner=(q:Int)) (hql:q < s.players.length) (hlt:∀ y∈s.objects,y.id < s.nextId) (hzz:0≤s.objects[i].zone∧s.objects[i].zone≤5) :
  Ct Tryz.prog 70 [.agg (s.enc.map .t),.c (.t (iv id)),.c (.t (iv 3)),.c (.t (iv p)),AV.b b] (.tup [.agg (((moveM s id 3 p b).1.enc.map .t).set 1 (.row 0 0)),.c (.t (iv (moveM s id 3 p b).2))]) [⟨49,19,0,(moveM s id 3 p b).1.objects.map GObject.enc,none⟩] false:=by
 subst hid
 have hf:=findP_ct s s.objects[i].id h.2.2.1
 unfold findM hasM at hf
 rw [e2] at hf
 change Ct _ _ _ (.tup [.agg (s.objects[i].enc.map .t),AV.b true]) _ _ at hf
 generalize hM:moveM s s.objects[i].id 3 p b=M
 unfold moveM at hM
 rw [e1] at hM
 simp only [List.getElem?_eq_getElem hi] at hM
 unfold mvFound at hM
 rw [if_neg (by omega)] at hM
 obtain ⟨hRok,hRn⟩:=remM_ok h s.objects[i].id i s.objects[i] hi
 have hno:=remM_nos (id:=s.objects[i].id) (i:=i) (o:=s.objects[i]) hlt
 have hRpl:(remM s s.objects[i].id i s.objects[i]).players.length=s.players.length:=remM_pl s _ i _
 refine ct_of Tryz.func70 rfl (enters_of Tryz.func70 (by kernel_rfl) rfl) tabOk (by kernel_rfl) rfl rfl rfl rfl fun w0 O _=>Tp.run [5,7,8,15,16,17] ?_
 refine cI hf ⟨fL s.enc,rfl,trivial⟩ (.inl rfl) ?_
 refine cI (copyP_ct s h) ⟨fL s.enc,trivial⟩ (.inr rfl) ?_
 obtain ⟨R,hR⟩:∃ R,remM s s.objects[i].id i s.objects[i]=R:=⟨_,rfl⟩
 rw [hR] at hM hRok hRn hno hRpl
 by_cases ht:s.objects[i].token=true
 ·rw [if_pos ⟨ht,rfl,rfl⟩] at hM
  rcases (show s.objects[i].zone=0∨s.objects[i].zone=1∨s.objects[i].zone=2∨s.objects[i].zone=3∨s.objects[i].zone=4∨s.objects[i].zone=5 by omega) with hz|hz|hz|hz|hz|hz
  ·have hRz:=remM_bf s s.objects[i].id i s.objects[i] hz
   rw [hR] at hRz
   refine Tp.run [] ?_
   refine cM [] [(1664,0),(1665,0),(1666,0),(1667,0),(1668,0)] (remove_bf s i hi h e0 hz) ?_ ?_ ?_
   ·repeat' first|refine Ai ?_ ?_|exact rfl|exact trivial|exact Ei _ rfl|refine lN ?_|refine bS ?_|fail
   ·exact rfl
   rw [hRz] at hM
   subst hM
   refine cond_t ht ?_
   refine Tp.frz [1665] (Tp.run [] ?_)
   refine Ei [(0,1665)] (Ai rfl (Ai ?_ ?_))
   all_goals repeat' first|refine Ai ?_ ?_|exact rfl|exact trivial|exact Ei _ rfl|refine lN ?_|refine bS ?_|fail
  ·have hRz:=remM_hand s s.objects[i].id i s.objects[i] q hq hql hz
   rw [hR] at hRz
   refine Tp.run [] ?_
   refine cM [] [(1664,0),(1665,0),(1666,0),(1667,0),(1668,0)] (remove_hand s i hi h e0 hz q hq hql) ?_ ?_ ?_
   ·repeat' first|refine Ai ?_ ?_|exact rfl|exact trivial|exact Ei _ rfl|refine lN ?_|refine bS ?_|fail
   ·exact rfl
   rw [hRz] at hM
   subst hM
   refine cond_t ht ?_
   refine Tp.frz [1665] (Tp.run [] ?_)
   refine Ei [(0,1665)] (Ai rfl (Ai ?_ ?_))
   all_goals repeat' first|refine Ai ?_ ?_|exact rfl|exact trivial|exact Ei _ rfl|refine lN ?_|refine bS ?_|fail
  ·have hRz:=remM_lib s s.objects[i].id i s.objects[i] q hq hql hz
   rw [hR] at hRz
   refine Tp.run [] ?_
   refine cM [] [(1664,0),(1665,0),(1666,0),(1667,0),(1668,0)] (remove_lib s i hi h e0 hz q hq hql) ?_ ?_ ?_
   ·repeat' first|refine Ai ?_ ?_|exact rfl|exact trivial|exact Ei _ rfl|refine lN ?_|refine bS ?_|fail
   ·exact rfl
   rw [hRz] at hM
   subst hM
   refine cond_t ht ?_
   refine Tp.frz [1665] (Tp.run [] ?_)
   refine Ei [(0,1665)] (Ai rfl (Ai ?_ ?_))
   all_goals repeat' first|refine Ai ?_ ?_|exact rfl|exact trivial|exact Ei _ rfl|refine lN ?_|refine bS ?_|fail
  ·have hRz:=remM_grave s s.objects[i].id i s.objects[i] q hq hql hz
   rw [hR] at hRz
   refine Tp.run [] ?_
   refine cM [] [(1664,0),(1665,0),(1666,0),(1667,0),(1668,0)] (remove_grave s i hi h e0 hz q hq hql) ?_ ?_ ?_
   ·repeat' first|refine Ai ?_ ?_|exact rfl|exact trivial|exact Ei _ rfl|refine lN ?_|refine bS ?_|fail
   ·exact rfl
   rw [hRz] at hM
   subst hM
   refine cond_t ht ?_
   refine Tp.frz [1665] (Tp.run [] ?_)
   refine Ei [(0,1665)] (Ai rfl (Ai ?_ ?_))
   all_goals repeat' first|refine Ai ?_ ?_|exact rfl|exact trivial|exact Ei _ rfl|refine lN ?_|refine bS ?_|fail
  ·have hRz:=remM_ex s s.objects[i].id i s.objects[i] hz
   rw [hR] at hRz
   refine Tp.run [] ?_
   refine cM [] [(1664,0),(1665,0),(1666,0),(1667,0),(1668,0)] (remove_ex s i hi h e0 hz) ?_ ?_ ?_
   ·repeat' first|refine Ai ?_ ?_|exact rfl|exact trivial|exact Ei _ rfl|refine lN ?_|refine bS ?_|fail
   ·exact rfl
   rw [hRz] at hM
   subst hM
   refine cond_t ht ?_
   refine Tp.frz [1665] (Tp.run [] ?_)
   refine Ei [(0,1665)] (Ai rfl (Ai ?_ ?_))
   all_goals repeat' first|refine Ai ?_ ?_|exact rfl|exact trivial|exact Ei _ rfl|refine lN ?_|refine bS ?_|fail
  ·have hRz:=remM_stk s s.objects[i].id i s.objects[i] q hq hql hz
   rw [hR] at hRz
   refine Tp.run [] ?_
   refine cM [] [(1664,0),(1665,0),(1666,0),(1667,0),(1668,0)] (remove_stk s i hi h e0 hz q hq hql) ?_ ?_ ?_
   ·repeat' first|refine Ai ?_ ?_|exact rfl|exact trivial|exact Ei _ rfl|refine lN ?_|refine bS ?_|fail
   ·exact rfl
   rw [hRz] at hM
   subst hM
   refine cond_t ht ?_
   refine Tp.frz [1665] (Tp.run [] ?_)
   refine Ei [(0,1665)] (Ai rfl (Ai ?_ ?_))
   all_goals repeat' first|refine Ai ?_ ?_|exact rfl|exact trivial|exact Ei _ rfl|refine lN ?_|refine bS ?_|fail
 have ht:s.objects[i].token=false:=by simpa using ht
 rw [if_neg (fun hx=>by rw [ht] at hx;cases hx.1)] at hM
 apply joinK (P:=Tryz.prog) (T:=T) (N:=Tryz.f70.ntmps) (w0:=w0) (O:=O) ⟨[(2,.c (.t (iv 3))),(3,.c (.t (iv p))),(4,AV.b b),(5,.ptr 0 0),(10,.ptr 128 0),(12,.ptr 1152 0)],[(0,cells9 R),(128,List.replicate 19 .bot),(1152,s.objects[i].enc.map .t)],rows9 R,20000⟩
 case h=>
  intro K
  rcases (show s.objects[i].zone=0∨s.objects[i].zone=1∨s.objects[i].zone=2∨s.objects[i].zone=3∨s.objects[i].zone=4∨s.objects[i].zone=5 by omega) with hz|hz|hz|hz|hz|hz
  ·have hRz:=remM_bf s s.objects[i].id i s.objects[i] hz
   rw [hR] at hRz
   refine Tp.run [] ?_
   refine cM [] [(1664,0),(1665,0),(1666,0),(1667,0),(1668,0)] (remove_bf s i hi h e0 hz) ?_ ?_ ?_
   ·repeat' first|refine Ai ?_ ?_|exact rfl|exact trivial|exact Ei _ rfl|refine lN ?_|refine bS ?_|fail
   ·exact rfl
   rw [hRz] at K
   refine cond_f ht ?_
   refine Tp.wk (wk_of [(9000,1664),(9001,1665),(9002,3456),(9003,1667),(9004,1668)] rfl rfl ?_ ?_ ?_) K
   all_goals repeat' first|refine Ai ?_ ?_|exact rfl|exact trivial|exact Ei _ rfl|refine lN ?_|refine bS ?_|fail
  ·have hRz:=remM_hand s s.objects[i].id i s.objects[i] q hq hql hz
   rw [hR] at hRz
   refine Tp.run [] ?_
   refine cM [] [(1664,0),(1665,0),(1666,0),(1667,0),(1668,0)] (remove_hand s i hi h e0 hz q hq hql) ?_ ?_ ?_
   ·repeat' first|refine Ai ?_ ?_|exact rfl|exact trivial|exact Ei _ rfl|refine lN ?_|refine bS ?_|fail
   ·exact rfl
   rw [hRz] at K
   refine cond_f ht ?_
   refine Tp.wk (wk_of [(9000,1664),(9001,1665),(9002,1666),(9003,1667),(9004,1668)] rfl rfl ?_ ?_ ?_) K
   ·repeat' first|refine Ai ?_ ?_|exact rfl|exact trivial|exact Ei _ rfl|refine lN ?_|refine bS ?_|fail
   ·repeat' first|refine Ai ?_ ?_|exact rfl|exact trivial|exact Ei _ rfl|refine lN ?_|refine bS ?_|fail
   ·repeat' first|refine Ai ?_ ?_|exact rfl|exact trivial|exact Ei _ rfl|refine lN ?_|refine bS ?_|fail
    exact congrArg (fun n=>(⟨plD,n,[]⟩:Dp)) List.length_set.symm
  ·have hRz:=remM_lib s s.objects[i].id i s.objects[i] q hq hql hz
   rw [hR] at hRz
   refine Tp.run [] ?_
   refine cM [] [(1664,0),(1665,0),(1666,0),(1667,0),(1668,0)] (remove_lib s i hi h e0 hz q hq hql) ?_ ?_ ?_
   ·repeat' first|refine Ai ?_ ?_|exact rfl|exact trivial|exact Ei _ rfl|refine lN ?_|refine bS ?_|fail
   ·exact rfl
   rw [hRz] at K
   refine cond_f ht ?_
   refine Tp.wk (wk_of [(9000,1664),(9001,1665),(9002,1666),(9003,1667),(9004,1668)] rfl rfl ?_ ?_ ?_) K
   ·repeat' first|refine Ai ?_ ?_|exact rfl|exact trivial|exact Ei _ rfl|refine lN ?_|refine bS ?_|fail
   ·repeat' first|refine Ai ?_ ?_|exact rfl|exact trivial|exact Ei _ rfl|refine lN ?_|refine bS ?_|fail
   ·repeat' first|refine Ai ?_ ?_|exact rfl|exact trivial|exact Ei _ rfl|refine lN ?_|refine bS ?_|fail
    exact congrArg (fun n=>(⟨plD,n,[]⟩:Dp)) List.length_set.symm
  ·have hRz:=remM_grave s s.objects[i].id i s.objects[i] q hq hql hz
   rw [hR] at hRz
   refine Tp.run [] ?_
   refine cM [] [(1664,0),(1665,0),(1666,0),(1667,0),(1668,0)] (remove_grave s i hi h e0 hz q hq hql) ?_ ?_ ?_
   ·repeat' first|refine Ai ?_ ?_|exact rfl|exact trivial|exact Ei _ rfl|refine lN ?_|refine bS ?_|fail
   ·exact rfl
   rw [hRz] at K
   refine cond_f ht ?_
   refine Tp.wk (wk_of [(9000,1664),(9001,1665),(9002,1666),(9003,1667),(9004,1668)] rfl rfl ?_ ?_ ?_) K
   ·repeat' first|refine Ai ?_ ?_|exact rfl|exact trivial|exact Ei _ rfl|refine lN ?_|refine bS ?_|fail
   ·repeat' first|refine Ai ?_ ?_|exact rfl|exact trivial|exact Ei _ rfl|refine lN ?_|refine bS ?_|fail
   ·repeat' first|refine Ai ?_ ?_|exact rfl|exact trivial|exact Ei _ rfl|refine lN ?_|refine bS ?_|fail
    exact congrArg (fun n=>(⟨plD,n,[]⟩:Dp)) List.length_set.symm
  ·have hRz:=remM_ex s s.objects[i].id i s.objects[i] hz
   rw [hR] at hRz
   refine Tp.run [] ?_
   refine cM [] [(1664,0),(1665,0),(1666,0),(1667,0),(1668,0)] (remove_ex s i hi h e0 hz) ?_ ?_ ?_
   ·repeat' first|refine Ai ?_ ?_|exact rfl|exact trivial|exact Ei _ rfl|refine lN ?_|refine bS ?_|fail
   ·exact rfl
   rw [hRz] at K
   refine cond_f ht ?_
   refine Tp.wk (wk_of [(9000,1664),(9001,1665),(9002,1666),(9003,3456),(9004,1668)] rfl rfl ?_ ?_ ?_) K
   all_goals repeat' first|refine Ai ?_ ?_|exact rfl|exact trivial|exact Ei _ rfl|refine lN ?_|refine bS ?_|fail
  ·have hRz:=remM_stk s s.objects[i].id i s.objects[i] q hq hql hz
   rw [hR] at hRz
   refine Tp.run [] ?_
   refine cM [] [(1664,0),(1665,0),(1666,0),(1667,0),(1668,0)] (remove_stk s i hi h e0 hz q hq hql) ?_ ?_ ?_
   ·repeat' first|refine Ai ?_ ?_|exact rfl|exact trivial|exact Ei _ rfl|refine lN ?_|refine bS ?_|fail
   ·exact rfl
   rw [hRz] at K
   refine cond_f ht ?_
   refine Tp.wk (wk_of [(9000,1664),(9001,1665),(9002,1666),(9003,1667),(9004,1668)] rfl rfl ?_ ?_ ?_) K
   all_goals repeat' first|refine Ai ?_ ?_|exact rfl|exact trivial|exact Ei _ rfl|refine lN ?_|refine bS ?_|fail
 case key=>
  have hv:=movedP_ct s.objects[i] R.nextId 3 p R.nextStamp
  unfold mvNew at hM
  obtain ⟨x,hx⟩:∃ x,movedM s.objects[i] R.nextId 3 p R.nextStamp=x:=⟨_,rfl⟩
  rw [hx] at hv hM
  have hxi:x.id=R.nextId:=by rw [← hx];rfl
  have hxo:x.owner=(q:Int):=by rw [← hx];exact hq
  rw [← hxi] at hno
  refine Tp.run [15,16,17] ?_
  refine cI hv ⟨fL s.objects[i].enc,rfl,rfl,rfl,rfl,trivial⟩ (.inl rfl) ?_
  refine cM [] [(9000,0),(9001,1),(9002,0),(9003,0),(9004,1)] (put_ctm R x hRok.2.2.1 hno) ?_ ?_ ?_
  ·repeat' first|refine Ai ?_ ?_|exact rfl|exact trivial|exact Ei _ rfl|refine lN ?_|refine bS ?_|fail
  ·exact rfl
  have hqR:q < R.players.length:=by rw [hRpl];exact hql
  have hqm:q < (R.players.map GPlayer.enc).length:=by rw [Lm];exact hqR
  have hll:R.players[q].graveyard.length*8≤limB:=(hRok.2.1 _ (List.getElem_mem hqR)).2.2
  rw [end_grave R x hno b q hxo hqR] at hM
  have hl:=list_grave (addO R x) q hqR
  rw [← hxo] at hl
  refine cM [0] [(9000,0),(9001,2),(9002,0),(9003,0),(9004,1)] hl ?_ ?_ ?_
  ·repeat' first|refine Ai ?_ ?_|exact rfl|exact trivial|exact Ei _ rfl|refine lN ?_|refine bS ?_|fail
  ·exact rfl
  subst hM
  refine Tp.take 9000 q 13 3 1 (ts:=R.players[q].enc) (ys:=R.players[q].graveyard.map eI) rfl rfl rfl (by simp [plD]) hqR (map_get _ _ q hqR) rfl ?_
  refine Tp.run [] ?_
  refine Ai rfl (Ai hqm (Ai (Nb rfl) ?_))
  refine Ai (.inl rfl) (Ai ?_ (Ai ?_ ?_))
  ·show ((R.players[q].graveyard.map eI).length+1)*8≤_
   rw [Lm]
   exact Nat.le_of_lt (one_more (by decide) hll)
  ·show (R.players[q].graveyard.map eI).length+1 < _
   rw [Lm]
   have:=one_more (n:=R.players[q].graveyard.length) (b:=8) (by decide) hll
   omega
  refine Ei (R.players[q].enc) (Ai (map_get _ _ q hqR) (Ai (Nb rfl) (Ai (Ai rfl trivial) (Ai (.inl rfl) ?_))))
  refine Tp.put 9000 q R.players.length rfl rfl (List.getElem?_set_self hqm) rfl (Ai rfl trivial) rfl (.inl (Ai rfl hqR)) ?_
  refine Tp.frz [9001] (Tp.run [] ?_)
  refine Ei [(0,9001)] (Ai rfl (Ai ?_ ?_))
  ·repeat' first|refine Ai ?_ ?_|exact rfl|exact trivial|exact Ei _ rfl|refine lN ?_|refine bS ?_|fail
  ·repeat' first|refine Ai ?_ ?_|exact rfl|exact trivial|exact Ei _ rfl|refine lN ?_|refine bS ?_|fail
   exact congrArg (Tr.sl 14) (pl_app_grave R.players q R.players[q] _ x.id)
theorem moveP_ex (s:GState) (id p:Int) (b:Bool) (i:Nat) (h:s.ok) (hi:i < s.objects.length) (e0:placeM s.objects id=i) (e1:s.objects.findIdx? (fun o=>o.id==id)=some i) (e2:s.objects.find? (fun o=>o.id==id)=some s.objects[i]) (hid:s.objects[i].id=id) (q:Nat) (hq:s.objects[i].owner=(q:Int)) (hql:q < s.players.length) (hlt:∀ y∈s.objects,y.id < s.nextId) (hzz:0≤s.objects[i].zone∧s.objects[i].zone≤5) :
  Ct Tryz.prog 70 [.agg (s.enc.map .t),.c (.t (iv id)),.c (.t (iv 4)),.c (.t (iv p)),AV.b b] (.tup [.agg (((moveM s id 4 p b).1.enc.map .t).set 1 (.row 0 0)),.c (.t (iv (moveM s id 4 p b).2))]) [⟨49,19,0,(moveM s id 4 p b).1.objects.map GObject.enc,none⟩] false:=by
 subst hid
 have hf:=findP_ct s s.objects[i].id h.2.2.1
 unfold findM hasM at hf
 rw [e2] at hf
 change Ct _ _ _ (.tup [.agg (s.objects[i].enc.map .t),AV.b true]) _ _ at hf
 generalize hM:moveM s s.objects[i].id 4 p b=M
 unfold moveM at hM
 rw [e1] at hM
 simp only [List.getElem?_eq_getElem hi] at hM
 unfold mvFound at hM
 rw [if_neg (by omega)] at hM
 obtain ⟨hRok,hRn⟩:=remM_ok h s.objects[i].id i s.objects[i] hi
 have hno:=remM_nos (id:=s.objects[i].id) (i:=i) (o:=s.objects[i]) hlt
 have hRpl:(remM s s.objects[i].id i s.objects[i]).players.length=s.players.length:=remM_pl s _ i _
 refine ct_of Tryz.func70 rfl (enters_of Tryz.func70 (by kernel_rfl) rfl) tabOk (by kernel_rfl) rfl rfl rfl rfl fun w0 O _=>Tp.run [5,7,8,15,16,17] ?_
 refine cI hf ⟨fL s.enc,rfl,trivial⟩ (.inl rfl) ?_
 refine cI (copyP_ct s h) ⟨fL s.enc,trivial⟩ (.inr rfl) ?_
 obtain ⟨R,hR⟩:∃ R,remM s s.objects[i].id i s.objects[i]=R:=⟨_,rfl⟩
 rw [hR] at hM hRok hRn hno hRpl
 by_cases ht:s.objects[i].token=true
 ·rw [if_pos ⟨ht,rfl,rfl⟩] at hM
  rcases (show s.objects[i].zone=0∨s.objects[i].zone=1∨s.objects[i].zone=2∨s.objects[i].zone=3∨s.objects[i].zone=4∨s.objects[i].zone=5 by omega) with hz|hz|hz|hz|hz|hz
  ·have hRz:=remM_bf s s.objects[i].id i s.objects[i] hz
   rw [hR] at hRz
   refine Tp.run [] ?_
   refine cM [] [(1664,0),(1665,0),(1666,0),(1667,0),(1668,0)] (remove_bf s i hi h e0 hz) ?_ ?_ ?_
   ·repeat' first|refine Ai ?_ ?_|exact rfl|exact trivial|exact Ei _ rfl|refine lN ?_|refine bS ?_|fail
   ·exact rfl
   rw [hRz] at hM
   subst hM
   refine cond_t ht ?_
   refine Tp.frz [1665] (Tp.run [] ?_)
   refine Ei [(0,1665)] (Ai rfl (Ai ?_ ?_))
   all_goals repeat' first|refine Ai ?_ ?_|exact rfl|exact trivial|exact Ei _ rfl|refine lN ?_|refine bS ?_|fail
  ·have hRz:=remM_hand s s.objects[i].id i s.objects[i] q hq hql hz
   rw [hR] at hRz
   refine Tp.run [] ?_
   refine cM [] [(1664,0),(1665,0),(1666,0),(1667,0),(1668,0)] (remove_hand s i hi h e0 hz q hq hql) ?_ ?_ ?_
   ·repeat' first|refine Ai ?_ ?_|exact rfl|exact trivial|exact Ei _ rfl|refine lN ?_|refine bS ?_|fail
   ·exact rfl
   rw [hRz] at hM
   subst hM
   refine cond_t ht ?_
   refine Tp.frz [1665] (Tp.run [] ?_)
   refine Ei [(0,1665)] (Ai rfl (Ai ?_ ?_))
   all_goals repeat' first|refine Ai ?_ ?_|exact rfl|exact trivial|exact Ei _ rfl|refine lN ?_|refine bS ?_|fail
  ·have hRz:=remM_lib s s.objects[i].id i s.objects[i] q hq hql hz
   rw [hR] at hRz
   refine Tp.run [] ?_
   refine cM [] [(1664,0),(1665,0),(1666,0),(1667,0),(1668,0)] (remove_lib s i hi h e0 hz q hq hql) ?_ ?_ ?_
   ·repeat' first|refine Ai ?_ ?_|exact rfl|exact trivial|exact Ei _ rfl|refine lN ?_|refine bS ?_|fail
   ·exact rfl
   rw [hRz] at hM
   subst hM
   refine cond_t ht ?_
   refine Tp.frz [1665] (Tp.run [] ?_)
   refine Ei [(0,1665)] (Ai rfl (Ai ?_ ?_))
   all_goals repeat' first|refine Ai ?_ ?_|exact rfl|exact trivial|exact Ei _ rfl|refine lN ?_|refine bS ?_|fail
  ·have hRz:=remM_grave s s.objects[i].id i s.objects[i] q hq hql hz
   rw [hR] at hRz
   refine Tp.run [] ?_
   refine cM [] [(1664,0),(1665,0),(1666,0),(1667,0),(1668,0)] (remove_grave s i hi h e0 hz q hq hql) ?_ ?_ ?_
   ·repeat' first|refine Ai ?_ ?_|exact rfl|exact trivial|exact Ei _ rfl|refine lN ?_|refine bS ?_|fail
   ·exact rfl
   rw [hRz] at hM
   subst hM
   refine cond_t ht ?_
   refine Tp.frz [1665] (Tp.run [] ?_)
   refine Ei [(0,1665)] (Ai rfl (Ai ?_ ?_))
   all_goals repeat' first|refine Ai ?_ ?_|exact rfl|exact trivial|exact Ei _ rfl|refine lN ?_|refine bS ?_|fail
  ·have hRz:=remM_ex s s.objects[i].id i s.objects[i] hz
   rw [hR] at hRz
   refine Tp.run [] ?_
   refine cM [] [(1664,0),(1665,0),(1666,0),(1667,0),(1668,0)] (remove_ex s i hi h e0 hz) ?_ ?_ ?_
   ·repeat' first|refine Ai ?_ ?_|exact rfl|exact trivial|exact Ei _ rfl|refine lN ?_|refine bS ?_|fail
   ·exact rfl
   rw [hRz] at hM
   subst hM
   refine cond_t ht ?_
   refine Tp.frz [1665] (Tp.run [] ?_)
   refine Ei [(0,1665)] (Ai rfl (Ai ?_ ?_))
   all_goals repeat' first|refine Ai ?_ ?_|exact rfl|exact trivial|exact Ei _ rfl|refine lN ?_|refine bS ?_|fail
  ·have hRz:=remM_stk s s.objects[i].id i s.objects[i] q hq hql hz
   rw [hR] at hRz
   refine Tp.run [] ?_
   refine cM [] [(1664,0),(1665,0),(1666,0),(1667,0),(1668,0)] (remove_stk s i hi h e0 hz q hq hql) ?_ ?_ ?_
   ·repeat' first|refine Ai ?_ ?_|exact rfl|exact trivial|exact Ei _ rfl|refine lN ?_|refine bS ?_|fail
   ·exact rfl
   rw [hRz] at hM
   subst hM
   refine cond_t ht ?_
   refine Tp.frz [1665] (Tp.run [] ?_)
   refine Ei [(0,1665)] (Ai rfl (Ai ?_ ?_))
   all_goals repeat' first|refine Ai ?_ ?_|exact rfl|exact trivial|exact Ei _ rfl|refine lN ?_|refine bS ?_|fail
 have ht:s.objects[i].token=false:=by simpa using ht
 rw [if_neg (fun hx=>by rw [ht] at hx;cases hx.1)] at hM
 apply joinK (P:=Tryz.prog) (T:=T) (N:=Tryz.f70.ntmps) (w0:=w0) (O:=O) ⟨[(2,.c (.t (iv 4))),(3,.c (.t (iv p))),(4,AV.b b),(5,.ptr 0 0),(10,.ptr 128 0),(12,.ptr 1152 0)],[(0,cells9 R),(128,List.replicate 19 .bot),(1152,s.objects[i].enc.map .t)],rows9 R,20000⟩
 case h=>
  intro K
  rcases (show s.objects[i].zone=0∨s.objects[i].zone=1∨s.objects[i].zone=2∨s.objects[i].zone=3∨s.objects[i].zone=4∨s.objects[i].zone=5 by omega) with hz|hz|hz|hz|hz|hz
  ·have hRz:=remM_bf s s.objects[i].id i s.objects[i] hz
   rw [hR] at hRz
   refine Tp.run [] ?_
   refine cM [] [(1664,0),(1665,0),(1666,0),(1667,0),(1668,0)] (remove_bf s i hi h e0 hz) ?_ ?_ ?_
   ·repeat' first|refine Ai ?_ ?_|exact rfl|exact trivial|exact Ei _ rfl|refine lN ?_|refine bS ?_|fail
   ·exact rfl
   rw [hRz] at K
   refine cond_f ht ?_
   refine Tp.wk (wk_of [(9000,1664),(9001,1665),(9002,3456),(9003,1667),(9004,1668)] rfl rfl ?_ ?_ ?_) K
   all_goals repeat' first|refine Ai ?_ ?_|exact rfl|exact trivial|exact Ei _ rfl|refine lN ?_|refine bS ?_|fail
  ·have hRz:=remM_hand s s.objects[i].id i s.objects[i] q hq hql hz
   rw [hR] at hRz
   refine Tp.run [] ?_
   refine cM [] [(1664,0),(1665,0),(1666,0),(1667,0),(1668,0)] (remove_hand s i hi h e0 hz q hq hql) ?_ ?_ ?_
   ·repeat' first|refine Ai ?_ ?_|exact rfl|exact trivial|exact Ei _ rfl|refine lN ?_|refine bS ?_|fail
   ·exact rfl
   rw [hRz] at K
   refine cond_f ht ?_
   refine Tp.wk (wk_of [(9000,1664),(9001,1665),(9002,1666),(9003,1667),(9004,1668)] rfl rfl ?_ ?_ ?_) K
   ·repeat' first|refine Ai ?_ ?_|exact rfl|exact trivial|exact Ei _ rfl|refine lN ?_|refine bS ?_|fail
   ·repeat' first|refine Ai ?_ ?_|exact rfl|exact trivial|exact Ei _ rfl|refine lN ?_|refine bS ?_|fail
   ·repeat' first|refine Ai ?_ ?_|exact rfl|exact trivial|exact Ei _ rfl|refine lN ?_|refine bS ?_|fail
    exact congrArg (fun n=>(⟨plD,n,[]⟩:Dp)) List.length_set.symm
  ·have hRz:=remM_lib s s.objects[i].id i s.objects[i] q hq hql hz
   rw [hR] at hRz
   refine Tp.run [] ?_
   refine cM [] [(1664,0),(1665,0),(1666,0),(1667,0),(1668,0)] (remove_lib s i hi h e0 hz q hq hql) ?_ ?_ ?_
   ·repeat' first|refine Ai ?_ ?_|exact rfl|exact trivial|exact Ei _ rfl|refine lN ?_|refine bS ?_|fail
   ·exact rfl
   rw [hRz] at K
   refine cond_f ht ?_
   refine Tp.wk (wk_of [(9000,1664),(9001,1665),(9002,1666),(9003,1667),(9004,1668)] rfl rfl ?_ ?_ ?_) K
   ·repeat' first|refine Ai ?_ ?_|exact rfl|exact trivial|exact Ei _ rfl|refine lN ?_|refine bS ?_|fail
   ·repeat' first|refine Ai ?_ ?_|exact rfl|exact trivial|exact Ei _ rfl|refine lN ?_|refine bS ?_|fail
   ·repeat' first|refine Ai ?_ ?_|exact rfl|exact trivial|exact Ei _ rfl|refine lN ?_|refine bS ?_|fail
    exact congrArg (fun n=>(⟨plD,n,[]⟩:Dp)) List.length_set.symm
  ·have hRz:=remM_grave s s.objects[i].id i s.objects[i] q hq hql hz
   rw [hR] at hRz
   refine Tp.run [] ?_
   refine cM [] [(1664,0),(1665,0),(1666,0),(1667,0),(1668,0)] (remove_grave s i hi h e0 hz q hq hql) ?_ ?_ ?_
   ·repeat' first|refine Ai ?_ ?_|exact rfl|exact trivial|exact Ei _ rfl|refine lN ?_|refine bS ?_|fail
   ·exact rfl
   rw [hRz] at K
   refine cond_f ht ?_
   refine Tp.wk (wk_of [(9000,1664),(9001,1665),(9002,1666),(9003,1667),(9004,1668)] rfl rfl ?_ ?_ ?_) K
   ·repeat' first|refine Ai ?_ ?_|exact rfl|exact trivial|exact Ei _ rfl|refine lN ?_|refine bS ?_|fail
   ·repeat' first|refine Ai ?_ ?_|exact rfl|exact trivial|exact Ei _ rfl|refine lN ?_|refine bS ?_|fail
   ·repeat' first|refine Ai ?_ ?_|exact rfl|exact trivial|exact Ei _ rfl|refine lN ?_|refine bS ?_|fail
    exact congrArg (fun n=>(⟨plD,n,[]⟩:Dp)) List.length_set.symm
  ·have hRz:=remM_ex s s.objects[i].id i s.objects[i] hz
   rw [hR] at hRz
   refine Tp.run [] ?_
   refine cM [] [(1664,0),(1665,0),(1666,0),(1667,0),(1668,0)] (remove_ex s i hi h e0 hz) ?_ ?_ ?_
   ·repeat' first|refine Ai ?_ ?_|exact rfl|exact trivial|exact Ei _ rfl|refine lN ?_|refine bS ?_|fail
   ·exact rfl
   rw [hRz] at K
   refine cond_f ht ?_
   refine Tp.wk (wk_of [(9000,1664),(9001,1665),(9002,1666),(9003,3456),(9004,1668)] rfl rfl ?_ ?_ ?_) K
   all_goals repeat' first|refine Ai ?_ ?_|exact rfl|exact trivial|exact Ei _ rfl|refine lN ?_|refine bS ?_|fail
  ·have hRz:=remM_stk s s.objects[i].id i s.objects[i] q hq hql hz
   rw [hR] at hRz
   refine Tp.run [] ?_
   refine cM [] [(1664,0),(1665,0),(1666,0),(1667,0),(1668,0)] (remove_stk s i hi h e0 hz q hq hql) ?_ ?_ ?_
   ·repeat' first|refine Ai ?_ ?_|exact rfl|exact trivial|exact Ei _ rfl|refine lN ?_|refine bS ?_|fail
   ·exact rfl
   rw [hRz] at K
   refine cond_f ht ?_
   refine Tp.wk (wk_of [(9000,1664),(9001,1665),(9002,1666),(9003,1667),(9004,1668)] rfl rfl ?_ ?_ ?_) K
   all_goals repeat' first|refine Ai ?_ ?_|exact rfl|exact trivial|exact Ei _ rfl|refine lN ?_|refine bS ?_|fail
 case key=>
  have hv:=movedP_ct s.objects[i] R.nextId 4 p R.nextStamp
  unfold mvNew at hM
  obtain ⟨x,hx⟩:∃ x,movedM s.objects[i] R.nextId 4 p R.nextStamp=x:=⟨_,rfl⟩
  rw [hx] at hv hM
  have hxi:x.id=R.nextId:=by rw [← hx];rfl
  have hxo:x.owner=(q:Int):=by rw [← hx];exact hq
  rw [← hxi] at hno
  refine Tp.run [15,16,17] ?_
  refine cI hv ⟨fL s.objects[i].enc,rfl,rfl,rfl,rfl,trivial⟩ (.inl rfl) ?_
  refine cM [] [(9000,0),(9001,1),(9002,0),(9003,0),(9004,1)] (put_ctm R x hRok.2.2.1 hno) ?_ ?_ ?_
  ·repeat' first|refine Ai ?_ ?_|exact rfl|exact trivial|exact Ei _ rfl|refine lN ?_|refine bS ?_|fail
  ·exact rfl
  rw [end_ex R x hno b] at hM
  subst hM
  have hbt:R.exile.length*8≤limB:=hRok.2.2.2.2.2.1
  refine cM [0] [(9000,0),(9001,2),(9002,0),(9003,0),(9004,1)] (list_ex (addO R x) x.owner) ?_ ?_ ?_
  ·repeat' first|refine Ai ?_ ?_|exact rfl|exact trivial|exact Ei _ rfl|refine lN ?_|refine bS ?_|fail
  ·exact rfl
  refine Tp.run [] ?_
  refine Ai (.inl rfl) (Ai ?_ (Ai ?_ ?_))
  ·show ((R.exile.map eI).length+1)*8≤_
   rw [Lm]
   exact Nat.le_of_lt (one_more (by decide) hbt)
  ·show (R.exile.map eI).length+1 < _
   rw [Lm]
   have:=one_more (n:=R.exile.length) (b:=8) (by decide) hbt
   omega
  refine Tp.frz [9001] (Tp.run [] ?_)
  refine Ei [(0,9001)] (Ai rfl (Ai ?_ ?_))
  ·repeat' first|refine Ai ?_ ?_|exact rfl|exact trivial|exact Ei _ rfl|refine lN ?_|refine bS ?_|fail
  ·repeat' first|refine Ai ?_ ?_|exact rfl|exact trivial|exact Ei _ rfl|refine lN ?_|refine bS ?_|fail
   first
   | exact congrArg (Tr.sl 1) (List.map_append (f:=eI) (l₁:=R.exile) (l₂:=[x.id])).symm
   | exact congrArg (Tr.sl 1) (List.map_append (f:=eI) (l₁:=R.exile) (l₂:=[x.id]))
structure MvH (s:GState):Prop where
 own:∀ o∈s.objects,0≤o.owner∧o.owner < (s.players.length:Int)
 zone:∀ o∈s.objects,0≤o.zone∧o.zone≤5
 lt:∀ y∈s.objects,y.id < s.nextId
theorem moveP_ct (s:GState) (id z p:Int) (b:Bool) (h:s.ok) (H:MvH s) (hh:hasM s.objects id=true) (hz:0≤z∧z≤4):Ct Tryz.prog 70 [.agg (s.enc.map .t),.c (.t (iv id)),.c (.t (iv z)),.c (.t (iv p)),AV.b b] (.tup [.agg (((moveM s id z p b).1.enc.map .t).set 1 (.row 0 0)),.c (.t (iv (moveM s id z p b).2))]) [⟨49,19,0,(moveM s id z p b).1.objects.map GObject.enc,none⟩] false:=by
 rcases fidx_cases (fun o:GObject=>o.id==id) s.objects with ⟨_,_,e2⟩|⟨i,hi,e0,e1,e2⟩
 ·unfold hasM at hh
  rw [e2] at hh
  cases hh
 have hid:s.objects[i].id=id:=by
  have:=List.find?_some e2
  simpa using this
 obtain ⟨o1,o2⟩:=H.own _ (List.getElem_mem hi)
 have hq:s.objects[i].owner=(s.objects[i].owner.toNat:Int):=by omega
 have hql:s.objects[i].owner.toNat < s.players.length:=by omega
 have hzz:=H.zone _ (List.getElem_mem hi)
 rcases (show z=0∨z=1∨z=2∨z=3∨z=4 by omega) with rfl|rfl|rfl|rfl|rfl
 ·exact moveP_bf s id p b i h hi e0 e1 e2 hid _ hq hql H.lt hzz
 ·exact moveP_hand s id p b i h hi e0 e1 e2 hid _ hq hql H.lt hzz
 ·exact moveP_lib s id p b i h hi e0 e1 e2 hid _ hq hql H.lt hzz
 ·exact moveP_grave s id p b i h hi e0 e1 e2 hid _ hq hql H.lt hzz
 ·exact moveP_ex s id p b i h hi e0 e1 e2 hid _ hq hql H.lt hzz
theorem makeP_ct (s:GState) (card player:Int) (h:s.ok) (hlt:∀ y∈s.objects,y.id < s.nextId):Ct Tryz.prog 72 [.agg (s.enc.map .t),.c (.t (iv card)),.c (.t (iv player))] (.tup [.agg (((makeM s card player).1.enc.map .t).set 1 (.row 0 0)),.c (.t (iv (makeM s card player).2))]) [⟨49,19,0,(makeM s card player).1.objects.map GObject.enc,none⟩] false:=by
 have hbt:s.battlefield.length*8≤limB:=h.2.2.2.2.1
 have hn:=newP_ct s.nextId card player 0 s.nextStamp
 have hM:makeM s card player=({ s with objects:=s.objects++[{ newM s.nextId card player 0 s.nextStamp with token:=true,sick:=true }],battlefield:=s.battlefield++[s.nextId],nextId:=IntKind.i64.wrap (s.nextId+1),nextStamp:=IntKind.i64.wrap (s.nextStamp+1) },s.nextId):=by
  show ({ putM s { newM s.nextId card player 0 s.nextStamp with token:=true,sick:=true } with battlefield:=s.battlefield++[s.nextId],nextId:=IntKind.i64.wrap (s.nextId+1),nextStamp:=IntKind.i64.wrap (s.nextStamp+1) },s.nextId)=_
  unfold putM
  rw [putL_end (x:={ newM s.nextId card player 0 s.nextStamp with token:=true,sick:=true }) hlt]
 rw [hM]
 refine ct_of Tryz.func72 rfl (enters_of Tryz.func72 (by kernel_rfl) rfl) tabOk (by kernel_rfl) rfl rfl rfl rfl fun w0 O _=>Tp.run [8] ?_
 refine cI (copyP_ct s h) ⟨fL s.enc,trivial⟩ (.inr rfl) ?_
 refine cI hn ⟨rfl,rfl,rfl,rfl,rfl,trivial⟩ (.inl rfl) ?_
 refine cM [] [(512,0),(513,0),(514,0),(515,0),(516,0)] (put_ctm s { newM s.nextId card player 0 s.nextStamp with token:=true,sick:=true } h.2.2.1 hlt) ?_ ?_ ?_
 ·repeat' first|refine Ai ?_ ?_|exact rfl|exact trivial|exact Ei _ rfl|refine lN ?_|refine bS ?_|fail
 ·exact rfl
 refine Ai (.inl rfl) (Ai ?_ (Ai ?_ ?_))
 ·show ((s.battlefield.map eI).length+1)*8≤_
  rw [Lm]
  exact Nat.le_of_lt (one_more (by decide) hbt)
 ·show (s.battlefield.map eI).length+1 < _
  rw [Lm]
  have:=one_more (n:=s.battlefield.length) (b:=8) (by decide) hbt
  omega
 refine Tp.frz [513] (Tp.run [] ?_)
 refine Ei [(0,513)] (Ai rfl (Ai ?_ ?_))
 ·repeat' first|refine Ai ?_ ?_|exact rfl|exact trivial|exact Ei _ rfl|refine lN ?_|refine bS ?_|fail
 ·repeat' first|refine Ai ?_ ?_|exact rfl|exact trivial|exact Ei _ rfl|refine lN ?_|refine bS ?_|fail
  first
  | exact congrArg (Tr.sl 1) (List.map_append (f:=eI) (l₁:=s.battlefield) (l₂:=[s.nextId])).symm
  | exact congrArg (Tr.sl 1) (List.map_append (f:=eI) (l₁:=s.battlefield) (l₂:=[s.nextId]))
def cellsQ (s:GState):List Ce:=(s.enc.map .t).set 1 (.row 0 0)
def rowQ (l:List GObject):Row:=⟨49,19,0,l.map GObject.enc,none⟩
theorem find_ctm (s:GState) (id:Int) (i:Nat) (hs:s.objects.length*128≤limB) (hi:i < s.objects.length) (e1:s.objects[i].id=id) (hno:∀ j (h:j < s.objects.length),j < i→s.objects[j].id≠id):CtM Tryz.prog 27 [.ptr 0 0,.c (.t (iv id))] [cellsQ s] [rowQ s.objects] (.eptr 0 0 19 i 0) [cellsQ s] [rowQ s.objects] []:=by
 refine ctm_of 1 Tryz.func27 rfl (enters_of Tryz.func27 (by kernel_rfl) rfl) tabOk (by kernel_rfl) rfl rfl rfl rfl rfl fun w0 O _=>Tp.run [] ?_
 refine Tp.loopL (fun k:Nat=>⟨[(0,.ptr 0 0),(1,.c (.t (iv id))),(10,AV.i (s.objects.map GObject.enc).length),(11,AV.i k)],[(0,cellsQ s)],[(0,rowQ s.objects)],10000⟩) (fun k=>k≤i) (fun k=>s.objects.length - k) 0 ?_ (Nat.zero_le _) ?_
 ·refine wkl_of (n1:=1) rfl rfl ?_ ?_ ?_
  all_goals repeat' first|refine Ai ?_ ?_|exact rfl|exact trivial|exact Ei _ rfl|refine lN ?_|refine bS ?_|fail
 rintro k hk
 refine Tp.run [5,6] ?_
 refine cS (fun hc=>?_) (fun hc=>?_)
 ·have hlt:=len_lt hc
  have hkl:k < (s.objects.map GObject.enc).length:=by rw [Lm];exact hlt
  refine Ei k (Ai rfl (Ai hkl ?_))
  refine Ei (s.objects[k].enc) (Ei _ (Ai (map_get _ _ k hlt) (Ai rfl ?_)))
  refine cS (fun hq=>?_) (fun hq=>?_)
  ·have hki:k=i:=by
    rcases Nat.lt_or_eq_of_le hk with h|h
    ·exact absurd (of_decide_eq_true (p:=s.objects[k].id=id) (by simpa using hq)) (hno k hlt h)
    ·exact h
   subst hki
   refine Tp.run [] ?_
   refine Ei k (Ai rfl (Ai hkl ?_))
   refine Ei [(0,0)] (Ai (Ai rfl (Ai ?_ (Ai ?_ ?_))) ?_)
   all_goals repeat' first|refine Ai ?_ ?_|exact rfl|exact trivial|exact Ei _ rfl|refine lN ?_|refine bS ?_|fail
  ·have hki:k≠i:=fun e=>by
    subst e
    rw [show (s.objects[k].id==id)=true from beq_iff_eq.2 e1] at hq
    cases hq
   refine Tp.run [] ?_
   refine Ei (k+1) (Ai (show k+1≤i by omega) (Ai (show s.objects.length - (k+1) < s.objects.length - k by omega) ?_))
   refine wkl_of (n1:=1) rfl rfl ?_ ?_ ?_
   ·repeat' first|refine Ai ?_ ?_|exact rfl|exact trivial|exact Ei _ rfl|refine lN ?_|refine bS ?_|fail
    exact congrArg (fun n=>AV.c (.t n)) (succ_eq k hlt 128 (by decide) hs)
   all_goals repeat' first|refine Ai ?_ ?_|exact rfl|exact trivial|exact Ei _ rfl|refine lN ?_|refine bS ?_|fail
 ·have:=len_ge hc (show k≤s.objects.length by omega)
  omega
theorem findN_ctm (s:GState) (id:Int) (hs:s.objects.length*128≤limB) (hno:∀ j (h:j < s.objects.length),s.objects[j].id≠id):CtM Tryz.prog 27 [.ptr 0 0,.c (.t (iv id))] [cellsQ s] [rowQ s.objects] .nilp [cellsQ s] [rowQ s.objects] []:=by
 refine ctm_of 1 Tryz.func27 rfl (enters_of Tryz.func27 (by kernel_rfl) rfl) tabOk (by kernel_rfl) rfl rfl rfl rfl rfl fun w0 O _=>Tp.run [] ?_
 refine Tp.loopL (fun k:Nat=>⟨[(0,.ptr 0 0),(1,.c (.t (iv id))),(10,AV.i (s.objects.map GObject.enc).length),(11,AV.i k)],[(0,cellsQ s)],[(0,rowQ s.objects)],10000⟩) (fun k=>k≤s.objects.length) (fun k=>s.objects.length - k) 0 ?_ (Nat.zero_le _) ?_
 ·refine wkl_of (n1:=1) rfl rfl ?_ ?_ ?_
  all_goals repeat' first|refine Ai ?_ ?_|exact rfl|exact trivial|exact Ei _ rfl|refine lN ?_|refine bS ?_|fail
 rintro k hk
 refine Tp.run [5,6] ?_
 refine cS (fun hc=>?_) (fun hc=>?_)
 ·have hlt:=len_lt hc
  have hkl:k < (s.objects.map GObject.enc).length:=by rw [Lm];exact hlt
  refine Ei k (Ai rfl (Ai hkl ?_))
  refine Ei (s.objects[k].enc) (Ei _ (Ai (map_get _ _ k hlt) (Ai rfl ?_)))
  refine cond_f (beq_eq_false_iff_ne.2 (hno k hlt)) ?_
  refine Tp.run [] ?_
  refine Ei (k+1) (Ai (show k+1≤_ by omega) (Ai (show s.objects.length - (k+1) < s.objects.length - k by omega) ?_))
  refine wkl_of (n1:=1) rfl rfl ?_ ?_ ?_
  ·repeat' first|refine Ai ?_ ?_|exact rfl|exact trivial|exact Ei _ rfl|refine lN ?_|refine bS ?_|fail
   exact congrArg (fun n=>AV.c (.t n)) (succ_eq k hlt 128 (by decide) hs)
  all_goals repeat' first|refine Ai ?_ ?_|exact rfl|exact trivial|exact Ei _ rfl|refine lN ?_|refine bS ?_|fail
 ·refine Ei [(0,0)] (Ai (Ai rfl (Ai ?_ (Ai ?_ ?_))) ?_)
  all_goals repeat' first|refine Ai ?_ ?_|exact rfl|exact trivial|exact Ei _ rfl|refine lN ?_|refine bS ?_|fail
theorem ob_set1 (l:List GObject) (i:Nat) (B:List Tr) (o:GObject) (hB:B=o.enc):(l.map GObject.enc).set i B=(l.set i o).map GObject.enc:=by rw [List.map_set,hB]
theorem ob_set2 (l:List GObject) (i:Nat) (A B:List Tr) (o:GObject) (hB:B=o.enc):((l.map GObject.enc).set i A).set i B=(l.set i o).map GObject.enc:=by rw [List.set_set,List.map_set,hB]
theorem enter_ctm (l:List GObject) (i:Nat) (hi:i < l.length) (e:GEvent):CtM Tryz.prog 71 [.eptr 0 0 19 i 0,.agg (e.enc.map .t)] [] [rowQ l] (.tup []) [] [rowQ (l.set i (entM e l[i]))] []:=by
 have hil:i < (l.map GObject.enc).length:=by rw [Lm];exact hi
 refine ctm_of 1 Tryz.func71 rfl (enters_of Tryz.func71 (by kernel_rfl) rfl) tabOk (by kernel_rfl) rfl rfl rfl rfl rfl fun w0 O _=>Tp.run [2,3] ?_
 refine Tp.run [] ?_
 refine Ei (l[i].enc) (Ai (map_get _ _ i hi) (Ai (Nb rfl) ?_))
 refine Tp.run [] ?_
 refine cI (cnt_sum 0 0 0 e.extra0 e.extra1 e.extra2) ⟨?_,?_,trivial⟩ (.inl rfl) ?_
 ·repeat' first|refine Ai ?_ ?_|exact rfl|exact trivial|exact Ei _ rfl|refine lN ?_|refine bS ?_|fail
 ·repeat' first|refine Ai ?_ ?_|exact rfl|exact trivial|exact Ei _ rfl|refine lN ?_|refine bS ?_|fail
 refine Ei _ (Ai (List.getElem?_set_self hil) (Ai (Nb rfl) ?_))
 refine Ei [(0,0)] (Ai (Ai rfl (Ai ?_ (Ai ?_ ?_))) ?_)
 ·repeat' first|refine Ai ?_ ?_|exact rfl|exact trivial|exact Ei _ rfl|refine lN ?_|refine bS ?_|fail
  exact ob_set2 l i _ _ _ rfl
 all_goals repeat' first|refine Ai ?_ ?_|exact rfl|exact trivial|exact Ei _ rfl|refine lN ?_|refine bS ?_|fail
end Go.Proofs.YtmloamomcbmfhaaGreat
end
section
namespace Go.Proofs.YtmloamomcbmfhaaGreat
open Go Cg Go.RowKit
theorem dshuffle (s:Int) (l:List Int) (h:l.length*8≤limB) (hb:l.length≤1099511627776):Ct Tryz.prog 75 [uvA s,.c (.t (.sl 1 (l.map eI)))] (.tup [.c (.t (.sl 1 ((shufM s l).1.map eI))),uvA (shufM s l).2]) [] false:=by
 generalize hM:shufM s l=M
 refine ct_of Tryz.func75 rfl (enters_of Tryz.func75 (by kernel_rfl) rfl) tabOk (by kernel_rfl) rfl rfl rfl rfl fun w0 O _=>Tp.run [7] ?_
 refine cI (cloneInt_ct _ (map_bound _ _ _ h)) ⟨rfl,trivial⟩ (.inr rfl) ?_
 refine Tp.loop (fun x:Int × List Int × Int=>⟨[(0,uvA x.2.2),(6,.c (.row 9000 0)),(7,AV.i x.1)],[],[(9000,⟨3,1,0,x.2.1.map eI,none⟩)],10000⟩) (ShOk s l) (fun x=>(x.1+1).toNat) (IntKind.i64.wrap (((l.length:Nat):Int) - 1),l,s) ?_ (ShOk.start s l h) ?_
 ·refine wk_of [(9000,384)] rfl rfl ?_ ?_ ?_
  ·repeat' first|refine Ai ?_ ?_|exact rfl|exact trivial|exact Ei _ rfl|refine lN ?_|refine bS ?_|fail
   exact congrArg (fun n:Nat=>iv (IntKind.i64.wrap ((n:Int) - 1))) (by rw [Lm])
  all_goals repeat' first|refine Ai ?_ ?_|exact rfl|exact trivial|exact Ei _ rfl|refine lN ?_|refine bS ?_|fail
 rintro ⟨i,L,S⟩ hx
 refine Tp.run [5,7] ?_
 refine cS (fun hc=>?_) (fun hc=>?_)
 ·have hi1:1≤i:=of_decide_eq_true hc
  obtain ⟨⟨w1,w2⟩,⟨b1,b2⟩,w3,hx2⟩:=hx.step hi1 hb
  have hil:=hx.hi
  simp only at hil
  refine Tp.run [] ?_
  refine cI (dbelow S (i+1) w2) ⟨rfl,congrArg iv w1,trivial⟩ (.inr rfl) ?_
  generalize hk:belowM S (i+1)=B at *
  obtain ⟨k,S2⟩:=B
  simp only at b1 b2
  obtain ⟨k,rfl⟩:∃ n:Nat,k=n:=⟨k.toNat,by omega⟩
  obtain ⟨i,rfl⟩:∃ n:Nat,i=n:=⟨i.toNat,by omega⟩
  have hi':i < L.length:=by omega
  have hk':k < L.length:=by omega
  refine Ei k (Ai rfl (Ai (by rw [Lm];exact hk') ?_))
  refine Ei (eI L[k]) (Ei _ (Ai (map_get _ _ k hk') (Ai rfl ?_)))
  refine Ei i (Ai rfl (Ai (by rw [Lm];exact hi') ?_))
  refine Ei (eI L[i]) (Ei _ (Ai (map_get _ _ i hi') (Ai rfl ?_)))
  refine Ei i (Ai rfl (Ai (by rw [Lm];exact hi') ?_))
  refine Ei (eI L[i]) (Ai (map_get _ _ i hi') (Ai (Nb rfl) ?_))
  refine Ei k (Ai rfl (Ai (by rw [List.length_set,Lm];exact hk') ?_))
  refine Ei _ (Ai (sw_get (L:=L) (i:=i) (a:=L[k]) hk') (Ai (Nb rfl) ?_))
  refine Ei (((i:Nat):Int) - 1,swapM L i k,S2) (Ai hx2 (Ai (show ((i:Int) - 1+1).toNat < ((i:Int)+1).toNat by omega) ?_))
  refine wk_of [(9000,9000)] rfl rfl ?_ ?_ ?_
  ·repeat' first|refine Ai ?_ ?_|exact rfl|exact trivial|exact Ei _ rfl|refine lN ?_|refine bS ?_|fail
   exact congrArg iv w3
  ·repeat' first|refine Ai ?_ ?_|exact rfl|exact trivial|exact Ei _ rfl|refine lN ?_|refine bS ?_|fail
  ·repeat' first|refine Ai ?_ ?_|exact rfl|exact trivial|exact Ei _ rfl|refine lN ?_|refine bS ?_|fail
   exact sw_eq hi' hk'
 ·have hf:=hx.fin (of_decide_eq_false hc)
  rw [hf] at hM
  subst hM
  refine Tp.run [] ?_
  refine Ei [] (Ai rfl (Ai ?_ ?_))
  all_goals repeat' first|refine Ai ?_ ?_|exact rfl|exact trivial|exact Ei _ rfl|refine lN ?_|refine bS ?_|fail
end Go.Proofs.YtmloamomcbmfhaaGreat
end
section
namespace Go.Proofs.YtmloamomcbmfhaaGreat
open Go Cg Go.RowKit Go.Sort
theorem mark_1 (l:List GObject) (i:Nat) (hi:i < l.length) (d:Bool) (e:GEvent) (hk:e.kind=1):CtM Tryz.prog 28 [.eptr 0 0 19 i 0,AV.b d,.agg (e.enc.map .t)] [] [rowQ l] (.tup []) [] [rowQ (l.set i (markM d e l[i]))] []:=by
 have hil:i < (l.map GObject.enc).length:=by rw [Lm];exact hi
 have hm:markM d e l[i]={ l[i] with damage:=addM l[i].damage e.amount,deadly:=l[i].deadly||d }:=by unfold markM;rw [hk];rfl
 rw [hm]
 refine ctm_of 1 Tryz.func28 rfl (enters_of Tryz.func28 (by kernel_rfl) rfl) tabOk (by kernel_rfl) rfl rfl rfl rfl rfl fun w0 O _=>Tp.run [3,4] ?_
 repeat' (first|refine cond_t (beq_t hk) ?_|refine cond_f (beq_f hk (by decide)) ?_)
 refine Tp.run [] ?_
 refine Ei (l[i].enc) (Ei _ (Ai (map_get _ _ i hi) (Ai rfl ?_)))
 refine cI (numadd l[i].damage e.amount) ⟨rfl,rfl,trivial⟩ (.inl rfl) ?_
 refine Ei (l[i].enc) (Ai (map_get _ _ i hi) (Ai (Nb rfl) ?_))
 refine Tp.run [] ?_
 refine Ei _ (Ei _ (Ai (List.getElem?_set_self hil) (Ai rfl ?_)))
 refine cS (fun hd=>?_) (fun hd=>?_)
 ·refine Ei _ (Ai (List.getElem?_set_self hil) (Ai (Nb rfl) ?_))
  refine Ei [(0,0)] (Ai (Ai rfl (Ai ?_ (Ai ?_ ?_))) ?_)
  ·repeat' first|refine Ai ?_ ?_|exact rfl|exact trivial|exact Ei _ rfl|refine lN ?_|refine bS ?_|fail
   exact ob_set2 l i _ _ _ (by rw [hd];rfl)
  all_goals repeat' first|refine Ai ?_ ?_|exact rfl|exact trivial|exact Ei _ rfl|refine lN ?_|refine bS ?_|fail
 ·refine Ei _ (Ai (List.getElem?_set_self hil) (Ai (Nb rfl) ?_))
  refine Ei [(0,0)] (Ai (Ai rfl (Ai ?_ (Ai ?_ ?_))) ?_)
  ·repeat' first|refine Ai ?_ ?_|exact rfl|exact trivial|exact Ei _ rfl|refine lN ?_|refine bS ?_|fail
   exact ob_set2 l i _ _ _ (by rw [hd];rfl)
  all_goals repeat' first|refine Ai ?_ ?_|exact rfl|exact trivial|exact Ei _ rfl|refine lN ?_|refine bS ?_|fail
theorem mark_6 (l:List GObject) (i:Nat) (hi:i < l.length) (d:Bool) (e:GEvent) (hk:e.kind=6):CtM Tryz.prog 28 [.eptr 0 0 19 i 0,AV.b d,.agg (e.enc.map .t)] [] [rowQ l] (.tup []) [] [rowQ (l.set i (markM d e l[i]))] []:=by
 have hil:i < (l.map GObject.enc).length:=by rw [Lm];exact hi
 have hm:markM d e l[i]={ l[i] with tapped:=e.kind==6 }:=by unfold markM;rw [hk];rfl
 rw [hm]
 refine ctm_of 1 Tryz.func28 rfl (enters_of Tryz.func28 (by kernel_rfl) rfl) tabOk (by kernel_rfl) rfl rfl rfl rfl rfl fun w0 O _=>Tp.run [7] ?_
 repeat' (first|refine cond_t (beq_t hk) ?_|refine cond_f (beq_f hk (by decide)) ?_)
 refine Tp.run [] ?_
 refine Ei (l[i].enc) (Ai (map_get _ _ i hi) (Ai (Nb rfl) ?_))
 refine Ei [(0,0)] (Ai (Ai rfl (Ai ?_ (Ai ?_ ?_))) ?_)
 ·repeat' first|refine Ai ?_ ?_|exact rfl|exact trivial|exact Ei _ rfl|refine lN ?_|refine bS ?_|fail
  exact ob_set1 l i _ _ rfl
 all_goals repeat' first|refine Ai ?_ ?_|exact rfl|exact trivial|exact Ei _ rfl|refine lN ?_|refine bS ?_|fail
theorem mark_7 (l:List GObject) (i:Nat) (hi:i < l.length) (d:Bool) (e:GEvent) (hk:e.kind=7):CtM Tryz.prog 28 [.eptr 0 0 19 i 0,AV.b d,.agg (e.enc.map .t)] [] [rowQ l] (.tup []) [] [rowQ (l.set i (markM d e l[i]))] []:=by
 have hil:i < (l.map GObject.enc).length:=by rw [Lm];exact hi
 have hm:markM d e l[i]={ l[i] with tapped:=e.kind==6 }:=by unfold markM;rw [hk];rfl
 rw [hm]
 refine ctm_of 1 Tryz.func28 rfl (enters_of Tryz.func28 (by kernel_rfl) rfl) tabOk (by kernel_rfl) rfl rfl rfl rfl rfl fun w0 O _=>Tp.run [7] ?_
 repeat' (first|refine cond_t (beq_t hk) ?_|refine cond_f (beq_f hk (by decide)) ?_)
 refine Tp.run [] ?_
 refine Ei (l[i].enc) (Ai (map_get _ _ i hi) (Ai (Nb rfl) ?_))
 refine Ei [(0,0)] (Ai (Ai rfl (Ai ?_ (Ai ?_ ?_))) ?_)
 ·repeat' first|refine Ai ?_ ?_|exact rfl|exact trivial|exact Ei _ rfl|refine lN ?_|refine bS ?_|fail
  exact ob_set1 l i _ _ rfl
 all_goals repeat' first|refine Ai ?_ ?_|exact rfl|exact trivial|exact Ei _ rfl|refine lN ?_|refine bS ?_|fail
theorem mark_8 (l:List GObject) (i:Nat) (hi:i < l.length) (d:Bool) (e:GEvent) (hk:e.kind=8):CtM Tryz.prog 28 [.eptr 0 0 19 i 0,AV.b d,.agg (e.enc.map .t)] [] [rowQ l] (.tup []) [] [rowQ (l.set i (markM d e l[i]))] []:=by
 have hil:i < (l.map GObject.enc).length:=by rw [Lm];exact hi
 have hm:markM d e l[i]={ l[i] with counters0:=upC 0 e.counter l[i].counters0 e.amount,counters1:=upC 1 e.counter l[i].counters1 e.amount,counters2:=upC 2 e.counter l[i].counters2 e.amount }:=by unfold markM;rw [hk];rfl
 rw [hm]
 refine ctm_of 1 Tryz.func28 rfl (enters_of Tryz.func28 (by kernel_rfl) rfl) tabOk (by kernel_rfl) rfl rfl rfl rfl rfl fun w0 O _=>Tp.run [9] ?_
 repeat' (first|refine cond_t (beq_t hk) ?_|refine cond_f (beq_f hk (by decide)) ?_)
 refine Tp.run [] ?_
 refine Ei (l[i].enc) (Ei _ (Ai (map_get _ _ i hi) (Ai rfl ?_)))
 refine cI (cnt_add l[i].counters0 l[i].counters1 l[i].counters2 e.counter e.amount) ⟨?_,?_,?_,trivial⟩ (.inl rfl) ?_
 ·repeat' first|refine Ai ?_ ?_|exact rfl|exact trivial|exact Ei _ rfl|refine lN ?_|refine bS ?_|fail
 ·repeat' first|refine Ai ?_ ?_|exact rfl|exact trivial|exact Ei _ rfl|refine lN ?_|refine bS ?_|fail
 ·repeat' first|refine Ai ?_ ?_|exact rfl|exact trivial|exact Ei _ rfl|refine lN ?_|refine bS ?_|fail
 refine Ei (l[i].enc) (Ai (map_get _ _ i hi) (Ai (Nb rfl) ?_))
 refine Ei [(0,0)] (Ai (Ai rfl (Ai ?_ (Ai ?_ ?_))) ?_)
 ·repeat' first|refine Ai ?_ ?_|exact rfl|exact trivial|exact Ei _ rfl|refine lN ?_|refine bS ?_|fail
  exact ob_set1 l i _ _ rfl
 all_goals repeat' first|refine Ai ?_ ?_|exact rfl|exact trivial|exact Ei _ rfl|refine lN ?_|refine bS ?_|fail
theorem mark_9 (l:List GObject) (i:Nat) (hi:i < l.length) (d:Bool) (e:GEvent) (hk:e.kind=9):CtM Tryz.prog 28 [.eptr 0 0 19 i 0,AV.b d,.agg (e.enc.map .t)] [] [rowQ l] (.tup []) [] [rowQ (l.set i (markM d e l[i]))] []:=by
 have hil:i < (l.map GObject.enc).length:=by rw [Lm];exact hi
 have hm:markM d e l[i]={ l[i] with counters0:=upC 0 e.counter l[i].counters0 (IntKind.i64.wrap (0 - e.amount)),counters1:=upC 1 e.counter l[i].counters1 (IntKind.i64.wrap (0 - e.amount)),counters2:=upC 2 e.counter l[i].counters2 (IntKind.i64.wrap (0 - e.amount)) }:=by unfold markM;rw [hk];rfl
 rw [hm]
 refine ctm_of 1 Tryz.func28 rfl (enters_of Tryz.func28 (by kernel_rfl) rfl) tabOk (by kernel_rfl) rfl rfl rfl rfl rfl fun w0 O _=>Tp.run [11] ?_
 repeat' (first|refine cond_t (beq_t hk) ?_|refine cond_f (beq_f hk (by decide)) ?_)
 refine Tp.run [] ?_
 refine Ei (l[i].enc) (Ei _ (Ai (map_get _ _ i hi) (Ai rfl ?_)))
 refine cI (cnt_add l[i].counters0 l[i].counters1 l[i].counters2 e.counter (IntKind.i64.wrap (0 - e.amount))) ⟨?_,?_,?_,trivial⟩ (.inl rfl) ?_
 ·repeat' first|refine Ai ?_ ?_|exact rfl|exact trivial|exact Ei _ rfl|refine lN ?_|refine bS ?_|fail
 ·repeat' first|refine Ai ?_ ?_|exact rfl|exact trivial|exact Ei _ rfl|refine lN ?_|refine bS ?_|fail
 ·repeat' first|refine Ai ?_ ?_|exact rfl|exact trivial|exact Ei _ rfl|refine lN ?_|refine bS ?_|fail
 refine Ei (l[i].enc) (Ai (map_get _ _ i hi) (Ai (Nb rfl) ?_))
 refine Ei [(0,0)] (Ai (Ai rfl (Ai ?_ (Ai ?_ ?_))) ?_)
 ·repeat' first|refine Ai ?_ ?_|exact rfl|exact trivial|exact Ei _ rfl|refine lN ?_|refine bS ?_|fail
  exact ob_set1 l i _ _ rfl
 all_goals repeat' first|refine Ai ?_ ?_|exact rfl|exact trivial|exact Ei _ rfl|refine lN ?_|refine bS ?_|fail
theorem mark_12 (l:List GObject) (i:Nat) (hi:i < l.length) (d:Bool) (e:GEvent) (hk:e.kind=12):CtM Tryz.prog 28 [.eptr 0 0 19 i 0,AV.b d,.agg (e.enc.map .t)] [] [rowQ l] (.tup []) [] [rowQ (l.set i (markM d e l[i]))] []:=by
 have hil:i < (l.map GObject.enc).length:=by rw [Lm];exact hi
 have hm:markM d e l[i]={ l[i] with attack:=e.player }:=by unfold markM;rw [hk];rfl
 rw [hm]
 refine ctm_of 1 Tryz.func28 rfl (enters_of Tryz.func28 (by kernel_rfl) rfl) tabOk (by kernel_rfl) rfl rfl rfl rfl rfl fun w0 O _=>Tp.run [13] ?_
 repeat' (first|refine cond_t (beq_t hk) ?_|refine cond_f (beq_f hk (by decide)) ?_)
 refine Tp.run [] ?_
 refine Ei (l[i].enc) (Ai (map_get _ _ i hi) (Ai (Nb rfl) ?_))
 refine Ei [(0,0)] (Ai (Ai rfl (Ai ?_ (Ai ?_ ?_))) ?_)
 ·repeat' first|refine Ai ?_ ?_|exact rfl|exact trivial|exact Ei _ rfl|refine lN ?_|refine bS ?_|fail
  exact ob_set1 l i _ _ rfl
 all_goals repeat' first|refine Ai ?_ ?_|exact rfl|exact trivial|exact Ei _ rfl|refine lN ?_|refine bS ?_|fail
theorem mark_13 (l:List GObject) (i:Nat) (hi:i < l.length) (d:Bool) (e:GEvent) (hk:e.kind=13):CtM Tryz.prog 28 [.eptr 0 0 19 i 0,AV.b d,.agg (e.enc.map .t)] [] [rowQ l] (.tup []) [] [rowQ (l.set i (markM d e l[i]))] []:=by
 have hil:i < (l.map GObject.enc).length:=by rw [Lm];exact hi
 have hm:markM d e l[i]={ l[i] with blocks:=e.source }:=by unfold markM;rw [hk];rfl
 rw [hm]
 refine ctm_of 1 Tryz.func28 rfl (enters_of Tryz.func28 (by kernel_rfl) rfl) tabOk (by kernel_rfl) rfl rfl rfl rfl rfl fun w0 O _=>Tp.run [15] ?_
 repeat' (first|refine cond_t (beq_t hk) ?_|refine cond_f (beq_f hk (by decide)) ?_)
 refine Tp.run [] ?_
 refine Ei (l[i].enc) (Ai (map_get _ _ i hi) (Ai (Nb rfl) ?_))
 refine Ei [(0,0)] (Ai (Ai rfl (Ai ?_ (Ai ?_ ?_))) ?_)
 ·repeat' first|refine Ai ?_ ?_|exact rfl|exact trivial|exact Ei _ rfl|refine lN ?_|refine bS ?_|fail
  exact ob_set1 l i _ _ rfl
 all_goals repeat' first|refine Ai ?_ ?_|exact rfl|exact trivial|exact Ei _ rfl|refine lN ?_|refine bS ?_|fail
def cellsR (s:GState):List Ce:=(s.enc.map .t).set 0 (.row 0 0)
def rowPq (l:List GPlayer):Row:=⟨47,14,0,l.map GPlayer.enc,none⟩
theorem pq_set (l:List GPlayer) (i:Nat) (B:List Tr) (o:GPlayer) (hB:B=o.enc):(l.map GPlayer.enc).set i B=(l.set i o).map GPlayer.enc:=by rw [List.map_set,hB]
theorem change_4 (s:GState) (i:Nat) (hi:i < s.players.length) (e:GEvent) (hk:e.kind=4):CtM Tryz.prog 26 [.eptr 0 0 14 i 0,.ptr 0 0,.agg (e.enc.map .t)] [cellsR s] [rowPq s.players] (.tup []) [cellsR s] [rowPq (s.players.set i (chM e s.seed s.players[i]).1)] []:=by
 have hm:(chM e s.seed s.players[i]).1={ s.players[i] with life:=addM s.players[i].life e.amount }:=by unfold chM;rw [hk];rfl
 rw [hm]
 refine ctm_of 1 Tryz.func26 rfl (enters_of Tryz.func26 (by kernel_rfl) rfl) tabOk (by kernel_rfl) rfl rfl rfl rfl rfl fun w0 O _=>Tp.run [3] ?_
 repeat' (first|refine cond_t (beq_t hk) ?_|refine cond_f (beq_f hk (by decide)) ?_)
 refine Tp.run [] ?_
 refine Ei (s.players[i].enc) (Ei _ (Ai (map_get _ _ i hi) (Ai rfl ?_)))
 refine cI (numadd s.players[i].life e.amount) ⟨rfl,rfl,trivial⟩ (.inl rfl) ?_
 refine Ei (s.players[i].enc) (Ai (map_get _ _ i hi) (Ai (Nb rfl) ?_))
 refine Ei [(0,0)] (Ai (Ai rfl (Ai ?_ (Ai ?_ ?_))) ?_)
 ·repeat' first|refine Ai ?_ ?_|exact rfl|exact trivial|exact Ei _ rfl|refine lN ?_|refine bS ?_|fail
  exact pq_set s.players i _ _ rfl
 all_goals repeat' first|refine Ai ?_ ?_|exact rfl|exact trivial|exact Ei _ rfl|refine lN ?_|refine bS ?_|fail
theorem change_5 (s:GState) (i:Nat) (hi:i < s.players.length) (e:GEvent) (hk:e.kind=5):CtM Tryz.prog 26 [.eptr 0 0 14 i 0,.ptr 0 0,.agg (e.enc.map .t)] [cellsR s] [rowPq s.players] (.tup []) [cellsR s] [rowPq (s.players.set i (chM e s.seed s.players[i]).1)] []:=by
 have hm:(chM e s.seed s.players[i]).1={ s.players[i] with life:=subM s.players[i].life e.amount }:=by unfold chM;rw [hk];rfl
 rw [hm]
 refine ctm_of 1 Tryz.func26 rfl (enters_of Tryz.func26 (by kernel_rfl) rfl) tabOk (by kernel_rfl) rfl rfl rfl rfl rfl fun w0 O _=>Tp.run [5] ?_
 repeat' (first|refine cond_t (beq_t hk) ?_|refine cond_f (beq_f hk (by decide)) ?_)
 refine Tp.run [] ?_
 refine Ei (s.players[i].enc) (Ei _ (Ai (map_get _ _ i hi) (Ai rfl ?_)))
 refine cI (numsub s.players[i].life e.amount) ⟨rfl,rfl,trivial⟩ (.inl rfl) ?_
 refine Ei (s.players[i].enc) (Ai (map_get _ _ i hi) (Ai (Nb rfl) ?_))
 refine Ei [(0,0)] (Ai (Ai rfl (Ai ?_ (Ai ?_ ?_))) ?_)
 ·repeat' first|refine Ai ?_ ?_|exact rfl|exact trivial|exact Ei _ rfl|refine lN ?_|refine bS ?_|fail
  exact pq_set s.players i _ _ rfl
 all_goals repeat' first|refine Ai ?_ ?_|exact rfl|exact trivial|exact Ei _ rfl|refine lN ?_|refine bS ?_|fail
theorem change_16 (s:GState) (i:Nat) (hi:i < s.players.length) (e:GEvent) (hk:e.kind=16):CtM Tryz.prog 26 [.eptr 0 0 14 i 0,.ptr 0 0,.agg (e.enc.map .t)] [cellsR s] [rowPq s.players] (.tup []) [cellsR s] [rowPq (s.players.set i (chM e s.seed s.players[i]).1)] []:=by
 have hm:(chM e s.seed s.players[i]).1={ s.players[i] with venom:=addM s.players[i].venom e.amount }:=by unfold chM;rw [hk];rfl
 rw [hm]
 refine ctm_of 1 Tryz.func26 rfl (enters_of Tryz.func26 (by kernel_rfl) rfl) tabOk (by kernel_rfl) rfl rfl rfl rfl rfl fun w0 O _=>Tp.run [7] ?_
 repeat' (first|refine cond_t (beq_t hk) ?_|refine cond_f (beq_f hk (by decide)) ?_)
 refine Tp.run [] ?_
 refine Ei (s.players[i].enc) (Ei _ (Ai (map_get _ _ i hi) (Ai rfl ?_)))
 refine cI (numadd s.players[i].venom e.amount) ⟨rfl,rfl,trivial⟩ (.inl rfl) ?_
 refine Ei (s.players[i].enc) (Ai (map_get _ _ i hi) (Ai (Nb rfl) ?_))
 refine Ei [(0,0)] (Ai (Ai rfl (Ai ?_ (Ai ?_ ?_))) ?_)
 ·repeat' first|refine Ai ?_ ?_|exact rfl|exact trivial|exact Ei _ rfl|refine lN ?_|refine bS ?_|fail
  exact pq_set s.players i _ _ rfl
 all_goals repeat' first|refine Ai ?_ ?_|exact rfl|exact trivial|exact Ei _ rfl|refine lN ?_|refine bS ?_|fail
theorem change_17 (s:GState) (i:Nat) (hi:i < s.players.length) (e:GEvent) (hk:e.kind=17) (h:s.players[i].library.length*8≤limB) (hb:s.players[i].library.length≤1099511627776):CtM Tryz.prog 26 [.eptr 0 0 14 i 0,.ptr 0 0,.agg (e.enc.map .t)] [cellsR s] [rowPq s.players] (.tup []) [cellsR { s with seed:=(chM e s.seed s.players[i]).2 }] [rowPq (s.players.set i (chM e s.seed s.players[i]).1)] []:=by
 have hm:chM e s.seed s.players[i]=({ s.players[i] with library:=(shufM s.seed s.players[i].library).1 },(shufM s.seed s.players[i].library).2):=by unfold chM;rw [hk];rfl
 rw [hm]
 have hsh:=dshuffle s.seed s.players[i].library h hb
 generalize shufM s.seed s.players[i].library=X at hsh ⊢
 obtain ⟨X,S⟩:=X
 refine ctm_of 1 Tryz.func26 rfl (enters_of Tryz.func26 (by kernel_rfl) rfl) tabOk (by kernel_rfl) rfl rfl rfl rfl rfl fun w0 O _=>Tp.run [9] ?_
 repeat' (first|refine cond_t (beq_t hk) ?_|refine cond_f (beq_f hk (by decide)) ?_)
 refine Tp.run [] ?_
 refine Ei (s.players[i].enc) (Ei _ (Ai (map_get _ _ i hi) (Ai rfl ?_)))
 refine cI hsh ⟨rfl,rfl,trivial⟩ (.inr rfl) ?_
 refine Ei (s.players[i].enc) (Ai (map_get _ _ i hi) (Ai (Nb rfl) ?_))
 refine Ei [(0,0)] (Ai (Ai rfl (Ai ?_ (Ai ?_ ?_))) ?_)
 ·repeat' first|refine Ai ?_ ?_|exact rfl|exact trivial|exact Ei _ rfl|refine lN ?_|refine bS ?_|fail
  exact pq_set s.players i _ _ rfl
 all_goals repeat' first|refine Ai ?_ ?_|exact rfl|exact trivial|exact Ei _ rfl|refine lN ?_|refine bS ?_|fail
theorem enterN_ctm (e:GEvent):CtM Tryz.prog 71 [.nilp,.agg (e.enc.map .t)] [] [] (.tup []) [] [] []:=by
 refine ctm_of 0 Tryz.func71 rfl (enters_of Tryz.func71 (by kernel_rfl) rfl) tabOk (by kernel_rfl) rfl rfl rfl rfl rfl fun w0 O _=>Tp.run [2,3] ?_
 refine Ei [] (Ai (Ai rfl (Ai ?_ (Ai ?_ ?_))) ?_)
 all_goals repeat' first|refine Ai ?_ ?_|exact rfl|exact trivial|exact Ei _ rfl|refine lN ?_|refine bS ?_|fail
theorem arr_set {t:GState} {id:Int} (e:GEvent) {j:Nat} (hj:j < t.objects.length) (h1:t.objects.findIdx? (fun o=>o.id==id)=some j) (h2:findM t.objects id=t.objects[j]) (h3:t.objects[j].id=id) (hh:hasM t.objects id=true):arrM t id e={ t with objects:=t.objects.set j (entM e t.objects[j]) }:=by
 unfold arrM putM putL
 rw [if_pos hh,h2,show (fun x:GObject=>x.id==(entM e t.objects[j]).id)=fun o=>o.id==id from funext fun x=>by show (x.id==t.objects[j].id)=_;rw [h3],h1]
theorem first_no {l:List GObject} {id:Int} {j:Nat} (h:l.findIdx? (fun o=>o.id==id)=some j):∀ k (hk:k < l.length),k < j→l[k].id≠id:=fun k hk hkj=>by
 obtain ⟨_,_,h5⟩:=List.findIdx?_eq_some_iff_getElem.1 h
 have:=h5 k hkj
 simpa using this
theorem has_no {l:List GObject} {id:Int} (h:hasM l id=false):∀ k (hk:k < l.length),l[k].id≠id:=fun k hk e=>by
 unfold hasM at h
 have:l.find? (fun o=>o.id==id)=none:=by simpa using h
 have:=List.find?_eq_none.1 this _ (List.getElem_mem hk)
 simp [e] at this
structure UnP (k:Int) (l:List GObject) (x:Nat × List GObject):Prop where
 le:x.1≤l.length
 len:x.2.length=l.length
 done:∀ j (h:j < l.length) (h2:j < x.2.length),j < x.1→x.2[j]=uncO k l[j]
 rest:∀ j (h:j < l.length) (h2:j < x.2.length),x.1≤j→x.2[j]=l[j]
theorem UnP.start (k:Int) (l:List GObject):UnP k l (0,l):=⟨Nat.zero_le _,rfl,fun j _ _ h=>by omega,fun j _ _ _=>rfl⟩
theorem UnP.step {k:Int} {l:List GObject} {i:Nat} {X:List GObject} (h:UnP k l (i,X)) (hi:i < l.length):UnP k l (i+1,X.set i (uncO k l[i])):=by
 obtain ⟨h1,h2,h3,h4⟩:=h
 simp only at h1 h2 h3 h4
 refine ⟨hi,by rw [List.length_set];exact h2,fun j hj hj2 hji=>?_,fun j hj hj2 hji=>?_⟩
 ·simp only at hji ⊢
  rw [List.getElem_set]
  split
  ·rename_i e
   subst e
   rfl
  ·exact h3 j hj (by omega) (by omega)
 ·simp only at hji ⊢
  rw [List.getElem_set_ne (by omega)]
  exact h4 j hj (by omega) (by omega)
theorem UnP.skip {k:Int} {l:List GObject} {i:Nat} {X:List GObject} (h:UnP k l (i,X)) (hi:i < l.length) (hn:uncO k l[i]=l[i]):UnP k l (i+1,X):=by
 obtain ⟨h1,h2,h3,h4⟩:=h
 simp only at h1 h2 h3 h4
 refine ⟨hi,h2,fun j hj hj2 hji=>?_,fun j hj hj2 hji=>h4 j hj hj2 (by simp only at hji;omega)⟩
 simp only at hji ⊢
 by_cases e:j=i
 ·subst e
  rw [hn]
  exact h4 j hj hj2 (Nat.le_refl _)
 ·exact h3 j hj hj2 (by omega)
theorem UnP.fin {k:Int} {l X:List GObject} (h:UnP k l (l.length,X)):X=l.map (uncO k):=by
 refine List.ext_getElem (by rw [Lm];exact h.len) fun j h1 h2=>?_
 rw [List.getElem_map]
 rw [Lm] at h2
 exact h.done j h2 h1 h2
theorem setM_objs (s:GState) (z p:Int) (l:List Int):(setM s z p l).objects=s.objects:=by
 unfold setM
 split
 ·rfl
 split
 ·rfl
 split
 ·rfl
 split <;> rfl
theorem mv_len (s:GState) (h:s.ok) (id z p:Int) (b:Bool):(moveM s id z p b).1.objects.length≤s.objects.length:=by
 unfold moveM
 cases s.objects.findIdx? (fun o=>o.id==id) with
 | none=>exact Nat.le_refl _
 | some i=>
  cases hi:s.objects[i]? with
  | none=>simp only [hi];exact Nat.le_refl _
  | some o=>
   simp only [hi]
   obtain ⟨hl,_⟩:=List.getElem?_eq_some_iff.1 hi
   obtain ⟨_,hr⟩:=remM_ok h id i o hl
   unfold mvFound
   split
   ·exact Nat.le_refl _
   split
   ·show (remM s id i o).objects.length≤_
    omega
   ·show (setM (putM (remM s id i o) _) z _ _).objects.length≤_
    rw [setM_objs]
    have:=putL_len (remM s id i o).objects (mvNew (remM s id i o) o z p)
    show (putL (remM s id i o).objects _).length≤_
    omega
theorem arr_len (s:GState) (id:Int) (e:GEvent):(arrM s id e).objects.length=s.objects.length:=by
 by_cases hh:hasM s.objects id=true
 ·obtain ⟨j,hj,h1,h2,h3⟩:=has_idx hh
  rw [arr_set e hj h1 h2 h3 hh]
  exact List.length_set
 ·unfold arrM
  rw [if_neg hh]
theorem actmove_ct (s:GState) (e:GEvent) (h:s.ok) (H:MvH s) (hh:hasM s.objects e.object=true) (hz:0≤e.to_∧e.to_≤4):Ct Tryz.prog 23 [.agg (s.enc.map .t),.agg (e.enc.map .t)] (.agg ((mvP s e).enc.map .t)) [] false:=by
 have hm:=moveP_ct s e.object e.to_ e.player (e.amount==1) h H hh hz
 have hml:=mv_len s h e.object e.to_ e.player (e.amount==1)
 generalize hM:mvP s e=M
 unfold mvP at hM
 generalize moveM s e.object e.to_ e.player (e.amount==1)=r at hm hM hml
 obtain ⟨r,id⟩:=r
 simp only at hM hml hm
 have hrl:r.objects.length*128≤limB:=Nat.le_trans (Nat.mul_le_mul_right _ hml) h.2.2.1
 refine ct_of Tryz.func23 rfl (enters_of Tryz.func23 (by kernel_rfl) rfl) tabOk (by kernel_rfl) rfl rfl rfl rfl fun w0 O _=>Tp.run [3,4,5,11] ?_
 refine cI hm ⟨fL s.enc,rfl,rfl,rfl,rfl,trivial⟩ (.inr rfl) ?_
 obtain ⟨t,ht⟩:∃ t,(if e.to_=0 then arrM r id e else r)=t:=⟨_,rfl⟩
 rw [ht] at hM
 have htl:t.objects.length*128≤limB:=by
  rw [← ht]
  split
  ·rw [arr_len];exact hrl
  ·exact hrl
 apply joinK (P:=Tryz.prog) (T:=T) (N:=Tryz.f23.ntmps) (w0:=w0) (O:=O) ⟨[(3,.ptr 128 0),(4,.ptr 256 0),(5,.ptr 2176 0)],[(128,e.enc.map .t),(256,List.replicate 19 .bot),(2176,(t.enc.map .t).set 1 (.row 9000 0))],[(9000,rowQ t.objects)],20000⟩
 case h=>
  intro K
  refine cS (fun h0=>?_) (fun h0=>?_)
  ·have h0:e.to_=0:=by simpa using h0
   rw [if_pos h0] at ht
   refine Tp.run [] ?_
   by_cases hh2:hasM r.objects id=true
   ·obtain ⟨j,hj,h1,h2,h3⟩:=has_idx hh2
    rw [arr_set e hj h1 h2 h3 hh2] at ht
    subst ht
    refine cM [2176] [(1664,0)] (find_ctm r id j hrl hj h3 (first_no h1)) ?_ ?_ ?_
    ·repeat' first|refine Ai ?_ ?_|exact rfl|exact trivial|exact Ei _ rfl|refine lN ?_|refine bS ?_|fail
    ·exact rfl
    refine cM [] [(1664,0)] (enter_ctm r.objects j hj e) ?_ ?_ ?_
    ·repeat' first|refine Ai ?_ ?_|exact rfl|exact trivial|exact Ei _ rfl|refine lN ?_|refine bS ?_|fail
    ·exact rfl
    refine Tp.wk (wk_of [(9000,1664)] rfl rfl ?_ ?_ ?_) K
    all_goals repeat' first|refine Ai ?_ ?_|exact rfl|exact trivial|exact Ei _ rfl|refine lN ?_|refine bS ?_|fail
   ·have hh2:hasM r.objects id=false:=by simpa using hh2
    rw [show arrM r id e=r from by unfold arrM;rw [hh2];rfl] at ht
    subst ht
    refine cM [2176] [(1664,0)] (findN_ctm r id hrl (has_no hh2)) ?_ ?_ ?_
    ·repeat' first|refine Ai ?_ ?_|exact rfl|exact trivial|exact Ei _ rfl|refine lN ?_|refine bS ?_|fail
    ·exact rfl
    refine cM [] [] (enterN_ctm e) ?_ ?_ ?_
    ·repeat' first|refine Ai ?_ ?_|exact rfl|exact trivial|exact Ei _ rfl|refine lN ?_|refine bS ?_|fail
    ·exact rfl
    refine Tp.wk (wk_of [(9000,1664)] rfl rfl ?_ ?_ ?_) K
    all_goals repeat' first|refine Ai ?_ ?_|exact rfl|exact trivial|exact Ei _ rfl|refine lN ?_|refine bS ?_|fail
  ·have h0:¬ e.to_=0:=by simpa using h0
   rw [if_neg h0] at ht
   subst ht
   refine Tp.wk (wk_of [(9000,1664)] rfl rfl ?_ ?_ ?_) K
   all_goals repeat' first|refine Ai ?_ ?_|exact rfl|exact trivial|exact Ei _ rfl|refine lN ?_|refine bS ?_|fail
 case key=>
  clear ht hm hml hrl
  refine Tp.run [5,11] ?_
  refine cS (fun hf=>?_) (fun hf=>?_)
  ·have hf:e.from_=0:=by simpa using hf
   rw [if_pos hf] at hM
   subst hM
   refine Tp.run [11] ?_
   refine Tp.loop (fun x:Nat × List GObject=>⟨[(3,.ptr 128 0),(4,.ptr 256 0),(5,.ptr 2176 0),(34,AV.i (t.objects.map GObject.enc).length),(35,AV.i x.1)],[(128,e.enc.map .t),(256,List.replicate 19 .bot),(2176,(t.enc.map .t).set 1 (.row 9000 0))],[(9000,rowQ x.2)],30000⟩) (fun x=>UnP e.object t.objects x) (fun x=>t.objects.length - x.1) (0,t.objects) ?_ (UnP.start _ _) ?_
   ·refine wk_of [(9000,9000)] rfl rfl ?_ ?_ ?_
    all_goals repeat' first|refine Ai ?_ ?_|exact rfl|exact trivial|exact Ei _ rfl|refine lN ?_|refine bS ?_|fail
   rintro ⟨k,X⟩ hk
   refine Tp.run [7,9,10,11] ?_
   refine cS (fun hc=>?_) (fun hc=>?_)
   ·have hlt:=len_lt hc
    have hX:X.length=t.objects.length:=hk.len
    have hXk:k < X.length:=by omega
    have hkl:k < (X.map GObject.enc).length:=by rw [Lm];exact hXk
    have hold:X[k]=t.objects[k]:=hk.rest k hlt hXk (Nat.le_refl _)
    refine Tp.run [9,10] ?_
    refine Ei k (Ai rfl (Ai hkl ?_))
    refine Ei (X[k].enc) (Ei _ (Ai (map_get _ _ k hXk) (Ai rfl ?_)))
    refine cS (fun hb=>?_) (fun hb=>?_)
    ·refine Tp.run [10] ?_
     refine Ei k (Ai rfl (Ai hkl ?_))
     refine Ei (X[k].enc) (Ai (map_get _ _ k hXk) (Ai (Nb rfl) ?_))
     refine Tp.run [] ?_
     refine Ei (k+1,X.set k (uncO e.object t.objects[k])) (Ai (UnP.step hk hlt) (Ai (show t.objects.length - (k+1) < t.objects.length - k by omega) ?_))
     refine wk_of [(9000,9000)] rfl rfl ?_ ?_ ?_
     ·repeat' first|refine Ai ?_ ?_|exact rfl|exact trivial|exact Ei _ rfl|refine lN ?_|refine bS ?_|fail
      exact succ_eq k hlt 128 (by decide) htl
     ·repeat' first|refine Ai ?_ ?_|exact rfl|exact trivial|exact Ei _ rfl|refine lN ?_|refine bS ?_|fail
     ·repeat' first|refine Ai ?_ ?_|exact rfl|exact trivial|exact Ei _ rfl|refine lN ?_|refine bS ?_|fail
      refine ob_set1 X k _ _ ?_
      unfold uncO
      rw [← hold,if_pos (show (X[k].blocks==e.object)=true from hb)]
      rfl
    ·refine Tp.run [] ?_
     refine Ei (k+1,X) (Ai (UnP.skip hk hlt (by
      unfold uncO
      rw [← hold,if_neg (by rw [show (X[k].blocks==e.object)=false from hb];decide)])) (Ai (show t.objects.length - (k+1) < t.objects.length - k by omega) ?_))
     refine wk_of [(9000,9000)] rfl rfl ?_ ?_ ?_
     ·repeat' first|refine Ai ?_ ?_|exact rfl|exact trivial|exact Ei _ rfl|refine lN ?_|refine bS ?_|fail
      exact succ_eq k hlt 128 (by decide) htl
     all_goals repeat' first|refine Ai ?_ ?_|exact rfl|exact trivial|exact Ei _ rfl|refine lN ?_|refine bS ?_|fail
   ·have hle:=len_ge hc hk.le
    simp only at hle
    subst hle
    have hfin:=hk.fin
    subst hfin
    refine Tp.run [] ?_
    refine Ei [] (Ai rfl (Ai ?_ ?_))
    all_goals repeat' first|refine Ai ?_ ?_|exact rfl|exact trivial|exact Ei _ rfl|refine lN ?_|refine bS ?_|fail
  ·have hf:¬ e.from_=0:=by simpa using hf
   rw [if_neg hf] at hM
   subst hM
   refine Tp.run [] ?_
   refine Ei [] (Ai rfl (Ai ?_ ?_))
   all_goals repeat' first|refine Ai ?_ ?_|exact rfl|exact trivial|exact Ei _ rfl|refine lN ?_|refine bS ?_|fail
theorem make_eq {s:GState} (card player:Int) (hlt:∀ y∈s.objects,y.id < s.nextId):makeM s card player=({ s with objects:=s.objects++[{ newM s.nextId card player 0 s.nextStamp with token:=true,sick:=true }],battlefield:=s.battlefield++[s.nextId],nextId:=IntKind.i64.wrap (s.nextId+1),nextStamp:=IntKind.i64.wrap (s.nextStamp+1) },s.nextId):=by
 show ({ putM s { newM s.nextId card player 0 s.nextStamp with token:=true,sick:=true } with battlefield:=s.battlefield++[s.nextId],nextId:=IntKind.i64.wrap (s.nextId+1),nextStamp:=IntKind.i64.wrap (s.nextStamp+1) },s.nextId)=_
 unfold putM
 rw [putL_end (x:={ newM s.nextId card player 0 s.nextStamp with token:=true,sick:=true }) hlt]
theorem arr_form (s:GState) (id:Int) (e:GEvent):∃ l,arrM s id e={ s with objects:=l }∧l.length=s.objects.length∧∀ y∈l,∃ x∈s.objects,y.id=x.id:=by
 by_cases hh:hasM s.objects id=true
 ·obtain ⟨j,hj,h1,h2,h3⟩:=has_idx hh
  refine ⟨_,arr_set e hj h1 h2 h3 hh,List.length_set,fun y hy=>?_⟩
  rcases List.mem_or_eq_of_mem_set hy with hy|rfl
  ·exact ⟨y,hy,rfl⟩
  ·exact ⟨s.objects[j],List.getElem_mem hj,rfl⟩
 ·refine ⟨s.objects,?_,rfl,fun y hy=>⟨y,hy,rfl⟩⟩
  unfold arrM
  rw [if_neg hh]
structure CrP (s:GState) (e:GEvent) (x:Nat × GState):Prop where
 ok:x.2.ok
 lt:∀ y∈x.2.objects,y.id < x.2.nextId
 le:x.1≤e.amount.toNat
 eq:mkM x.2 e (e.amount.toNat - x.1)=mkM s e e.amount.toNat
 bf:x.2.battlefield.length+(e.amount.toNat - x.1)≤2000000
 id:0≤x.2.nextId∧x.2.nextId+((e.amount.toNat - x.1:Nat):Int)≤1000000
theorem CrP.start {s:GState} {e:GEvent} (h:s.ok) (hlt:∀ y∈s.objects,y.id < s.nextId) (hb:s.battlefield.length+e.amount.toNat≤2000000) (hn:0≤s.nextId∧s.nextId+(e.amount.toNat:Int)≤1000000):CrP s e (0,s):=⟨h,hlt,Nat.zero_le _,rfl,hb,hn⟩
theorem CrP.step {s:GState} {e:GEvent} {k:Nat} {S:GState} (H:CrP s e (k,S)) (hk:k < e.amount.toNat) (hl:(S.objects.length:Int) < 2048):CrP s e (k+1,arrM (makeM S e.card e.player).1 (makeM S e.card e.player).2 e):=by
 obtain ⟨h1,h2,h3,h4,h5,h6,h7⟩:=H
 simp only at h1 h2 h3 h4 h5 h6 h7
 have hm:=make_eq e.card e.player h2
 rw [show e.amount.toNat - k=(e.amount.toNat - (k+1))+1 by omega] at h4
 have h4':mkM (arrM (makeM S e.card e.player).1 (makeM S e.card e.player).2 e) e (e.amount.toNat - (k+1))=mkM s e e.amount.toNat:=by
  rw [← h4]
  show _=if (S.objects.length:Int) < 2048 then _ else S
  rw [if_pos hl]
 rw [hm] at h4' ⊢
 obtain ⟨l,e1,e2,e3⟩:=arr_form ({ S with objects:=S.objects++[{ newM S.nextId e.card e.player 0 S.nextStamp with token:=true,sick:=true }],battlefield:=S.battlefield++[S.nextId],nextId:=IntKind.i64.wrap (S.nextId+1),nextStamp:=IntKind.i64.wrap (S.nextStamp+1) }) S.nextId e
 simp only at h4' ⊢
 have hw:IntKind.i64.wrap (S.nextId+1)=S.nextId+1:=by rw [IntKind.wrap_i64];omega
 rw [e1] at h4' ⊢
 simp only [List.length_append,List.length_singleton,hw] at e2 e3 h4' ⊢
 obtain ⟨g1,g2,g3,g4,g5,g6⟩:=h1
 refine ⟨⟨g1,g2,?_,fun y _=>obj_ok y,?_,g6⟩,fun y hy=>?_,hk,h4',?_,?_⟩
 ·show l.length*128≤limB
  rw [e2]
  unfold limB
  omega
 ·show (S.battlefield++[S.nextId]).length*8≤limB
  rw [List.length_append,List.length_singleton]
  unfold limB
  omega
 ·obtain ⟨x,hx,hxy⟩:=e3 y hy
  show y.id < S.nextId+1
  rw [hxy]
  rcases List.mem_append.1 hx with hx|hx
  ·have:=h2 x hx
   omega
  ·rw [List.mem_singleton.1 hx]
   show S.nextId < _
   omega
 ·show (S.battlefield++[S.nextId]).length+(e.amount.toNat - (k+1))≤2000000
  rw [List.length_append,List.length_singleton]
  omega
 ·show 0≤S.nextId+1∧S.nextId+1+_≤_
  omega
theorem CrP.fin {s:GState} {e:GEvent} {k:Nat} {S:GState} (H:CrP s e (k,S)) (h:¬ (k:Int) < e.amount∨¬ (S.objects.length:Int) < 2048):mkM s e e.amount.toNat=S:=by
 rw [← H.eq]
 simp only
 rcases h with h|h
 ·rw [show e.amount.toNat - k=0 by omega]
  rfl
 ·cases e.amount.toNat - k with
  | zero=>rfl
  | succ n=>
   show (if (S.objects.length:Int) < 2048 then _ else S)=S
   rw [if_neg h]
theorem CrP.made {s:GState} {e:GEvent} {k:Nat} {S:GState} (H:CrP s e (k,S)) (hk:k < e.amount.toNat) (hl:(S.objects.length:Int) < 2048):∃ (r:GState) (id:Int) (j:Nat) (hj:j < r.objects.length),makeM S e.card e.player=(r,id)∧r.objects.length*128≤limB∧r.objects[j].id=id∧(∀ i (h:i < r.objects.length),i < j→r.objects[i].id≠id)∧CrP s e (k+1,{ r with objects:=r.objects.set j (entM e r.objects[j]) }):=by
 have hs:=H.step hk hl
 have hm:=make_eq e.card e.player H.lt
 simp only at hm
 rw [hm] at hs
 have hh:hasM (S.objects++[{ newM S.nextId e.card e.player 0 S.nextStamp with token:=true,sick:=true }]) S.nextId=true:=hasM_iff.2 ⟨_,List.mem_append_right _ (List.mem_singleton.2 rfl),rfl⟩
 have hl2:(S.objects++[{ newM S.nextId e.card e.player 0 S.nextStamp with token:=true,sick:=true }]).length*128≤limB:=by
  rw [List.length_append,List.length_singleton]
  unfold limB
  omega
 obtain ⟨j,hj,h1,h2,h3⟩:=has_idx hh
 refine ⟨_,_,j,hj,hm,hl2,h3,first_no h1,?_⟩
 rw [arr_set (t:={ S with objects:=S.objects++[{ newM S.nextId e.card e.player 0 S.nextStamp with token:=true,sick:=true }],battlefield:=S.battlefield++[S.nextId],nextId:=IntKind.i64.wrap (S.nextId+1),nextStamp:=IntKind.i64.wrap (S.nextStamp+1) }) e hj h1 h2 h3 hh] at hs
 exact hs
theorem actcreate_ct (s:GState) (e:GEvent) (h:s.ok) (hlt:∀ y∈s.objects,y.id < s.nextId) (hb:s.battlefield.length+e.amount.toNat≤2000000) (hn:0≤s.nextId∧s.nextId+(e.amount.toNat:Int)≤1000000):Ct Tryz.prog 24 [.agg (s.enc.map .t),.agg (e.enc.map .t)] (.agg ((mkM s e e.amount.toNat).enc.map .t)) [] false:=by
 refine ct_of Tryz.func24 rfl (enters_of Tryz.func24 (by kernel_rfl) rfl) tabOk (by kernel_rfl) rfl rfl rfl rfl fun w0 O _=>Tp.run [2,7] ?_
 refine Tp.loop (fun x:Nat × GState=>⟨[(2,.ptr 0 0),(3,.ptr 128 0),(4,.ptr 256 0),(5,AV.i x.1)],[(0,x.2.enc.map .t),(128,e.enc.map .t),(256,List.replicate 19 .bot)],[],10000⟩) (CrP s e) (fun x=>e.amount.toNat - x.1) (0,s) ?_ (CrP.start h hlt hb hn) ?_
 ·refine wk_of [] rfl rfl ?_ ?_ ?_
  all_goals repeat' first|refine Ai ?_ ?_|exact rfl|exact trivial|exact Ei _ rfl|refine lN ?_|refine bS ?_|fail
 rintro ⟨k,S⟩ hk
 refine Tp.run [3,4,5,6,7] ?_
 have hfin:=fun hh=>(hk.fin hh)
 have hmk:=makeP_ct S e.card e.player hk.ok hk.lt
 refine cS (fun hc=>?_) (fun hc=>?_)
 ·refine cS (fun hl=>?_) (fun hl=>?_)
  ·have hl:(S.objects.length:Int) < 2048:=by
    have:=of_decide_eq_true hl
    rwa [Lm] at this
   have hc:(k:Int) < e.amount:=of_decide_eq_true hc
   obtain ⟨r,id,j,hj,e1,hrl,h3,hno,hk2⟩:=hk.made (by omega) hl
   rw [e1] at hmk
   clear hfin e1
   have hkl':k+1≤e.amount.toNat:=hk2.le
   have hkl:IntKind.i64.wrap ((k:Int)+1)=((k+1:Nat):Int):=wrap_succ k (by omega)
   refine Tp.run [] ?_
   refine cI hmk ⟨fL S.enc,rfl,rfl,trivial⟩ (.inr rfl) ?_
   refine Tp.run [] ?_
   refine cM [12432] [(11920,0)] (find_ctm r id j hrl hj h3 hno) ?_ ?_ ?_
   ·repeat' first|refine Ai ?_ ?_|exact rfl|exact trivial|exact Ei _ rfl|refine lN ?_|refine bS ?_|fail
   ·exact rfl
   refine cM [] [(11920,0)] (enter_ctm r.objects j hj e) ?_ ?_ ?_
   ·repeat' first|refine Ai ?_ ?_|exact rfl|exact trivial|exact Ei _ rfl|refine lN ?_|refine bS ?_|fail
   ·exact rfl
   refine Tp.frz [] (Tp.run [] ?_)
   refine Tp.run [] ?_
   refine Ei (k+1,{ r with objects:=r.objects.set j (entM e r.objects[j]) }) (Ai hk2 (Ai (show e.amount.toNat - (k+1) < e.amount.toNat - k by omega) ?_))
   refine wk_of [] rfl rfl ?_ ?_ ?_
   ·repeat' first|refine Ai ?_ ?_|exact rfl|exact trivial|exact Ei _ rfl|refine lN ?_|refine bS ?_|fail
    exact congrArg iv hkl
   all_goals repeat' first|refine Ai ?_ ?_|exact rfl|exact trivial|exact Ei _ rfl|refine lN ?_|refine bS ?_|fail
  ·have hl:¬ (S.objects.length:Int) < 2048:=by
    have:=of_decide_eq_false hl
    rwa [Lm] at this
   rw [hfin (.inr hl)]
   refine Tp.run [] ?_
   refine Ei [] (Ai rfl (Ai ?_ ?_))
   all_goals repeat' first|refine Ai ?_ ?_|exact rfl|exact trivial|exact Ei _ rfl|refine lN ?_|refine bS ?_|fail
 ·rw [hfin (.inl (of_decide_eq_false hc))]
  refine Tp.run [] ?_
  refine Ei [] (Ai rfl (Ai ?_ ?_))
  all_goals repeat' first|refine Ai ?_ ?_|exact rfl|exact trivial|exact Ei _ rfl|refine lN ?_|refine bS ?_|fail
theorem actdraw_ct (s:GState) (p:Nat) (id:Int) (l:List Int) (h:s.ok) (H:MvH s) (hp:p < s.players.length) (hl:s.players[p].library=id :: l) (hh:hasM s.objects id=true):Ct Tryz.prog 25 [.agg (s.enc.map .t),.c (.t (iv p))] (.agg ((drawM s p).enc.map .t)) [] false:=by
 have hm:=moveP_ct s id 1 p false h H hh (by decide)
 have e:drawM s p=(moveM s id 1 p false).1:=by
  unfold drawM
  rw [Int.toNat_natCast,List.getElem?_eq_getElem hp]
  simp only [hl]
 rw [e]
 have hq:(s.players.map GPlayer.enc)[p]? = some (({ s.players[p] with library:=id :: l }:GPlayer).enc):=by
  rw [map_get _ _ p hp,← hl]
 generalize moveM s id 1 p false=r at hm
 refine ct_of Tryz.func25 rfl (enters_of Tryz.func25 (by kernel_rfl) rfl) tabOk (by kernel_rfl) rfl rfl rfl rfl fun w0 O _=>Tp.run [2,3,5] ?_
 refine Ei p (Ei _ (Ai rfl (Ai hq ?_)))
 refine Tp.run [3,5] ?_
 refine cS (fun hc=>?_) (fun hc=>?_)
 ·refine Tp.run [4] ?_
  refine Ei 0 (Ei [iv id] (Ai rfl (Ai rfl ?_)))
  refine cI hm ⟨fL s.enc,rfl,rfl,rfl,rfl,trivial⟩ (.inr rfl) ?_
  refine Ei [] (Ai rfl (Ai ?_ ?_))
  all_goals repeat' first|refine Ai ?_ ?_|exact rfl|exact trivial|exact Ei _ rfl|refine lN ?_|refine bS ?_|fail
 ·have:=of_decide_eq_false hc
  simp at this
theorem actdraw_ctm (s:GState) (p:Nat) (hp:p < s.players.length) (hl:s.players[p].library=[]):CtM Tryz.prog 25 [.agg ((s.enc.map .t).set 0 (.row 0 0)),.c (.t (iv p))] [] [rowPq s.players] (.agg ((s.enc.map .t).set 0 (.row 0 0))) [] [rowPq (s.players.set p { s.players[p] with failed:=true })] []:=by
 have hpl:p < (s.players.map GPlayer.enc).length:=by rw [Lm];exact hp
 have hq:(s.players.map GPlayer.enc)[p]? = some (({ s.players[p] with library:=[] }:GPlayer).enc):=by
  rw [map_get _ _ p hp,← hl]
 refine ctm_of 1 Tryz.func25 rfl (enters_of Tryz.func25 (by kernel_rfl) rfl) tabOk (by kernel_rfl) rfl rfl rfl rfl rfl fun w0 O _=>Tp.run [2,3,5,6] ?_
 refine Ei p (Ai rfl (Ai hpl ?_))
 refine Ei _ (Ei _ (Ai hq (Ai rfl ?_)))
 refine Tp.run [3,5,6] ?_
 refine Tp.run [] ?_
 refine Ei p (Ai rfl (Ai hpl ?_))
 refine Ei _ (Ai (map_get _ _ p hp) (Ai (Nb rfl) ?_))
 refine Tp.run [] ?_
 refine Ei [(0,0)] (Ai (Ai rfl (Ai ?_ (Ai ?_ ?_))) ?_)
 ·repeat' first|refine Ai ?_ ?_|exact rfl|exact trivial|exact Ei _ rfl|refine lN ?_|refine bS ?_|fail
  exact pq_set s.players p _ _ rfl
 all_goals repeat' first|refine Ai ?_ ?_|exact rfl|exact trivial|exact Ei _ rfl|refine lN ?_|refine bS ?_|fail
end Go.Proofs.YtmloamomcbmfhaaGreat
end
section
namespace Go.Proofs.YtmloamomcbmfhaaGreat
open Go Cg Go.RowKit Go.Shelf
theorem fielded_ct (a:GState) (b:Int) (ha:a.objects.length*128≤limB):Ct Tryz.prog 62 [.agg (a.enc.map .t),.c (.t (iv b))] (.tup [.agg ((findM a.objects b).enc.map .t),AV.b (hereM a b)]) [] true:=by
 refine Ct.litT (b:=false) ?_ rfl
 generalize hM:hereM a b=M
 refine ct_of Tryz.func62 rfl (enters_of Tryz.func62 (by kernel_rfl) rfl) tabOk (by kernel_rfl) rfl rfl rfl rfl fun w0 O _=>Tp.run [] ?_
 refine cI (findP_ct a b ha) ⟨fL a.enc,rfl,trivial⟩ (.inl rfl) ?_
 refine cS (fun h=>?_) (fun h=>?_)
 ·have hM2:M=((findM a.objects b).zone==0):=by rw [← hM];unfold hereM;rw [show hasM a.objects b=true from h,Bool.true_and]
  subst hM2
  refine Ei [] (Ai rfl (Ai trivial ?_))
  repeat' first|refine Ai ?_ ?_|exact rfl|exact trivial|exact Ei _ rfl|refine lN ?_|refine bS ?_|fail
 ·have hM2:M=false:=by rw [← hM];unfold hereM;rw [show hasM a.objects b=false from h,Bool.false_and]
  subst hM2
  refine Ei [] (Ai rfl (Ai trivial ?_))
  repeat' first|refine Ai ?_ ?_|exact rfl|exact trivial|exact Ei _ rfl|refine lN ?_|refine bS ?_|fail
theorem living_ct_ (a:GState) (b:Int) (ha:a.ok):∃ r:Bool,(r=(livM a b))∧Ct Tryz.prog 65 [.agg (a.enc.map .t),.c (.t (iv b))] (AV.b r) [] true:=by
 have ha_:=ha
 obtain ⟨oa0,oa1,oa2,oa3,oa4,oa5,oa6,oa7,oa8,oa9,oa10,oa11,oa12⟩:=ha_
 refine ct_x (Φ:=fun (r:Bool)=>r=(livM a b)) lit_b (ctx_of Tryz.func65 rfl (enters_of Tryz.func65 (by kernel_rfl) rfl) tabOk (by kernel_rfl) rfl rfl (TpX.runY [] [] ?_))
 repeat' (first|(apply ix_k;(first|assumption|omega|(simp only [IntKind.wrap_i64,IntKind.wrap_u64,List.length_cons,List.length_nil];omega)|(simp only [Lm] at *;omega)|decide);(first|assumption|omega|(simp only [IntKind.wrap_i64,IntKind.wrap_u64,List.length_cons,List.length_nil];omega)|(simp only [Lm] at *;omega)|decide);intro _)|(apply cond_p <;> intro _)|(apply leaf_x;exact Ei [] (Ai rfl (Ai trivial rfl));exact (by first|exact livM_f1 ‹_› | exact livM_f2 ‹_› | exact Eq.symm (livM_g ‹_› ‹_›));rfl)|fail)
theorem living_ct (a:GState) (b:Int) (ha:a.ok):Ct Tryz.prog 65 [.agg (a.enc.map .t),.c (.t (iv b))] (AV.b (livM a b)) [] true:=by
 obtain ⟨r,hr,h⟩:=living_ct_ a b ha
 rw [hr] at h
 exact h
theorem amount_ct_ (a:GEvent):∃ r:Bool,(r=(amtM a.amount))∧Ct Tryz.prog 66 [.agg (a.enc.map .t)] (AV.b r) [] true:=by
 refine ct_x (Φ:=fun (r:Bool)=>r=(amtM a.amount)) lit_b (ctx_of Tryz.func66 rfl (enters_of Tryz.func66 (by kernel_rfl) rfl) tabOk (by kernel_rfl) rfl rfl (TpX.runY [] [] ?_))
 repeat' (first|(apply cond_p <;> intro _)|(apply leaf_x;exact Ei [] (Ai rfl (Ai trivial rfl));exact (by simp [amtM, *]);rfl)|fail)
theorem amount_ct (a:GEvent):Ct Tryz.prog 66 [.agg (a.enc.map .t)] (AV.b (amtM a.amount)) [] true:=by
 obtain ⟨r,hr,h⟩:=amount_ct_ a
 rw [hr] at h
 exact h
theorem hurts_ct_ (a:GState) (b:GEvent) (ha:a.ok):∃ r:Bool,(r=(amtM b.amount&&(if b.object=0 then livM a b.player else hereM a b.object)))∧Ct Tryz.prog 63 [.agg (a.enc.map .t),.agg (b.enc.map .t)] (AV.b r) [] true:=by
 have ha_:=ha
 obtain ⟨oa0,oa1,oa2,oa3,oa4,oa5,oa6,oa7,oa8,oa9,oa10,oa11,oa12⟩:=ha_
 refine ct_x (Φ:=fun (r:Bool)=>r=(amtM b.amount&&(if b.object=0 then livM a b.player else hereM a b.object))) lit_b (ctx_of Tryz.func63 rfl (enters_of Tryz.func63 (by kernel_rfl) rfl) tabOk (by kernel_rfl) rfl rfl (TpX.runY [] [] ?_))
 repeat' (first|(apply cond_p <;> intro _)|apply cond_n|(apply cS <;> intro _)|(apply leaf_x;exact Ei [] (Ai rfl (Ai trivial rfl));exact (by simp [*]);rfl)|(apply call_f 66;refine cI (amount_ct _) ⟨fL (GEvent.enc _),trivial⟩ (.inl rfl) ?_)|(apply call_f 65;refine cI (living_ct _ _ (by first|assumption|exact okmr ‹_› ‹_› | exact okmg _ ‹_›)) ⟨fL (GState.enc _),rfl,trivial⟩ (.inl rfl) ?_)|(apply call_f 62;refine cI (fielded_ct _ _ (by first|assumption|exact okmr ‹_› ‹_› | exact okmg _ ‹_›)) ⟨fL (GState.enc _),rfl,trivial⟩ (.inl rfl) ?_)|fail)
theorem hurts_ct (a:GState) (b:GEvent) (ha:a.ok):Ct Tryz.prog 63 [.agg (a.enc.map .t),.agg (b.enc.map .t)] (AV.b (amtM b.amount&&(if b.object=0 then livM a b.player else hereM a b.object))) [] true:=by
 obtain ⟨r,hr,h⟩:=hurts_ct_ a b ha
 rw [hr] at h
 exact h
theorem counts_ct_ (a:GState) (b:GEvent) (ha:a.ok):∃ r:Bool,(r=(hereM a b.object&&(decide (b.counter≥0)&&(decide (b.counter < 3)&&amtM b.amount))))∧Ct Tryz.prog 67 [.agg (a.enc.map .t),.agg (b.enc.map .t)] (AV.b r) [] true:=by
 have ha_:=ha
 obtain ⟨oa0,oa1,oa2,oa3,oa4,oa5,oa6,oa7,oa8,oa9,oa10,oa11,oa12⟩:=ha_
 refine ct_x (Φ:=fun (r:Bool)=>r=(hereM a b.object&&(decide (b.counter≥0)&&(decide (b.counter < 3)&&amtM b.amount)))) lit_b (ctx_of Tryz.func67 rfl (enters_of Tryz.func67 (by kernel_rfl) rfl) tabOk (by kernel_rfl) rfl rfl (TpX.runY [] [] ?_))
 repeat' (first|(apply cond_p <;> intro _)|(apply cS <;> intro _)|(apply leaf_x;exact Ei [] (Ai rfl (Ai trivial rfl));exact (by simp [*]);rfl)|(apply call_f 62;refine cI (fielded_ct _ _ (by first|assumption|exact okmr ‹_› ‹_› | exact okmg _ ‹_›)) ⟨fL (GState.enc _),rfl,trivial⟩ (.inl rfl) ?_)|(apply call_f 66;refine cI (amount_ct _) ⟨fL (GEvent.enc _),trivial⟩ (.inl rfl) ?_)|fail)
theorem counts_ct (a:GState) (b:GEvent) (ha:a.ok):Ct Tryz.prog 67 [.agg (a.enc.map .t),.agg (b.enc.map .t)] (AV.b (hereM a b.object&&(decide (b.counter≥0)&&(decide (b.counter < 3)&&amtM b.amount)))) [] true:=by
 obtain ⟨r,hr,h⟩:=counts_ct_ a b ha
 rw [hr] at h
 exact h
theorem creates_ct_ (a:List GCard) (b:GState) (c:GEvent) (_ha:a.length*176≤limB) (_ma:∀ y∈a,GCard.ok y) (hb:b.ok):∃ r:Bool,(r=(livM b c.player&&(tokM a c.card&&amtM c.amount)))∧Ct Tryz.prog 68 [.c (.t (.sl 17 (a.map GCard.enc))),.agg (b.enc.map .t),.agg (c.enc.map .t)] (AV.b r) [] true:=by
 have hb_:=hb
 obtain ⟨ob0,ob1,ob2,ob3,ob4,ob5,ob6,ob7,ob8,ob9,ob10,ob11,ob12⟩:=hb_
 refine ct_x (Φ:=fun (r:Bool)=>r=(livM b c.player&&(tokM a c.card&&amtM c.amount))) lit_b (ctx_of Tryz.func68 rfl (enters_of Tryz.func68 (by kernel_rfl) rfl) tabOk (by kernel_rfl) rfl rfl (TpX.runY [] [] ?_))
 repeat' (first|(apply ix_k;(first|assumption|omega|(simp only [IntKind.wrap_i64,IntKind.wrap_u64,List.length_cons,List.length_nil];omega)|(simp only [Lm] at *;omega)|decide);(first|assumption|omega|(simp only [IntKind.wrap_i64,IntKind.wrap_u64,List.length_cons,List.length_nil];omega)|(simp only [Lm] at *;omega)|decide);intro _)|(apply cond_p <;> intro _)|(apply cS <;> intro _)|(apply leaf_x;exact Ei [] (Ai rfl (Ai trivial rfl));exact (by first|(simp [*];done)|(simp [tokM_f1 ‹_›, *];done)|(simp [tokM_f2 ‹_›, *];done)|(rw [tokM_g ‹_› ‹_›];simp [*];done));rfl)|(apply call_f 65;refine cI (living_ct _ _ (by first|assumption|exact okmr ‹_› ‹_› | exact okmg _ ‹_›)) ⟨fL (GState.enc _),rfl,trivial⟩ (.inl rfl) ?_)|(apply call_f 66;refine cI (amount_ct _) ⟨fL (GEvent.enc _),trivial⟩ (.inl rfl) ?_)|fail)
theorem creates_ct (a:List GCard) (b:GState) (c:GEvent) (ha:a.length*176≤limB) (ma:∀ y∈a,GCard.ok y) (hb:b.ok):Ct Tryz.prog 68 [.c (.t (.sl 17 (a.map GCard.enc))),.agg (b.enc.map .t),.agg (c.enc.map .t)] (AV.b (livM b c.player&&(tokM a c.card&&amtM c.amount))) [] true:=by
 obtain ⟨r,hr,h⟩:=creates_ct_ a b c ha ma hb
 rw [hr] at h
 exact h
theorem moves_ct_ (a:GState) (b:GEvent) (ha:a.ok):∃ r:Bool,(r=(hasM a.objects b.object&&(b.from_==(findM a.objects b.object).zone&&(b.to_ != b.from_&&(decide (b.to_≥0)&&(decide (b.to_≤4)&&(decide (b.player≥0)&&decide (b.player < a.players.length))))))))∧Ct Tryz.prog 64 [.agg (a.enc.map .t),.agg (b.enc.map .t)] (AV.b r) [] true:=by
 have ha_:=ha
 obtain ⟨oa0,oa1,oa2,oa3,oa4,oa5,oa6,oa7,oa8,oa9,oa10,oa11,oa12⟩:=ha_
 refine ct_x (Φ:=fun (r:Bool)=>r=(hasM a.objects b.object&&(b.from_==(findM a.objects b.object).zone&&(b.to_ != b.from_&&(decide (b.to_≥0)&&(decide (b.to_≤4)&&(decide (b.player≥0)&&decide (b.player < a.players.length)))))))) lit_b (ctx_of Tryz.func64 rfl (enters_of Tryz.func64 (by kernel_rfl) rfl) tabOk (by kernel_rfl) rfl rfl (TpX.runY [] [] ?_))
 repeat' (first|(apply cond_p <;> intro _)|(apply cond_ne <;> intro _)|(apply cS <;> intro _)|(apply leaf_x;exact Ei [] (Ai rfl (Ai trivial rfl));exact (by (try simp only [Lm] at *);first|(simp [*];done)|(have hne:=Ne.symm (by assumption:¬ (findM a.objects b.object).zone=b.from_);simp [*];done));rfl)|(apply call_f 69;refine cI (findP_ct _ _ (by first|assumption|exact okmr ‹_› ‹_› | exact okmg _ ‹_›)) ⟨fL (GState.enc _),rfl,trivial⟩ (.inl rfl) ?_)|fail)
theorem moves_ct (a:GState) (b:GEvent) (ha:a.ok):Ct Tryz.prog 64 [.agg (a.enc.map .t),.agg (b.enc.map .t)] (AV.b (hasM a.objects b.object&&(b.from_==(findM a.objects b.object).zone&&(b.to_ != b.from_&&(decide (b.to_≥0)&&(decide (b.to_≤4)&&(decide (b.player≥0)&&decide (b.player < a.players.length)))))))) [] true:=by
 obtain ⟨r,hr,h⟩:=moves_ct_ a b ha
 rw [hr] at h
 exact h
theorem isP_ct_ (a:List GCard) (b:GState) (c:GEvent) (ha:a.length*176≤limB) (ma:∀ y∈a,GCard.ok y) (hb:b.ok):∃ r:Bool,(r=(evP a b c))∧Ct Tryz.prog 22 [.c (.t (.sl 17 (a.map GCard.enc))),.agg (b.enc.map .t),.agg (c.enc.map .t)] (AV.b r) [] true:=by
 have hb_:=hb
 obtain ⟨ob0,ob1,ob2,ob3,ob4,ob5,ob6,ob7,ob8,ob9,ob10,ob11,ob12⟩:=hb_
 refine ct_x (Φ:=fun (r:Bool)=>r=(evP a b c)) lit_b (ctx_of Tryz.func22 rfl (enters_of Tryz.func22 (by kernel_rfl) rfl) tabOk (by kernel_rfl) rfl rfl (TpX.runY [] [] ?_))
 repeat' (first|(apply cond_p <;> intro _)|(apply cS <;> intro _)|(apply leaf_x;exact Ei [] (Ai rfl (Ai trivial rfl));exact (by first|contradiction|(simp [evP,evM, *];done));rfl)|(apply call_f 62;refine cI (fielded_ct _ _ (by first|assumption|exact okmr ‹_› ‹_› | exact okmg _ ‹_›)) ⟨fL (GState.enc _),rfl,trivial⟩ (.inl rfl) ?_)|(apply call_f 63;refine cI (hurts_ct _ _ (by first|assumption|exact okmr ‹_› ‹_› | exact okmg _ ‹_›)) ⟨fL (GState.enc _),fL (GEvent.enc _),trivial⟩ (.inl rfl) ?_)|(apply call_f 64;refine cI (moves_ct _ _ (by first|assumption|exact okmr ‹_› ‹_› | exact okmg _ ‹_›)) ⟨fL (GState.enc _),fL (GEvent.enc _),trivial⟩ (.inl rfl) ?_)|(apply call_f 65;refine cI (living_ct _ _ (by first|assumption|exact okmr ‹_› ‹_› | exact okmg _ ‹_›)) ⟨fL (GState.enc _),rfl,trivial⟩ (.inl rfl) ?_)|(apply call_f 66;refine cI (amount_ct _) ⟨fL (GEvent.enc _),trivial⟩ (.inl rfl) ?_)|(apply call_f 67;refine cI (counts_ct _ _ (by first|assumption|exact okmr ‹_› ‹_› | exact okmg _ ‹_›)) ⟨fL (GState.enc _),fL (GEvent.enc _),trivial⟩ (.inl rfl) ?_)|(apply call_f 68;refine cI (creates_ct _ _ _ (by first|assumption|exact okmr ‹_› ‹_› | exact okmg _ ‹_›) (by first|assumption|exact okmr ‹_› ‹_› | exact okmg _ ‹_›) (by first|assumption|exact okmr ‹_› ‹_› | exact okmg _ ‹_›)) ⟨rfl,fL (GState.enc _),fL (GEvent.enc _),trivial⟩ (.inl rfl) ?_)|(apply call_f 69;refine cI (findP_ct _ _ (by first|assumption|exact okmr ‹_› ‹_› | exact okmg _ ‹_›)) ⟨fL (GState.enc _),rfl,trivial⟩ (.inl rfl) ?_)|fail)
theorem isP_ct (a:List GCard) (b:GState) (c:GEvent) (ha:a.length*176≤limB) (ma:∀ y∈a,GCard.ok y) (hb:b.ok):Ct Tryz.prog 22 [.c (.t (.sl 17 (a.map GCard.enc))),.agg (b.enc.map .t),.agg (c.enc.map .t)] (AV.b (evP a b c)) [] true:=by
 obtain ⟨r,hr,h⟩:=isP_ct_ a b c ha ma hb
 rw [hr] at h
 exact h
theorem zab_ok {m:List GMod} (h1:m.length*176≤limB) (h2:∀ y∈m,GMod.ok y):({ zeroAb with mods:=m }:GAbility).ok:=⟨⟨trivial,trivial,trivial⟩,h1,h2,trivial,⟨trivial,trivial,trivial⟩,Nat.zero_le _,fun _ h=>(by cases h),Nat.zero_le _,fun _ h=>(by cases h),⟨trivial,trivial,trivial⟩⟩
theorem zab_fit {st:St} (m:List GMod):FitL st [.t (.lit (.int .i64 0)),.t (.lit (.int .i64 0)),.t (.lit (.int .i64 0)),.t (.lit (.int .i64 0)),.t (.lit (.int .i64 0)),.t (.lit (.int .i64 0)),.t (.lit (.int .i64 0)),.t (.lit (.int .i64 0)),.t (.lit (.string ⟨#[]⟩)),.t (.lit (.int .i64 0)),.t (.lit (.int .i64 0)),.t (.lit (.int .i64 0)),.t (.lit (.int .i64 0)),.t (.lit (.int .i64 0)),.t (.lit (.int .i64 0)),.t (.lit (.int .i64 0)),.t (.lit (.int .i64 0)),.t (.sl 20 (m.map GMod.enc)),.t (.lit (.int .i64 0)),.t (.lit (.int .i64 0)),.t (.lit (.int .i64 0)),.t (.lit (.int .i64 0)),.t (.lit (.int .i64 0)),.t (.lit (.int .i64 0)),.t (.lit (.int .i64 0)),.t (.lit (.bool false)),.t (.lit (.bool false)),.t (.lit (.int .i64 0)),.t (.lit (.bool false)),.t (.lit (.int .i64 0)),.t (.lit (.int .i64 0)),.t (.lit (.int .i64 0)),.t (.lit (.int .i64 0)),.t (.lit (.int .i64 0)),.t (.lit (.int .i64 0)),.t (.lit (.int .i64 0)),.t (.lit (.int .i64 0)),.t (.lit (.int .i64 0)),.t (.lit (.string ⟨#[]⟩)),.t (.lit (.int .i64 0)),.t (.lit (.int .i64 0)),.t (.lit (.int .i64 0)),.t (.lit (.int .i64 0)),.t (.lit (.int .i64 0)),.t (.lit (.int .i64 0)),.t (.lit (.int .i64 0)),.t (.lit (.int .i64 0)),.t (.lit (.bool false)),.nil,.nil,.t (.lit (.int .i64 0)),.t (.lit (.int .i64 0)),.t (.lit (.int .i64 0)),.t (.lit (.int .i64 0)),.t (.lit (.int .i64 0)),.t (.lit (.int .i64 0)),.t (.lit (.int .i64 0)),.t (.lit (.int .i64 0)),.t (.lit (.int .i64 0)),.t (.lit (.string ⟨#[]⟩)),.t (.lit (.int .i64 0)),.t (.lit (.int .i64 0)),.t (.lit (.int .i64 0)),.t (.lit (.int .i64 0)),.t (.lit (.int .i64 0)),.t (.lit (.int .i64 0)),.t (.lit (.int .i64 0)),.t (.lit (.int .i64 0)),.t (.lit (.int .i64 0)),.t (.lit (.int .i64 0)),.t (.lit (.int .i64 0)),.t (.lit (.int .i64 0))] (({ zeroAb with mods:=m }:GAbility).enc.map .t):=by
 repeat' first|refine Ai ?_ ?_|exact rfl|exact trivial|exact Ei _ rfl|refine lN ?_|refine bS ?_|fail
theorem key_has_ (a:Int) (b:Int):∃ r:Bool,(r=(hasK a b))∧Ct Tryz.prog 77 [.c (.t (iv a)),.c (.t (iv b))] (AV.b r) [] true:=by
 refine ct_x (Φ:=fun (r:Bool)=>r=(hasK a b)) lit_b (ctx_of Tryz.func77 rfl (enters_of Tryz.func77 (by kernel_rfl) rfl) tabOk (by kernel_rfl) rfl rfl (TpX.runY [] [] ?_))
 repeat' (first|(apply leaf_x;exact Ei [] (Ai rfl (Ai trivial rfl));exact (rfl);rfl)|fail)
theorem key_has (a:Int) (b:Int):Ct Tryz.prog 77 [.c (.t (iv a)),.c (.t (iv b))] (AV.b (hasK a b)) [] true:=by
 obtain ⟨r,hr,h⟩:=key_has_ a b
 rw [hr] at h
 exact h
theorem act_deadly_ (a:GState) (b:List GTraits) (c:Int) (ha:a.ok) (_hb:b.length*176≤limB) (_mb:∀ y∈b,GTraits.ok y):∃ r:Bool,(r=(deadM a b c))∧Ct Tryz.prog 29 [.agg (a.enc.map .t),.c (.t (.sl 17 (b.map GTraits.enc))),.c (.t (iv c))] (AV.b r) [] true:=by
 have ha_:=ha
 obtain ⟨oa0,oa1,oa2,oa3,oa4,oa5,oa6,oa7,oa8,oa9,oa10,oa11,oa12⟩:=ha_
 refine ct_x (Φ:=fun (r:Bool)=>r=(deadM a b c)) lit_b (ctx_of Tryz.func29 rfl (enters_of Tryz.func29 (by kernel_rfl) rfl) tabOk (by kernel_rfl) rfl rfl (TpX.runY [] [] ?_))
 repeat' (first|(apply ix_k;(first|assumption|omega|(simp only [IntKind.wrap_i64,IntKind.wrap_u64,List.length_cons,List.length_nil];omega)|(simp only [Lm] at *;omega)|decide);(first|assumption|omega|(simp only [IntKind.wrap_i64,IntKind.wrap_u64,List.length_cons,List.length_nil];omega)|(simp only [Lm] at *;omega)|decide);intro _)|(apply cond_p <;> intro _)|(apply leaf_x;exact Ei [] (Ai rfl (Ai trivial rfl));exact (by first|exact dead_hit ‹_› ‹_› ‹_› ‹_› ‹_› | exact dead_e1 ‹_› ‹_› | exact dead_e2 ‹_› ‹_›);rfl)|(apply lp_at 2 rfl;refine LpX.up (β:=Unit) 2 12 ((((a.objects.map GObject.enc).length:Nat):Int)) (by first|omega|exact len62 (by first|assumption|exact okmr ‹_› ‹_› | exact okmg _ ‹_›) rfl) (by omega) (fun _=>[]) (fun i _=>Up (noD b c) a.objects i) [1,2,10,11] [] 200000 rfl ?_;refine Ai ?_ (fun _ _ _ _ _=>TpX.runY [] [] ?_))|exact Ei () (Ai (by first|exact Up.zero|exact Up.step ‹_› ‹_› ‹_› (by first|exact noD_1 ‹_› | exact noD_2 ‹_› ‹_›)) (wk_slim rfl rfl rfl rfl))|exact Ai (by first|assumption|omega) (Ei () (Ai (by first|exact Up.zero|exact Up.step ‹_› ‹_› ‹_› (by first|exact noD_1 ‹_› | exact noD_2 ‹_› ‹_›)) (wk_slim rfl rfl rfl rfl)))|(apply call_f 77;refine cI (key_has _ _) ⟨rfl,rfl,trivial⟩ (.inl rfl) ?_)|fail)
theorem act_deadly (a:GState) (b:List GTraits) (c:Int) (ha:a.ok) (hb:b.length*176≤limB) (mb:∀ y∈b,GTraits.ok y):Ct Tryz.prog 29 [.agg (a.enc.map .t),.c (.t (.sl 17 (b.map GTraits.enc))),.c (.t (iv c))] (AV.b (deadM a b c)) [] true:=by
 obtain ⟨r,hr,h⟩:=act_deadly_ a b c ha hb mb
 rw [hr] at h
 exact h
end Go.Proofs.YtmloamomcbmfhaaGreat
end
section
namespace Go.Proofs.YtmloamomcbmfhaaGreat
open Go Cg Go.RowKit Go.Sort
theorem mark_all (l:List GObject) (i:Nat) (hi:i < l.length) (d:Bool) (e:GEvent) (hk:e.kind=1∨e.kind=6∨e.kind=7∨e.kind=8∨e.kind=9∨e.kind=12∨e.kind=13):CtM Tryz.prog 28 [.eptr 0 0 19 i 0,AV.b d,.agg (e.enc.map .t)] [] [rowQ l] (.tup []) [] [rowQ (l.set i (markM d e l[i]))] []:=by
 rcases hk with hk|hk|hk|hk|hk|hk|hk
 ·exact mark_1 l i hi d e hk
 ·exact mark_6 l i hi d e hk
 ·exact mark_7 l i hi d e hk
 ·exact mark_8 l i hi d e hk
 ·exact mark_9 l i hi d e hk
 ·exact mark_12 l i hi d e hk
 ·exact mark_13 l i hi d e hk
theorem change_all (s:GState) (i:Nat) (hi:i < s.players.length) (e:GEvent) (hk:e.kind=4∨e.kind=5∨e.kind=16∨e.kind=17) (h:s.players[i].library.length*8≤limB) (hb:s.players[i].library.length≤1099511627776):CtM Tryz.prog 26 [.eptr 0 0 14 i 0,.ptr 0 0,.agg (e.enc.map .t)] [cellsR s] [rowPq s.players] (.tup []) [cellsR { s with seed:=(chM e s.seed s.players[i]).2 }] [rowPq (s.players.set i (chM e s.seed s.players[i]).1)] []:=by
 have hs:∀ k,e.kind=k→k=4∨k=5∨k=16→(chM e s.seed s.players[i]).2=s.seed:=fun k hk hk2=>by
  rcases hk2 with rfl|rfl|rfl <;> (unfold chM;rw [hk];rfl)
 rcases hk with hk|hk|hk|hk
 ·rw [hs _ hk (by decide)];exact change_4 s i hi e hk
 ·rw [hs _ hk (by decide)];exact change_5 s i hi e hk
 ·rw [hs _ hk (by decide)];exact change_16 s i hi e hk
 ·exact change_17 s i hi e hk h hb
theorem actdo_not (cards:List GCard) (s:GState) (all:List GTraits) (e:GEvent) (hc:cards.length*176≤limB) (mc:∀ y∈cards,GCard.ok y) (h:s.ok) (hev:evP cards s e=false):Ct Tryz.prog 10 [.c (.t (.sl 17 (cards.map GCard.enc))),.agg (s.enc.map .t),.c (.t (.sl 17 (all.map GTraits.enc))),.agg (e.enc.map .t)] (.agg (s.enc.map .t)) [] false:=by
 have hv:=isP_ct cards s e hc mc h
 rw [hev] at hv
 refine ct_of Tryz.func10 rfl (enters_of Tryz.func10 (by kernel_rfl) rfl) tabOk (by kernel_rfl) rfl rfl rfl rfl fun w0 O _=>Tp.run [3,4,6,8,10,15,23,25,26,27,28,29] ?_
 refine cI (copyP2_ct s h) ⟨fL s.enc,trivial⟩ (.inr rfl) ?_
 refine cI hv ⟨rfl,fL s.enc,fL e.enc,trivial⟩ (.inl rfl) ?_
 refine Tp.run [] ?_
 refine Ei [] (Ai rfl (Ai ?_ ?_))
 all_goals repeat' first|refine Ai ?_ ?_|exact rfl|exact trivial|exact Ei _ rfl|refine lN ?_|refine bS ?_|fail
theorem actdo_2 (cards:List GCard) (s:GState) (all:List GTraits) (e:GEvent) (hc:cards.length*176≤limB) (mc:∀ y∈cards,GCard.ok y) (h:s.ok) (hev:evP cards s e=true) (hk:e.kind=2) (H:MvH s) (hh:hasM s.objects e.object=true) (hz:0≤e.to_∧e.to_≤4):Ct Tryz.prog 10 [.c (.t (.sl 17 (cards.map GCard.enc))),.agg (s.enc.map .t),.c (.t (.sl 17 (all.map GTraits.enc))),.agg (e.enc.map .t)] (.agg ((mvP s e).enc.map .t)) [] false:=by
 have hv:=isP_ct cards s e hc mc h
 rw [hev] at hv
 refine ct_of Tryz.func10 rfl (enters_of Tryz.func10 (by kernel_rfl) rfl) tabOk (by kernel_rfl) rfl rfl rfl rfl fun w0 O _=>Tp.run [3,4,6,8,10,15,23,25,26,27,28,29] ?_
 refine cI (copyP2_ct s h) ⟨fL s.enc,trivial⟩ (.inr rfl) ?_
 refine cI hv ⟨rfl,fL s.enc,fL e.enc,trivial⟩ (.inl rfl) ?_
 refine Tp.run [] ?_
 repeat' (first|refine cond_t (beq_t hk) ?_|refine cond_f (beq_f hk (by decide)) ?_)
 refine Tp.frz [] (Tp.run [] ?_)
 refine cI (actmove_ct s e h H hh hz) ⟨?_,fL e.enc,trivial⟩ (.inr rfl) ?_
 ·repeat' first|refine Ai ?_ ?_|exact rfl|exact trivial|exact Ei _ rfl|refine lN ?_|refine bS ?_|fail
 refine Ei [] (Ai rfl (Ai ?_ ?_))
 all_goals repeat' first|refine Ai ?_ ?_|exact rfl|exact trivial|exact Ei _ rfl|refine lN ?_|refine bS ?_|fail
theorem actdo_10 (cards:List GCard) (s:GState) (all:List GTraits) (e:GEvent) (hc:cards.length*176≤limB) (mc:∀ y∈cards,GCard.ok y) (h:s.ok) (hev:evP cards s e=true) (hk:e.kind=10) (hlt:∀ y∈s.objects,y.id < s.nextId) (hb:s.battlefield.length+e.amount.toNat≤2000000) (hn:0≤s.nextId∧s.nextId+(e.amount.toNat:Int)≤1000000):Ct Tryz.prog 10 [.c (.t (.sl 17 (cards.map GCard.enc))),.agg (s.enc.map .t),.c (.t (.sl 17 (all.map GTraits.enc))),.agg (e.enc.map .t)] (.agg ((mkM s e e.amount.toNat).enc.map .t)) [] false:=by
 have hv:=isP_ct cards s e hc mc h
 rw [hev] at hv
 refine ct_of Tryz.func10 rfl (enters_of Tryz.func10 (by kernel_rfl) rfl) tabOk (by kernel_rfl) rfl rfl rfl rfl fun w0 O _=>Tp.run [3,4,6,8,10,15,23,25,26,27,28,29] ?_
 refine cI (copyP2_ct s h) ⟨fL s.enc,trivial⟩ (.inr rfl) ?_
 refine cI hv ⟨rfl,fL s.enc,fL e.enc,trivial⟩ (.inl rfl) ?_
 refine Tp.run [] ?_
 repeat' (first|refine cond_t (beq_t hk) ?_|refine cond_f (beq_f hk (by decide)) ?_)
 refine Tp.frz [] (Tp.run [] ?_)
 refine cI (actcreate_ct s e h hlt hb hn) ⟨?_,fL e.enc,trivial⟩ (.inr rfl) ?_
 ·repeat' first|refine Ai ?_ ?_|exact rfl|exact trivial|exact Ei _ rfl|refine lN ?_|refine bS ?_|fail
 refine Ei [] (Ai rfl (Ai ?_ ?_))
 all_goals repeat' first|refine Ai ?_ ?_|exact rfl|exact trivial|exact Ei _ rfl|refine lN ?_|refine bS ?_|fail
theorem actdo_3 (cards:List GCard) (s:GState) (all:List GTraits) (e:GEvent) (hc:cards.length*176≤limB) (mc:∀ y∈cards,GCard.ok y) (h:s.ok) (hev:evP cards s e=true) (hk:e.kind=3) (H:MvH s) (hp:livM s e.player=true) (hlib:∀ p∈s.players,∀ id∈p.library,hasM s.objects id=true):Ct Tryz.prog 10 [.c (.t (.sl 17 (cards.map GCard.enc))),.agg (s.enc.map .t),.c (.t (.sl 17 (all.map GTraits.enc))),.agg (e.enc.map .t)] (.agg ((drawM s e.player).enc.map .t)) [] false:=by
 obtain ⟨p1,p2⟩:=livM_t hp
 obtain ⟨p,hpe⟩:∃ p:Nat,e.player=p:=⟨e.player.toNat,by omega⟩
 have hpl:p < s.players.length:=by omega
 cases hl:s.players[p].library with
 | nil=>
  have hd:drawM s e.player={ s with players:=s.players.set p { s.players[p] with failed:=true } }:=by
   unfold drawM updP
   rw [hpe,Int.toNat_natCast,List.getElem?_eq_getElem hpl]
   simp only [hl]
  rw [hd]
  have hv:=isP_ct cards s e hc mc h
  rw [hev] at hv
  refine ct_of Tryz.func10 rfl (enters_of Tryz.func10 (by kernel_rfl) rfl) tabOk (by kernel_rfl) rfl rfl rfl rfl fun w0 O _=>Tp.run [3,4,6,8,10,15,23,25,26,27,28,29] ?_
  refine cI (copyP2_ct s h) ⟨fL s.enc,trivial⟩ (.inr rfl) ?_
  refine cI hv ⟨rfl,fL s.enc,fL e.enc,trivial⟩ (.inl rfl) ?_
  refine Tp.run [] ?_
  repeat' (first|refine cond_t (beq_t hk) ?_|refine cond_f (beq_f hk (by decide)) ?_)
  refine Tp.frz [512] (Tp.run [] ?_)
  refine cM [] [(512,0)] (actdraw_ctm s p hpl hl) ?_ ?_ ?_
  ·repeat' first|refine Ai ?_ ?_|exact rfl|exact trivial|exact Ei _ rfl|refine lN ?_|refine bS ?_|fail
   exact congrArg iv hpe
  ·exact rfl
  refine Ei [] (Ai rfl (Ai ?_ ?_))
  all_goals repeat' first|refine Ai ?_ ?_|exact rfl|exact trivial|exact Ei _ rfl|refine lN ?_|refine bS ?_|fail
 | cons id l=>
  have hh:=hlib _ (List.getElem_mem hpl) id (by rw [hl];exact List.mem_cons_self)
  rw [hpe]
  have hv:=isP_ct cards s e hc mc h
  rw [hev] at hv
  refine ct_of Tryz.func10 rfl (enters_of Tryz.func10 (by kernel_rfl) rfl) tabOk (by kernel_rfl) rfl rfl rfl rfl fun w0 O _=>Tp.run [3,4,6,8,10,15,23,25,26,27,28,29] ?_
  refine cI (copyP2_ct s h) ⟨fL s.enc,trivial⟩ (.inr rfl) ?_
  refine cI hv ⟨rfl,fL s.enc,fL e.enc,trivial⟩ (.inl rfl) ?_
  refine Tp.run [] ?_
  repeat' (first|refine cond_t (beq_t hk) ?_|refine cond_f (beq_f hk (by decide)) ?_)
  refine Tp.frz [] (Tp.run [] ?_)
  refine cI (actdraw_ct s p id l h H hpl hl hh) ⟨?_,?_,trivial⟩ (.inr rfl) ?_
  ·repeat' first|refine Ai ?_ ?_|exact rfl|exact trivial|exact Ei _ rfl|refine lN ?_|refine bS ?_|fail
  ·exact congrArg iv hpe
  refine Ei [] (Ai rfl (Ai ?_ ?_))
  all_goals repeat' first|refine Ai ?_ ?_|exact rfl|exact trivial|exact Ei _ rfl|refine lN ?_|refine bS ?_|fail
theorem actdo_life (cards:List GCard) (s:GState) (all:List GTraits) (e:GEvent) (hc:cards.length*176≤limB) (mc:∀ y∈cards,GCard.ok y) (h:s.ok) (hev:evP cards s e=true) (hk:e.kind=4∨e.kind=5∨e.kind=16∨e.kind=17) (hp:livM s e.player=true) (hlb:∀ p∈s.players,p.library.length≤1099511627776):Ct Tryz.prog 10 [.c (.t (.sl 17 (cards.map GCard.enc))),.agg (s.enc.map .t),.c (.t (.sl 17 (all.map GTraits.enc))),.agg (e.enc.map .t)] (.agg ((lifeM s e).enc.map .t)) [] false:=by
 obtain ⟨p1,p2⟩:=livM_t hp
 obtain ⟨p,hpe⟩:∃ p:Nat,e.player=p:=⟨e.player.toNat,by omega⟩
 have hpl:p < s.players.length:=by omega
 have hpl2:p < (s.players.map GPlayer.enc).length:=by rw [Lm];exact hpl
 have hch:=change_all s p hpl e hk (h.2.1 _ (List.getElem_mem hpl)).1 (hlb _ (List.getElem_mem hpl))
 rw [lifeM_eq hpl hpe]
 have hv:=isP_ct cards s e hc mc h
 rw [hev] at hv
 refine ct_of Tryz.func10 rfl (enters_of Tryz.func10 (by kernel_rfl) rfl) tabOk (by kernel_rfl) rfl rfl rfl rfl fun w0 O _=>Tp.run [3,4,6,8,10,15,23,25,26,27,28,29] ?_
 refine cI (copyP2_ct s h) ⟨fL s.enc,trivial⟩ (.inr rfl) ?_
 refine cI hv ⟨rfl,fL s.enc,fL e.enc,trivial⟩ (.inl rfl) ?_
 refine Tp.run [] ?_
 rcases hk with hk|hk|hk|hk
 all_goals
  repeat' (first|refine cond_t (beq_t hk) ?_|refine cond_f (beq_f hk (by decide)) ?_)
  refine Tp.frz [512] (Tp.run [] ?_)
  refine Ei p (Ai hpe (Ai hpl2 ?_))
  refine cM [640] [(512,0)] hch ?_ ?_ ?_
  ·repeat' first|refine Ai ?_ ?_|exact rfl|exact trivial|exact Ei _ rfl|refine lN ?_|refine bS ?_|fail
  ·exact rfl
  refine Tp.run [] ?_
  refine Ei [] (Ai rfl (Ai ?_ ?_))
  all_goals repeat' first|refine Ai ?_ ?_|exact rfl|exact trivial|exact Ei _ rfl|refine lN ?_|refine bS ?_|fail
theorem actdo_ob (cards:List GCard) (s:GState) (all:List GTraits) (e:GEvent) (hc:cards.length*176≤limB) (mc:∀ y∈cards,GCard.ok y) (h:s.ok) (hev:evP cards s e=true) (hk:e.kind=1∨e.kind=6∨e.kind=7∨e.kind=8∨e.kind=9∨e.kind=12) (ha:all.length*176≤limB) (ma:∀ y∈all,GTraits.ok y) (hh:hasM s.objects e.object=true):Ct Tryz.prog 10 [.c (.t (.sl 17 (cards.map GCard.enc))),.agg (s.enc.map .t),.c (.t (.sl 17 (all.map GTraits.enc))),.agg (e.enc.map .t)] (.agg ((objM s all e).enc.map .t)) [] false:=by
 obtain ⟨i,hi,h1,h2,h3⟩:=has_idx hh
 have hmk:=mark_all s.objects i hi (deadM s all e.source) e (by omega)
 rw [objM_eq hi h1 h2 h3 hh (by omega)]
 have hv:=isP_ct cards s e hc mc h
 rw [hev] at hv
 refine ct_of Tryz.func10 rfl (enters_of Tryz.func10 (by kernel_rfl) rfl) tabOk (by kernel_rfl) rfl rfl rfl rfl fun w0 O _=>Tp.run [3,4,6,8,10,15,23,25,26,27,28,29] ?_
 refine cI (copyP2_ct s h) ⟨fL s.enc,trivial⟩ (.inr rfl) ?_
 refine cI hv ⟨rfl,fL s.enc,fL e.enc,trivial⟩ (.inl rfl) ?_
 refine Tp.run [] ?_
 rcases hk with hk|hk|hk|hk|hk|hk
 all_goals
  repeat' (first|refine cond_t (beq_t hk) ?_|refine cond_f (beq_f hk (by decide)) ?_)
  refine Tp.frz [513] (Tp.run [] ?_)
  refine cM [640] [(513,0)] (find_ctm s e.object i h.2.2.1 hi h3 (first_no h1)) ?_ ?_ ?_
  ·repeat' first|refine Ai ?_ ?_|exact rfl|exact trivial|exact Ei _ rfl|refine lN ?_|refine bS ?_|fail
  ·exact rfl
  refine Tp.run [] ?_
  refine cI (act_deadly s all e.source h ha ma) ⟨fL s.enc,rfl,rfl,trivial⟩ (.inl rfl) ?_
  refine cM [] [(513,0)] hmk ?_ ?_ ?_
  ·repeat' first|refine Ai ?_ ?_|exact rfl|exact trivial|exact Ei _ rfl|refine lN ?_|refine bS ?_|fail
  ·exact rfl
  by_cases hs:hasM (s.objects.set i (markM (deadM s all e.source) e s.objects[i])) e.source=true
  ·obtain ⟨j,hj,g1,g2,g3⟩:=has_idx hs
   refine Tp.run [] ?_
   refine cM [640] [(513,0)] (find_ctm { s with objects:=s.objects.set i (markM (deadM s all e.source) e s.objects[i]) } e.source j (by rw [List.length_set];exact h.2.2.1) hj g3 (first_no g1)) ?_ ?_ ?_
   ·repeat' first|refine Ai ?_ ?_|exact rfl|exact trivial|exact Ei _ rfl|refine lN ?_|refine bS ?_|fail
   ·exact rfl
   refine Tp.run [] ?_
   refine cond_f (beq_f hk (by decide)) ?_
   refine Tp.run [] ?_
   refine Ei [] (Ai rfl (Ai ?_ ?_))
   all_goals repeat' first|refine Ai ?_ ?_|exact rfl|exact trivial|exact Ei _ rfl|refine lN ?_|refine bS ?_|fail
  ·have hs:hasM (s.objects.set i (markM (deadM s all e.source) e s.objects[i])) e.source=false:=by simpa using hs
   refine Tp.run [] ?_
   refine cM [640] [(513,0)] (findN_ctm { s with objects:=s.objects.set i (markM (deadM s all e.source) e s.objects[i]) } e.source (by rw [List.length_set];exact h.2.2.1) (has_no hs)) ?_ ?_ ?_
   ·repeat' first|refine Ai ?_ ?_|exact rfl|exact trivial|exact Ei _ rfl|refine lN ?_|refine bS ?_|fail
   ·exact rfl
   refine Tp.run [] ?_
   refine cond_f (beq_f hk (by decide)) ?_
   refine Tp.run [] ?_
   refine Ei [] (Ai rfl (Ai ?_ ?_))
   all_goals repeat' first|refine Ai ?_ ?_|exact rfl|exact trivial|exact Ei _ rfl|refine lN ?_|refine bS ?_|fail
theorem actdo_13 (cards:List GCard) (s:GState) (all:List GTraits) (e:GEvent) (hc:cards.length*176≤limB) (mc:∀ y∈cards,GCard.ok y) (h:s.ok) (hev:evP cards s e=true) (hk:e.kind=13) (ha:all.length*176≤limB) (ma:∀ y∈all,GTraits.ok y) (hh:hasM s.objects e.object=true) (hs:hasM s.objects e.source=true):Ct Tryz.prog 10 [.c (.t (.sl 17 (cards.map GCard.enc))),.agg (s.enc.map .t),.c (.t (.sl 17 (all.map GTraits.enc))),.agg (e.enc.map .t)] (.agg ((objM s all e).enc.map .t)) [] false:=by
 obtain ⟨i,hi,h1,h2,h3⟩:=has_idx hh
 have hmk:=mark_all s.objects i hi (deadM s all e.source) e (by omega)
 have hs:=has_set hi (x:=markM (deadM s all e.source) e s.objects[i]) (mark_f _ e _).1 hs
 obtain ⟨j,hj,g1,g2,g3⟩:=has_idx hs
 rw [objM_13 hi h1 h2 h3 hh hk rfl hj g1 g2 g3]
 have hv:=isP_ct cards s e hc mc h
 rw [hev] at hv
 refine ct_of Tryz.func10 rfl (enters_of Tryz.func10 (by kernel_rfl) rfl) tabOk (by kernel_rfl) rfl rfl rfl rfl fun w0 O _=>Tp.run [3,4,6,8,10,15,23,25,26,27,28,29] ?_
 refine cI (copyP2_ct s h) ⟨fL s.enc,trivial⟩ (.inr rfl) ?_
 refine cI hv ⟨rfl,fL s.enc,fL e.enc,trivial⟩ (.inl rfl) ?_
 refine Tp.run [] ?_
 repeat' (first|refine cond_t (beq_t hk) ?_|refine cond_f (beq_f hk (by decide)) ?_)
 refine Tp.frz [513] (Tp.run [] ?_)
 refine cM [640] [(513,0)] (find_ctm s e.object i h.2.2.1 hi h3 (first_no h1)) ?_ ?_ ?_
 ·repeat' first|refine Ai ?_ ?_|exact rfl|exact trivial|exact Ei _ rfl|refine lN ?_|refine bS ?_|fail
 ·exact rfl
 refine Tp.run [] ?_
 refine cI (act_deadly s all e.source h ha ma) ⟨fL s.enc,rfl,rfl,trivial⟩ (.inl rfl) ?_
 refine cM [] [(513,0)] hmk ?_ ?_ ?_
 ·repeat' first|refine Ai ?_ ?_|exact rfl|exact trivial|exact Ei _ rfl|refine lN ?_|refine bS ?_|fail
 ·exact rfl
 refine Tp.run [] ?_
 refine cM [640] [(513,0)] (find_ctm { s with objects:=s.objects.set i (markM (deadM s all e.source) e s.objects[i]) } e.source j (by rw [List.length_set];exact h.2.2.1) hj g3 (first_no g1)) ?_ ?_ ?_
 ·repeat' first|refine Ai ?_ ?_|exact rfl|exact trivial|exact Ei _ rfl|refine lN ?_|refine bS ?_|fail
 ·exact rfl
 refine Tp.run [] ?_
 refine cond_t (beq_t hk) ?_
 refine Tp.run [] ?_
 refine Ei _ (Ai (map_get _ _ j hj) (Ai (Nb rfl) ?_))
 refine Tp.run [] ?_
 refine Ei [] (Ai rfl (Ai ?_ ?_))
 ·repeat' first|refine Ai ?_ ?_|exact rfl|exact trivial|exact Ei _ rfl|refine lN ?_|refine bS ?_|fail
 ·repeat' first|refine Ai ?_ ?_|exact rfl|exact trivial|exact Ei _ rfl|refine lN ?_|refine bS ?_|fail
  exact congrArg (Tr.sl 19) (ob_set1 _ j _ _ rfl).symm
theorem actdo_ot (cards:List GCard) (s:GState) (all:List GTraits) (e:GEvent) (hc:cards.length*176≤limB) (mc:∀ y∈cards,GCard.ok y) (h:s.ok) (hev:evP cards s e=true) (hk:e.kind=11∨e.kind=14∨e.kind=15):Ct Tryz.prog 10 [.c (.t (.sl 17 (cards.map GCard.enc))),.agg (s.enc.map .t),.c (.t (.sl 17 (all.map GTraits.enc))),.agg (e.enc.map .t)] (.agg (s.enc.map .t)) [] false:=by
 have hv:=isP_ct cards s e hc mc h
 rw [hev] at hv
 refine ct_of Tryz.func10 rfl (enters_of Tryz.func10 (by kernel_rfl) rfl) tabOk (by kernel_rfl) rfl rfl rfl rfl fun w0 O _=>Tp.run [3,4,6,8,10,15,23,25,26,27,28,29] ?_
 refine cI (copyP2_ct s h) ⟨fL s.enc,trivial⟩ (.inr rfl) ?_
 refine cI hv ⟨rfl,fL s.enc,fL e.enc,trivial⟩ (.inl rfl) ?_
 refine Tp.run [] ?_
 rcases hk with hk|hk|hk
 all_goals
  repeat' (first|refine cond_t (beq_t hk) ?_|refine cond_f (beq_f hk (by decide)) ?_)
  refine Tp.run [] ?_
  refine Ei [] (Ai rfl (Ai ?_ ?_))
  all_goals repeat' first|refine Ai ?_ ?_|exact rfl|exact trivial|exact Ei _ rfl|refine lN ?_|refine bS ?_|fail
theorem actdo_1n (cards:List GCard) (s:GState) (all:List GTraits) (e:GEvent) (hc:cards.length*176≤limB) (mc:∀ y∈cards,GCard.ok y) (h:s.ok) (hev:evP cards s e=true) (hk:e.kind=1) (hh:hasM s.objects e.object=false):Ct Tryz.prog 10 [.c (.t (.sl 17 (cards.map GCard.enc))),.agg (s.enc.map .t),.c (.t (.sl 17 (all.map GTraits.enc))),.agg (e.enc.map .t)] (.agg (s.enc.map .t)) [] false:=by
 have hv:=isP_ct cards s e hc mc h
 rw [hev] at hv
 refine ct_of Tryz.func10 rfl (enters_of Tryz.func10 (by kernel_rfl) rfl) tabOk (by kernel_rfl) rfl rfl rfl rfl fun w0 O _=>Tp.run [3,4,6,8,10,15,23,25,26,27,28,29] ?_
 refine cI (copyP2_ct s h) ⟨fL s.enc,trivial⟩ (.inr rfl) ?_
 refine cI hv ⟨rfl,fL s.enc,fL e.enc,trivial⟩ (.inl rfl) ?_
 refine Tp.run [] ?_
 repeat' (first|refine cond_t (beq_t hk) ?_|refine cond_f (beq_f hk (by decide)) ?_)
 refine Tp.frz [513] (Tp.run [] ?_)
 refine cM [640] [(513,0)] (findN_ctm s e.object h.2.2.1 (has_no hh)) ?_ ?_ ?_
 ·repeat' first|refine Ai ?_ ?_|exact rfl|exact trivial|exact Ei _ rfl|refine lN ?_|refine bS ?_|fail
 ·exact rfl
 by_cases hs:hasM s.objects e.source=true
 ·obtain ⟨j,hj,g1,g2,g3⟩:=has_idx hs
  refine Tp.run [] ?_
  refine cM [640] [(513,0)] (find_ctm s e.source j h.2.2.1 hj g3 (first_no g1)) ?_ ?_ ?_
  ·repeat' first|refine Ai ?_ ?_|exact rfl|exact trivial|exact Ei _ rfl|refine lN ?_|refine bS ?_|fail
  ·exact rfl
  refine Tp.run [] ?_
  refine cond_f (beq_f hk (by decide)) ?_
  refine Tp.run [] ?_
  refine Ei [] (Ai rfl (Ai ?_ ?_))
  all_goals repeat' first|refine Ai ?_ ?_|exact rfl|exact trivial|exact Ei _ rfl|refine lN ?_|refine bS ?_|fail
 ·have hs:hasM s.objects e.source=false:=by simpa using hs
  refine Tp.run [] ?_
  refine cM [640] [(513,0)] (findN_ctm s e.source h.2.2.1 (has_no hs)) ?_ ?_ ?_
  ·repeat' first|refine Ai ?_ ?_|exact rfl|exact trivial|exact Ei _ rfl|refine lN ?_|refine bS ?_|fail
  ·exact rfl
  refine Tp.run [] ?_
  refine cond_f (beq_f hk (by decide)) ?_
  refine Tp.run [] ?_
  refine Ei [] (Ai rfl (Ai ?_ ?_))
  all_goals repeat' first|refine Ai ?_ ?_|exact rfl|exact trivial|exact Ei _ rfl|refine lN ?_|refine bS ?_|fail
section
variable {q:Opq} {c:Int}
end


end Go.Proofs.YtmloamomcbmfhaaGreat
end
section
namespace Go.Proofs.YtmloamomcbmfhaaGreat
open Go Cg
section
inductive EvC (cards:List GCard) (s:GState) (e:GEvent):Prop where
 | mv:e.kind=2→hasM s.objects e.object=true→0≤e.to_∧e.to_≤4→0≤e.player∧e.player < s.players.length→EvC cards s e
 | cr:e.kind=10→livM s e.player=true→tokM cards e.card=true→amtM e.amount=true→EvC cards s e
 | dr:e.kind=3→livM s e.player=true→EvC cards s e
 | lf:(e.kind=4∨e.kind=5∨e.kind=16∨e.kind=17)→livM s e.player=true→(e.kind=17∨amtM e.amount=true)→EvC cards s e
 | ob:(e.kind=1∨e.kind=6∨e.kind=7∨e.kind=8∨e.kind=9∨e.kind=12∨e.kind=13)→hereM s e.object=true→(e.kind=1∨e.kind=8∨e.kind=9→amtM e.amount=true)→(e.kind=6→(findM s.objects e.object).tapped=false)→(e.kind=8∨e.kind=9→0≤e.counter∧e.counter < 3)→(e.kind=13→hereM s e.source=true)→EvC cards s e
 | no:e.kind=1→hasM s.objects e.object=false→EvC cards s e
 | ot:(e.kind=11∨e.kind=14∨e.kind=15)→EvC cards s e
variable {q:Opq} {s:GState}
theorem ev_cases {cards:List GCard} {e:GEvent} (h:Val q cards.length s) (hev:evM cards s e=true):EvC cards s e:=by
 unfold evM at hev
 by_cases k1:e.kind=1
 ·rw [if_pos k1,Bool.and_eq_true,Bool.or_eq_true,Bool.and_eq_true,beq_iff_eq] at hev
  rcases hev.2 with h1|h1
  ·exact .ob (by omega) h1 (fun _=>hev.1) (by omega) (by omega) (by omega)
  ·exact .no k1 (by rw [h1.1];exact zero_no h)
 rw [if_neg k1] at hev
 by_cases k2:e.kind=2
 ·rw [if_pos k2] at hev
  simp only [Bool.and_eq_true,beq_iff_eq,decide_eq_true_eq] at hev
  obtain ⟨a1,_,_,a2,a3,a4,a5⟩:=hev
  exact .mv k2 a1 ⟨a2,a3⟩ ⟨a4,a5⟩
 rw [if_neg k2] at hev
 by_cases k3:e.kind=3∨e.kind=14∨e.kind=15∨e.kind=17
 ·rw [if_pos k3] at hev
  by_cases k17:e.kind=17
  ·exact .lf (by omega) hev (.inl k17)
  by_cases k33:e.kind=3
  ·exact .dr k33 hev
  ·exact .ot (by omega)
 rw [if_neg k3] at hev
 by_cases k4:e.kind=4∨e.kind=5∨e.kind=16
 ·rw [if_pos k4,Bool.and_eq_true] at hev
  exact .lf (by omega) hev.1 (.inr hev.2)
 rw [if_neg k4] at hev
 by_cases k6:e.kind=6
 ·rw [if_pos k6,Bool.and_eq_true] at hev
  exact .ob (by omega) hev.1 (by omega) (fun _=>by simpa using hev.2) (by omega) (by omega)
 rw [if_neg k6] at hev
 by_cases k7:e.kind=7
 ·rw [if_pos k7,Bool.and_eq_true] at hev
  exact .ob (by omega) hev.1 (by omega) (by omega) (by omega) (by omega)
 rw [if_neg k7] at hev
 by_cases k8:e.kind=8∨e.kind=9
 ·rw [if_pos k8,Bool.and_eq_true,Bool.and_eq_true,Bool.and_eq_true,decide_eq_true_eq,decide_eq_true_eq] at hev
  exact .ob (by omega) hev.1 (fun _=>hev.2.2.2) (by omega) (fun _=>⟨hev.2.1,hev.2.2.1⟩) (by omega)
 rw [if_neg k8] at hev
 by_cases k10:e.kind=10
 ·rw [if_pos k10,Bool.and_eq_true,Bool.and_eq_true] at hev
  exact .cr k10 hev.1 hev.2.1 hev.2.2
 rw [if_neg k10] at hev
 by_cases k11:e.kind=11
 ·exact .ot (.inl k11)
 rw [if_neg k11] at hev
 by_cases k12:e.kind=12
 ·rw [if_pos k12,Bool.and_eq_true] at hev
  exact .ob (by omega) hev.1 (by omega) (by omega) (by omega) (by omega)
 rw [if_neg k12] at hev
 by_cases k13:e.kind=13
 ·rw [if_pos k13,Bool.and_eq_true] at hev
  exact .ob (by omega) hev.1 (by omega) (by omega) (by omega) (fun _=>hev.2)
 rw [if_neg k13] at hev
 cases hev
theorem do_no {cards:List GCard} {s:GState} {all:List GTraits} {e:GEvent} (h:evM cards s e=false):doR cards s all e=s:=by
 unfold doR
 rw [h]
 rfl
theorem do_2 {cards:List GCard} {s:GState} {all:List GTraits} {e:GEvent} (h:evM cards s e=true) (hk:e.kind=2):doR cards s all e=mvR s e:=by
 unfold doR
 rw [if_pos h,if_pos hk]
theorem do_3 {cards:List GCard} {s:GState} {all:List GTraits} {e:GEvent} (h:evM cards s e=true) (hk:e.kind=3):doR cards s all e=drawM s e.player:=by
 unfold doR restM
 rw [if_pos h,if_neg (by omega),if_pos hk]
theorem do_life {cards:List GCard} {s:GState} {all:List GTraits} {e:GEvent} (h:evM cards s e=true) (hk:e.kind=4∨e.kind=5∨e.kind=16∨e.kind=17):doR cards s all e=lifeM s e:=by
 unfold doR restM
 rw [if_pos h,if_neg (by omega),if_neg (by omega),if_pos hk]
theorem do_10 {cards:List GCard} {s:GState} {all:List GTraits} {e:GEvent} (h:evM cards s e=true) (hk:e.kind=10):doR cards s all e=mkM s e e.amount.toNat:=by
 unfold doR restM
 rw [if_pos h,if_neg (by omega),if_neg (by omega),if_neg (by omega),if_pos hk]
theorem do_obj {cards:List GCard} {s:GState} {all:List GTraits} {e:GEvent} (h:evM cards s e=true) (hk:e.kind=1∨e.kind=6∨e.kind=7∨e.kind=8∨e.kind=9∨e.kind=12∨e.kind=13):doR cards s all e=objM s all e:=by
 unfold doR restM
 rw [if_pos h,if_neg (by omega),if_neg (by omega),if_neg (by omega),if_neg (by omega),if_pos hk]
theorem do_ot {cards:List GCard} {s:GState} {all:List GTraits} {e:GEvent} (h:evM cards s e=true) (hk:e.kind=11∨e.kind=14∨e.kind=15):doR cards s all e=s:=by
 unfold doR restM
 rw [if_pos h,if_neg (by omega),if_neg (by omega),if_neg (by omega),if_neg (by omega),if_neg (by omega)]
def ownM (s:GState) (p:Int):Int:=((s.objects.countP (fun o=>o.owner==p&&!o.token):Nat):Int)
theorem bf_short {c:Int} (h:Val q c s):s.battlefield.length≤2048:=by
 have:=list_short h 0 0
 rwa [listM_bf] at this
theorem lib_has {c:Int} (h:Val q c s):∀ p∈s.players,∀ id∈p.library,hasM s.objects id=true:=fun p hp id hid=>by
 obtain ⟨i,hi,rfl⟩:=List.mem_iff_getElem.1 hp
 rw [← listM_lb hi] at hid
 obtain ⟨o,ho,e,_⟩:=h.lst _ _ _ hid
 exact hasM_iff.2 ⟨o,ho,e⟩
end
end Go.Proofs.YtmloamomcbmfhaaGreat
end
section
namespace Go.Proofs.YtmloamomcbmfhaaGreat
open Go Cg Go.RowKit Go.Sort
section
variable {q:Opq}
theorem val_mvh {c:Int} {s:GState} (h:Val q c s):MvH s:=by
 refine ⟨fun o ho=>?_,fun o ho=>?_,fun y hy=>(h.obj y hy).2.1⟩
 ·have:=(h.obj o ho).1
  unfold objOk at this
  simp only [Bool.and_eq_true,Bool.not_eq_true',decide_eq_false_iff_not] at this
  omega
 ·have:=(h.obj o ho).1
  unfold objOk at this
  simp only [Bool.and_eq_true,Bool.not_eq_true',decide_eq_false_iff_not] at this
  omega
structure DoH (q:Opq) (cards:List GCard) (s:GState) (all:List GTraits) (e:GEvent):Prop where
 hc:cards.length*176≤limB
 mc:∀ y∈cards,GCard.ok y
 h:s.ok
 ha:all.length*176≤limB
 ma:∀ y∈all,GTraits.ok y
 v:Val q cards.length s
 n:s.nextId≤100000∧s.nextStamp≤100000
 k:e.kind=10→e.amount≤100
theorem lib_le {c:Int} {s:GState} (h:Val q c s):∀ p∈s.players,p.library.length≤1099511627776:=fun p hp=>by
 have:=(ply_short h hp).1
 omega
theorem DoH.step {cards:List GCard} {s:GState} {all:List GTraits} {e:GEvent} (H:DoH q cards s all e):StepV q cards.length 100 s (doR cards s all e):=do_val H.v all e H.n H.k (lib_le H.v)
theorem DoH.ok {cards:List GCard} {s:GState} {all:List GTraits} {e:GEvent} (H:DoH q cards s all e):(doR cards s all e).ok:=ok_val H.h H.step.val (kp_do cards s all e)
theorem actdo {cards:List GCard} {s:GState} {all:List GTraits} {e:GEvent} (H:DoH q cards s all e):Ct Tryz.prog 10 [.c (.t (.sl 17 (cards.map GCard.enc))),.agg (s.enc.map .t),.c (.t (.sl 17 (all.map GTraits.enc))),.agg (e.enc.map .t)] (.agg ((doR cards s all e).enc.map .t)) [] false:=by
 obtain ⟨hc,mc,h,ha,ma,hv,hn,h10⟩:=H
 have hvp:=ev_eq (cards:=cards) (e:=e) (zero_no hv)
 cases hev:evM cards s e with
 | false=>rw [do_no hev];exact actdo_not cards s all e hc mc h (hvp.trans hev)
 | true=>
  have hevp:=hvp.trans hev
  have nn:=hv.nid
  have H:=val_mvh hv
  have hbf:=bf_short hv
  rcases ev_cases hv hev with ⟨hk,a1,a2,a3⟩|⟨hk,a1,a2,a3⟩|⟨hk,a1⟩|⟨hk,a1,_⟩|⟨hk,a1,_,_,_,a2⟩|⟨hk,a1⟩|hk
  ·rw [do_2 hev hk,← mvP_eq]
   exact actdo_2 cards s all e hc mc h hevp hk H a1 a2
  ·rw [do_10 hev hk]
   have:=h10 hk
   exact actdo_10 cards s all e hc mc h hevp hk H.lt (by omega) (by omega)
  ·rw [do_3 hev hk]
   exact actdo_3 cards s all e hc mc h hevp hk H a1 (lib_has hv)
  ·rw [do_life hev hk]
   exact actdo_life cards s all e hc mc h hevp hk a1 (lib_le hv)
  ·rw [do_obj hev hk]
   have hh:=(here_t a1).1
   by_cases k13:e.kind=13
   ·exact actdo_13 cards s all e hc mc h hevp k13 ha ma hh (here_t (a2 k13)).1
   ·exact actdo_ob cards s all e hc mc h hevp (by omega) ha ma hh
  ·rw [do_obj hev (.inl hk)]
   have ho:objM s all e=s:=by
    unfold objM
    rw [if_neg (by rw [a1];decide)]
   rw [ho]
   exact actdo_1n cards s all e hc mc h hevp hk a1
  ·rw [do_ot hev hk]
   exact actdo_ot cards s all e hc mc h hevp hk
end
theorem newS_ok (n:Int):(newS n).ok:=by
 refine ⟨?_,fun y hy=>?_,?_,fun y hy=>(by cases hy),?_,?_,?_,fun y hy=>(by cases hy),?_,fun y hy=>(by cases hy),?_,fun y hy=>(by cases hy),?_⟩
 ·show 304≤limB
  unfold limB
  omega
 ·have:y=p20:=by simpa [newS] using hy
  rw [this]
  exact ⟨Nat.zero_le _,Nat.zero_le _,Nat.zero_le _⟩
 all_goals exact Nat.zero_le _
theorem newS_val (q:Opq) (c:Int) (n:Int):Val q c (newS n):=val_of (by rfl)
def evA (k p n:Int):GEvent:=⟨k,0,0,p,n,0,0,0,0,0,false,false,0,0,0⟩
theorem doH_new (k p n:Int) (hk:¬ k=10):DoH opq [] (newS 7) [] (evA k p n):=⟨Nat.zero_le _,fun y hy=>(by cases hy),newS_ok 7,Nat.zero_le _,fun y hy=>(by cases hy),newS_val _ _ 7,by decide,fun h=>absurd h hk⟩
theorem do_d:doR [] (newS 7) [] (evA 3 1 1)={ newS 7 with players:=[p20,{ p20 with failed:=true }] }:=by rfl
theorem do_g:doR [] (newS 7) [] (evA 4 0 3)={ newS 7 with players:=[{ p20 with life:=23 },p20] }:=by rfl
theorem do_n:doR [] (newS 7) [] (evA 4 2 3)=newS 7:=by rfl
theorem alive33:Ct Tryz.prog 8 [] (AV.b true) [] true:=by
 refine Ct.lit (b:=false) ?_ rfl
 have h1:=actdo (doH_new 3 1 1 (by decide))
 have h2:=actdo (doH_new 4 0 3 (by decide))
 have h3:=actdo (doH_new 4 2 3 (by decide))
 rw [do_d] at h1
 rw [do_g] at h2
 rw [do_n] at h3
 have h4:=r26sameR (newS 7) (newS_ok 7)
 have h5:Ct Tryz.prog 18 [.agg ((newS 7).enc.map .t),.agg (({ newS 7 with players:=[p20,{ p20 with failed:=true }] }:GState).enc.map .t)] (.c (.t (.sl 1 []))) [] false:=entered_ct (newS 7) { newS 7 with players:=[p20,{ p20 with failed:=true }] } (Nat.zero_le _) (Nat.zero_le _)
 refine ct_of Tryz.func8 rfl (enters_of Tryz.func8 (by kernel_rfl) rfl) tabOk (by kernel_rfl) rfl rfl rfl rfl fun w0 O _=>Tp.run [2,3,4,5] ?_
 refine cI (r26new 7) ⟨rfl,rfl,rfl,trivial⟩ (.inr rfl) ?_
 refine Tp.run [] ?_
 refine cI h1 ⟨⟨17,rfl⟩,fL (newS 7).enc,⟨17,rfl⟩,?_,trivial⟩ (.inr rfl) ?_
 ·repeat' first|refine Ai ?_ ?_|exact rfl|exact trivial|exact Ei _ rfl|refine lN ?_|refine bS ?_|fail
 refine Tp.run [] ?_
 refine cI h2 ⟨⟨17,rfl⟩,fL (newS 7).enc,⟨17,rfl⟩,?_,trivial⟩ (.inr rfl) ?_
 ·repeat' first|refine Ai ?_ ?_|exact rfl|exact trivial|exact Ei _ rfl|refine lN ?_|refine bS ?_|fail
 refine Tp.run [] ?_
 refine cI h3 ⟨⟨17,rfl⟩,fL (newS 7).enc,⟨17,rfl⟩,?_,trivial⟩ (.inr rfl) ?_
 ·repeat' first|refine Ai ?_ ?_|exact rfl|exact trivial|exact Ei _ rfl|refine lN ?_|refine bS ?_|fail
 refine Tp.run [] ?_
 refine Ei 1 (Ei _ (Ai rfl (Ai rfl ?_)))
 refine Ei 0 (Ei _ (Ai rfl (Ai rfl ?_)))
 refine Ei 1 (Ei _ (Ai rfl (Ai rfl ?_)))
 refine Ei 0 (Ei _ (Ai rfl (Ai rfl ?_)))
 refine cI h4 ⟨fL (newS 7).enc,fL (newS 7).enc,trivial⟩ (.inl rfl) ?_
 refine cI h5 ⟨fL (newS 7).enc,?_,trivial⟩ (.inr rfl) ?_
 ·repeat' first|refine Ai ?_ ?_|exact rfl|exact trivial|exact Ei _ rfl|refine lN ?_|refine bS ?_|fail
 refine Ei [] (Ai rfl (Ai ?_ ?_))
 all_goals repeat' first|refine Ai ?_ ?_|exact rfl|exact trivial|exact Ei _ rfl|refine lN ?_|refine bS ?_|fail
end Go.Proofs.YtmloamomcbmfhaaGreat
end
section
namespace Cg
open Go Go.RowKit
structure GAsk where
 cards:List GCard
 s:GState
 all:List GTraits
 e:GEvent
def GAsk.enc (x:GAsk):List Tr:=[.sl 17 (x.cards.map GCard.enc),.sl 14 (x.s.players.map GPlayer.enc),.sl 19 (x.s.objects.map GObject.enc),.sl 1 (x.s.battlefield.map eI),.sl 1 (x.s.exile.map eI),.sl 94 (x.s.stack.map GItem.enc),.sl 89 (x.s.waiting.map GWaiting.enc),.sl 6 (x.s.conts.map GCont.enc),iv x.s.turn,iv x.s.active,iv x.s.step,bv x.s.begun,iv x.s.priority,iv x.s.passes,iv x.s.nextId,iv x.s.nextStamp,.lit (.int .u64 x.s.seed),.sl 1 (x.s.extra.map eI),iv x.s.over,iv x.s.winner,.sl 17 (x.all.map GTraits.enc),iv x.e.kind,iv x.e.source,iv x.e.object,iv x.e.player,iv x.e.amount,iv x.e.from_,iv x.e.to_,iv x.e.cause,iv x.e.counter,iv x.e.card,bv x.e.combat,bv x.e.tapped,iv x.e.extra0,iv x.e.extra1,iv x.e.extra2]
def GAsk.ks:List K:=[.sl GCard.ks 176]++(GState.ks++([.sl GTraits.ks 176]++(GEvent.ks)))
def GAsk.ok (x:GAsk):Prop:=(x.cards.length*176≤limB)∧(∀ y∈x.cards,GCard.ok y)∧(x.s.ok)∧(x.all.length*176≤limB)∧(∀ y∈x.all,GTraits.ok y)∧(x.e.ok)
theorem GAsk.of_fit (ts:List Tr) (h:FitS GAsk.ks ts):∃ x:GAsk,x.ok∧ts=x.enc:=by
 unfold GAsk.ks at h
 obtain ⟨_,_,rfl,g0,h1⟩:=fitS_append.1 h
 obtain ⟨_,_,rfl,k1,q1⟩:=fitS_cons.1 g0
 obtain ⟨_,rfl,hb1,hc1⟩:=fitK_sl.1 k1
 obtain ⟨l1,rfl,ho1⟩:=fitS_list GCard.of_fit hc1
 rw [Lm] at hb1
 obtain rfl:=fitS_nil.1 q1
 obtain ⟨_,_,rfl,g1,h2⟩:=fitS_append.1 h1
 obtain ⟨y1,oy1,rfl⟩:=GState.of_fit _ g1
 obtain ⟨_,_,rfl,g2,h3⟩:=fitS_append.1 h2
 obtain ⟨_,_,rfl,k2,q2⟩:=fitS_cons.1 g2
 obtain ⟨_,rfl,hb2,hc2⟩:=fitK_sl.1 k2
 obtain ⟨l2,rfl,ho2⟩:=fitS_list GTraits.of_fit hc2
 rw [Lm] at hb2
 obtain rfl:=fitS_nil.1 q2
 obtain ⟨y3,oy3,rfl⟩:=GEvent.of_fit _ h3
 exact ⟨⟨l1,y1,l2,y3⟩,⟨hb1,ho1,oy1,hb2,ho2,oy3⟩,rfl⟩
end Cg
end
section
namespace Go.Proofs.YtmloamomcbmfhaaGreat
open Go Cg Go.RowKit Go.Shelf
theorem r26small (a:GState) (ha:a.ok):∃ r:Bool,(r=true→SmallS a)∧Ct Tryz.prog 15 [.agg (a.enc.map .t)] (AV.b r) [] true:=by
 have ha_:=ha
 obtain ⟨oa0,oa1,oa2,oa3,oa4,oa5,oa6,oa7,oa8,oa9,oa10,oa11,oa12⟩:=ha_
 refine ct_x (Φ:=fun (r:Bool)=>r=true→SmallS a) lit_b (ctx_of Tryz.func15 rfl (enters_of Tryz.func15 (by kernel_rfl) rfl) tabOk (by kernel_rfl) rfl rfl (TpX.runY [] [6] ?_))
 repeat' (first|(apply ix_k;(first|assumption|omega|(simp only [IntKind.wrap_i64,IntKind.wrap_u64,List.length_cons,List.length_nil];omega)|(simp only [Lm] at *;omega)|decide);(first|assumption|omega|(simp only [IntKind.wrap_i64,IntKind.wrap_u64,List.length_cons,List.length_nil];omega)|(simp only [Lm] at *;omega)|decide);intro _)|(apply cond_p <;> intro _)|(apply leaf_x;exact Ei [] (Ai rfl (Ai trivial rfl));exact (by first|(intro hh;cases hh;done)|exact fun _=>SmE.fin ‹_› ‹_› ‹_›);rfl)|(apply cut_at 6 rfl;refine TpX.cut (α:=Int) 6 (fun p=>[(3,AV.i p)]) (fun (p:Int)=>SmE a p) [1] [0] 200000 rfl ?_;refine Ai (TpX.runY [] [6] ?_) (fun _ _=>TpX.runY [] [6] ?_))|(apply lp_at 3 rfl;refine LpX.up (β:=Int) 3 4 ((((a.players.map GPlayer.enc).length:Nat):Int)) (by first|omega|exact len62 (by first|assumption|exact okmr ‹_› ‹_› | exact okmg _ ‹_› | exact GPlayer.ok_library (okmg _ ‹_›)|exact GPlayer.ok_hand (okmg _ ‹_›)|exact GPlayer.ok_graveyard (okmg _ ‹_›)|exact GItem.ok_ability (okmg _ ‹_›)|exact GWaiting.ok_ability (okmg _ ‹_›)|exact GCont.ok_mods (okmg _ ‹_›)|exact GCont.okm_mods (okmg _ ‹_›)|exact (fun _ _=>trivial)) rfl) (by omega) (fun p=>[(3,AV.i p)]) (fun i (p:Int)=>SmI a i p) [1] [0] 300000 rfl ?_;refine Ai ?_ (fun _ _ _ _ _=>TpX.runY [] [6] ?_))|(apply lp_at 9 rfl;refine LpX.up (β:=Unit) 9 5 ((((a.stack.map GItem.enc).length:Nat):Int)) (by first|omega|exact len62 (by first|assumption|exact okmr ‹_› ‹_› | exact okmg _ ‹_› | exact GPlayer.ok_library (okmg _ ‹_›)|exact GPlayer.ok_hand (okmg _ ‹_›)|exact GPlayer.ok_graveyard (okmg _ ‹_›)|exact GItem.ok_ability (okmg _ ‹_›)|exact GWaiting.ok_ability (okmg _ ‹_›)|exact GCont.ok_mods (okmg _ ‹_›)|exact GCont.okm_mods (okmg _ ‹_›)|exact (fun _ _=>trivial)) rfl) (by omega) (fun _=>[]) (fun _ _=>True) [1] [0] 400000 rfl ?_;refine Ai ?_ (fun _ _ _ _ _=>TpX.runY [] [6] ?_))|(apply lp_at 14 rfl;refine LpX.up (β:=Unit) 14 6 ((((a.waiting.map GWaiting.enc).length:Nat):Int)) (by first|omega|exact len62 (by first|assumption|exact okmr ‹_› ‹_› | exact okmg _ ‹_› | exact GPlayer.ok_library (okmg _ ‹_›)|exact GPlayer.ok_hand (okmg _ ‹_›)|exact GPlayer.ok_graveyard (okmg _ ‹_›)|exact GItem.ok_ability (okmg _ ‹_›)|exact GWaiting.ok_ability (okmg _ ‹_›)|exact GCont.ok_mods (okmg _ ‹_›)|exact GCont.okm_mods (okmg _ ‹_›)|exact (fun _ _=>trivial)) rfl) (by omega) (fun _=>[]) (fun _ _=>True) [1] [0] 500000 rfl ?_;refine Ai ?_ (fun _ _ _ _ _=>TpX.runY [] [6] ?_))|(apply lp_at 19 rfl;refine LpX.up (β:=Unit) 19 7 ((((a.conts.map GCont.enc).length:Nat):Int)) (by first|omega|exact len62 (by first|assumption|exact okmr ‹_› ‹_› | exact okmg _ ‹_› | exact GPlayer.ok_library (okmg _ ‹_›)|exact GPlayer.ok_hand (okmg _ ‹_›)|exact GPlayer.ok_graveyard (okmg _ ‹_›)|exact GItem.ok_ability (okmg _ ‹_›)|exact GWaiting.ok_ability (okmg _ ‹_›)|exact GCont.ok_mods (okmg _ ‹_›)|exact GCont.okm_mods (okmg _ ‹_›)|exact (fun _ _=>trivial)) rfl) (by omega) (fun _=>[]) (fun _ _=>True) [1] [0] 600000 rfl ?_;refine Ai ?_ (fun _ _ _ _ _=>TpX.runY [] [6] ?_))|exact Ei () (Ai (by first|exact True.intro|exact SmE.a (f:=GPlayer.enc) ‹_› ‹_› | exact SmE.b ‹_› ‹_› | exact SmI.zero ‹_› | exact SmI.step ‹_› ‹_› ‹_› ‹_› ‹_›) (wk_slim rfl rfl rfl rfl))|exact Ei _ (Ai (by first|exact True.intro|exact SmE.a (f:=GPlayer.enc) ‹_› ‹_› | exact SmE.b ‹_› ‹_› | exact SmI.zero ‹_› | exact SmI.step ‹_› ‹_› ‹_› ‹_› ‹_›) (wk_slim rfl rfl rfl rfl))|exact Ai (by first|assumption|omega) (Ei _ (Ai (by first|exact True.intro|exact SmE.a (f:=GPlayer.enc) ‹_› ‹_› | exact SmE.b ‹_› ‹_› | exact SmI.zero ‹_› | exact SmI.step ‹_› ‹_› ‹_› ‹_› ‹_›) (wk_slim rfl rfl rfl rfl)))|fail)
 ·refine call_x (r20light _ (GItem.ok_ability (okmg ‹_› oa7))) ⟨fL (GAbility.enc _),trivial⟩ (.inl rfl) (fun _ _=>?_)
  repeat' (first|apply cond_n|(apply cS <;> intro _)|(apply leaf_x;exact Ei [] (Ai rfl (Ai trivial rfl));exact (by first|(intro hh;cases hh;done)|exact fun _=>SmE.fin ‹_› ‹_› ‹_›);rfl)|exact Ai (by first|assumption|omega) (Ei () (Ai (by first|exact True.intro|exact SmE.a (f:=GPlayer.enc) ‹_› ‹_› | exact SmE.b ‹_› ‹_› | exact SmI.zero ‹_› | exact SmI.step ‹_› ‹_› ‹_› ‹_› ‹_›) (wk_slim rfl rfl rfl rfl)))|fail)
 ·refine call_x (r20light _ (GWaiting.ok_ability (okmg ‹_› oa9))) ⟨fL (GAbility.enc _),trivial⟩ (.inl rfl) (fun _ _=>?_)
  repeat' (first|apply cond_n|(apply cS <;> intro _)|(apply leaf_x;exact Ei [] (Ai rfl (Ai trivial rfl));exact (by first|(intro hh;cases hh;done)|exact fun _=>SmE.fin ‹_› ‹_› ‹_›);rfl)|exact Ai (by first|assumption|omega) (Ei () (Ai (by first|exact True.intro|exact SmE.a (f:=GPlayer.enc) ‹_› ‹_› | exact SmE.b ‹_› ‹_› | exact SmI.zero ‹_› | exact SmI.step ‹_› ‹_› ‹_› ‹_› ‹_›) (wk_slim rfl rfl rfl rfl)))|fail)
 ·refine call_x (r20light _ (zab_ok (GCont.ok_mods (okmg ‹_› oa11)) (GCont.okm_mods (okmg ‹_› oa11)))) ⟨zab_fit _,trivial⟩ (.inl rfl) (fun _ _=>?_)
  repeat' (first|apply cond_n|(apply cS <;> intro _)|(apply leaf_x;exact Ei [] (Ai rfl (Ai trivial rfl));exact (by first|(intro hh;cases hh;done)|exact fun _=>SmE.fin ‹_› ‹_› ‹_›);rfl)|exact Ai (by first|assumption|omega) (Ei () (Ai (by first|exact True.intro|exact SmE.a (f:=GPlayer.enc) ‹_› ‹_› | exact SmE.b ‹_› ‹_› | exact SmI.zero ‹_› | exact SmI.step ‹_› ‹_› ‹_› ‹_› ‹_›) (wk_slim rfl rfl rfl rfl)))|fail)
structure FitQ (a:GAsk):Prop where
 cl:a.cards.length≤20
 al:a.all.length≤300
 sm:SmallS a.s
 ni:a.s.nextId≤100000
 ns:a.s.nextStamp≤100000
 is:isM opq ((a.cards.length:Nat):Int) a.s=true
theorem has_up {l:List GObject} {b i:Int} {f:GObject→List Tr} (h:Up (fun _ (y:GObject)=>!(y.id==b)) l i) (h1:¬ i < (((l.map f).length:Nat):Int)):hasM l b=false:=by
 rw [Lm] at h1
 have h2:=h.all' h1
 cases hc:hasM l b with
 | false=>rfl
 | true=>
  obtain ⟨o,ho,e⟩:=hasM_iff.1 hc
  have:=List.all_eq_true.1 h2 o ho
  simp [e] at this
theorem fit_of {a:GAsk} {f:GCard→List Tr} {g:GTraits→List Tr} {r:Bool} (h1:¬ (((a.cards.map f).length:Nat):Int) > 20) (h2:¬ (((a.all.map g).length:Nat):Int) > 300) (h3:r=true→SmallS a.s) (hr:r=true) (h4:¬ a.s.nextId > 100000) (h5:¬ a.s.nextStamp > 100000) (h6:isM opq ((a.cards.length:Nat):Int) a.s=true):FitQ a:=by
 rw [Lm] at h1 h2
 exact ⟨by omega,by omega,h3 hr,by omega,by omega,h6⟩
theorem fits33 (a:GAsk) (ha:a.ok):∃ r:Bool,(r=true→FitQ a)∧Ct Tryz.prog 7 [.agg (a.enc.map .t)] (AV.b r) [] true:=by
 have ha_:=ha
 obtain ⟨oa0,oa1,oa2,oa3,oa4,oa5⟩:=ha_
 refine ct_x (Φ:=fun (r:Bool)=>r=true→FitQ a) lit_b (ctx_of Tryz.func7 rfl (enters_of Tryz.func7 (by kernel_rfl) rfl) tabOk (by kernel_rfl) rfl rfl (TpX.runY [] [] ?_))
 repeat' (first|(apply cond_p <;> intro _)|apply cond_n|(apply cS <;> intro _)|(apply leaf_x;exact Ei [] (Ai rfl (Ai trivial rfl));exact (by first|(intro hh;cases hh;done)|exact fun hh=>fit_of ‹_› ‹_› ‹_› ‹_› ‹_› ‹_› hh);rfl)|(apply call_f 15;refine call_x (r26small _ (by first|assumption|exact okmr ‹_› ‹_› | exact okmg _ ‹_› | exact GAsk.ok_s ‹_› | exact GAsk.ok_cards ‹_› | exact GAsk.okm_cards ‹_›)) ⟨fL (GState.enc _),trivial⟩ (.inl rfl) (fun _ _=>?_))|(apply call_f 16;refine call_x (r22check _ (by first|assumption|exact okmr ‹_› ‹_› | exact okmg _ ‹_› | exact GAsk.ok_s ‹_› | exact GAsk.ok_cards ‹_› | exact GAsk.okm_cards ‹_›) (by first|assumption|exact okmr ‹_› ‹_› | exact okmg _ ‹_› | exact GAsk.ok_s ‹_› | exact GAsk.ok_cards ‹_› | exact GAsk.okm_cards ‹_›)) ⟨rfl,trivial⟩ (.inl rfl) (fun _ _=>?_))|(apply call_f 12;refine cI (r26is _ _ (by first|assumption|exact okmr ‹_› ‹_› | exact okmg _ ‹_› | exact GAsk.ok_s ‹_› | exact GAsk.ok_cards ‹_› | exact GAsk.okm_cards ‹_›) (by first|assumption|exact okmr ‹_› ‹_› | exact okmg _ ‹_› | exact GAsk.ok_s ‹_› | exact GAsk.ok_cards ‹_› | exact GAsk.okm_cards ‹_›) (by first|assumption|exact okmr ‹_› ‹_› | exact okmg _ ‹_› | exact GAsk.ok_s ‹_› | exact GAsk.ok_cards ‹_› | exact GAsk.okm_cards ‹_›)) ⟨rfl,fL (GState.enc _),trivial⟩ (.inl rfl) ?_)|fail)
theorem owned33_ (a:GState) (b:Int) (ha:a.ok):∃ r:Int,(r=(ownM a b))∧Ct Tryz.prog 13 [.agg (a.enc.map .t),.c (.t (iv b))] (AV.i r) [] true:=by
 have ha_:=ha
 obtain ⟨oa0,oa1,oa2,oa3,oa4,oa5,oa6,oa7,oa8,oa9,oa10,oa11,oa12⟩:=ha_
 refine ct_x (Φ:=fun (r:Int)=>r=(ownM a b)) lit_i (ctx_of Tryz.func13 rfl (enters_of Tryz.func13 (by kernel_rfl) rfl) tabOk (by kernel_rfl) rfl rfl (TpX.runY [] [] ?_))
 repeat' (first|(apply ix_k;(first|assumption|omega|(simp only [IntKind.wrap_i64,IntKind.wrap_u64,List.length_cons,List.length_nil];omega)|(simp only [Lm] at *;omega)|decide);(first|assumption|omega|(simp only [IntKind.wrap_i64,IntKind.wrap_u64,List.length_cons,List.length_nil];omega)|(simp only [Lm] at *;omega)|decide);intro _)|(apply cond_p <;> intro _)|apply cond_n|(apply cS <;> intro _)|(apply leaf_x;exact Ei [] (Ai rfl (Ai trivial rfl));exact (cntP_end ‹_› ‹_›);rfl)|(apply lp_at 3 rfl;refine LpX.up (β:=Int) 3 11 ((((a.objects.map GObject.enc).length:Nat):Int)) (by first|omega|exact len62 (by first|assumption|exact okmr ‹_› ‹_› | exact okmg _ ‹_›) rfl) (by omega) (fun p=>[(5,AV.i p)]) (fun i (p:Int)=>p=((a.objects.take i.toNat).countP (fun o=>o.owner==b&&!o.token):Nat)∧p≤i) [1,9,10] [] 200000 rfl ?_;refine Ai ?_ (fun _ _ _ _ _=>TpX.runY [] [] ?_))|exact Ei _ (Ai (by first|exact ⟨rfl,Int.le_refl 0⟩|exact cntP_up1 ‹_› ‹_› oa2 rfl ‹_› ‹_› (by simp [*])|exact cntP_up0 ‹_› ‹_› ‹_› (by simp [*])) (wk_slim rfl rfl rfl rfl))|exact Ai (by first|assumption|omega) (Ei _ (Ai (by first|exact ⟨rfl,Int.le_refl 0⟩|exact cntP_up1 ‹_› ‹_› oa2 rfl ‹_› ‹_› (by simp [*])|exact cntP_up0 ‹_› ‹_› ‹_› (by simp [*])) (wk_slim rfl rfl rfl rfl)))|fail)
theorem owned33 (a:GState) (b:Int) (ha:a.ok):Ct Tryz.prog 13 [.agg (a.enc.map .t),.c (.t (iv b))] (AV.i (ownM a b)) [] true:=by
 obtain ⟨r,hr,h⟩:=owned33_ a b ha
 rw [hr] at h
 exact h
theorem has33_ (a:GState) (b:Int) (ha:a.ok):∃ r:Bool,(r=(hasM a.objects b))∧Ct Tryz.prog 14 [.agg (a.enc.map .t),.c (.t (iv b))] (AV.b r) [] true:=by
 have ha_:=ha
 obtain ⟨oa0,oa1,oa2,oa3,oa4,oa5,oa6,oa7,oa8,oa9,oa10,oa11,oa12⟩:=ha_
 refine ct_x (Φ:=fun (r:Bool)=>r=(hasM a.objects b)) lit_b (ctx_of Tryz.func14 rfl (enters_of Tryz.func14 (by kernel_rfl) rfl) tabOk (by kernel_rfl) rfl rfl (TpX.runY [] [] ?_))
 repeat' (first|(apply ix_k;(first|assumption|omega|(simp only [IntKind.wrap_i64,IntKind.wrap_u64,List.length_cons,List.length_nil];omega)|(simp only [Lm] at *;omega)|decide);(first|assumption|omega|(simp only [IntKind.wrap_i64,IntKind.wrap_u64,List.length_cons,List.length_nil];omega)|(simp only [Lm] at *;omega)|decide);intro _)|(apply cond_p <;> intro _)|(apply leaf_x;exact Ei [] (Ai rfl (Ai trivial rfl));exact (by first|exact (hasM_iff.2 ⟨_,List.getElem_mem ‹_›,by assumption⟩).symm|exact (has_up ‹_› ‹_›).symm);rfl)|(apply lp_at 2 rfl;refine LpX.up (β:=Unit) 2 10 ((((a.objects.map GObject.enc).length:Nat):Int)) (by first|omega|exact len62 (by first|assumption|exact okmr ‹_› ‹_› | exact okmg _ ‹_›) rfl) (by omega) (fun _=>[]) (fun i _=>Up (fun _ (y:GObject)=>!(y.id==b)) a.objects i) [1,8,9] [] 200000 rfl ?_;refine Ai ?_ (fun _ _ _ _ _=>TpX.runY [] [] ?_))|exact Ei () (Ai (by first|exact Up.zero|exact Up.step ‹_› ‹_› ‹_› (by simp [*])) (wk_slim rfl rfl rfl rfl))|exact Ai (by first|assumption|omega) (Ei () (Ai (by first|exact Up.zero|exact Up.step ‹_› ‹_› ‹_› (by simp [*])) (wk_slim rfl rfl rfl rfl)))|fail)
theorem has33 (a:GState) (b:Int) (ha:a.ok):Ct Tryz.prog 14 [.agg (a.enc.map .t),.c (.t (iv b))] (AV.b (hasM a.objects b)) [] true:=by
 obtain ⟨r,hr,h⟩:=has33_ a b ha
 rw [hr] at h
 exact h
end Go.Proofs.YtmloamomcbmfhaaGreat
end
section
namespace Go.Proofs.YtmloamomcbmfhaaGreat
open Go Cg Go.RowKit Go.Sort
theorem fit_doH {a:GAsk} (h:a.ok) (hf:FitQ a) (hk:a.e.kind=10→a.e.amount≤100):DoH opq a.cards a.s a.all a.e:=⟨h.1,h.2.1,h.2.2.1,h.2.2.2.1,h.2.2.2.2.1,val_of hf.is,⟨hf.ni,hf.ns⟩,hk⟩
theorem actValid_ct (a:GAsk) (h:a.ok):Ct Tryz.prog 4 [.agg (a.enc.map .t)] (AV.b true) [] true:=by
 refine Ct.lit (b:=false) ?_ rfl
 obtain ⟨r,hr,hfit⟩:=fits33 a h
 cases r with
 | false=>
  refine ct_of Tryz.func4 rfl (enters_of Tryz.func4 (by kernel_rfl) rfl) tabOk (by kernel_rfl) rfl rfl rfl rfl fun w0 O _=>Tp.run [2,3] ?_
  refine cI hfit ⟨fL a.enc,trivial⟩ (.inl rfl) ?_
  refine Tp.run [] ?_
  refine cI alive33 trivial (.inl rfl) ?_
  refine Ei [] (Ai rfl (Ai ?_ ?_))
  all_goals repeat' first|refine Ai ?_ ?_|exact rfl|exact trivial|exact Ei _ rfl|refine lN ?_|refine bS ?_|fail
 | true=>
  by_cases hb:a.e.kind=10∧a.e.amount > 100
  ·refine ct_of Tryz.func4 rfl (enters_of Tryz.func4 (by kernel_rfl) rfl) tabOk (by kernel_rfl) rfl rfl rfl rfl fun w0 O _=>Tp.run [2,3] ?_
   refine cI hfit ⟨fL a.enc,trivial⟩ (.inl rfl) ?_
   refine cond_t (beq_t hb.1) ?_
   refine cond_t (decide_eq_true hb.2) ?_
   refine Tp.run [] ?_
   refine cI alive33 trivial (.inl rfl) ?_
   refine Ei [] (Ai rfl (Ai ?_ ?_))
   all_goals repeat' first|refine Ai ?_ ?_|exact rfl|exact trivial|exact Ei _ rfl|refine lN ?_|refine bS ?_|fail
  ·have H:=fit_doH h (hr rfl) fun hk=>by have:¬ a.e.amount > 100:=fun hx=>hb ⟨hk,hx⟩;omega
   have h1:=actdo H
   have h2:=r26is a.cards (doR a.cards a.s a.all a.e) h.1 h.2.1 H.ok
   rw [val_to H.step.val] at h2
   generalize doR a.cards a.s a.all a.e=t at h1 h2
   refine ct_of Tryz.func4 rfl (enters_of Tryz.func4 (by kernel_rfl) rfl) tabOk (by kernel_rfl) rfl rfl rfl rfl fun w0 O _=>Tp.run [2,3] ?_
   refine cI hfit ⟨fL a.enc,trivial⟩ (.inl rfl) ?_
   refine cS (fun hk=>?_) (fun hk=>?_)
   ·refine cond_f (decide_eq_false fun hx=>hb ⟨by simpa using hk,hx⟩) ?_
    refine Tp.run [] ?_
    refine cI h1 ⟨rfl,fL a.s.enc,rfl,fL a.e.enc,trivial⟩ (.inr rfl) ?_
    refine cI h2 ⟨rfl,fL t.enc,trivial⟩ (.inl rfl) ?_
    refine cI alive33 trivial (.inl rfl) ?_
    refine Ei [] (Ai rfl (Ai ?_ ?_))
    all_goals repeat' first|refine Ai ?_ ?_|exact rfl|exact trivial|exact Ei _ rfl|refine lN ?_|refine bS ?_|fail
   ·refine Tp.run [] ?_
    refine cI h1 ⟨rfl,fL a.s.enc,rfl,fL a.e.enc,trivial⟩ (.inr rfl) ?_
    refine cI h2 ⟨rfl,fL t.enc,trivial⟩ (.inl rfl) ?_
    refine cI alive33 trivial (.inl rfl) ?_
    refine Ei [] (Ai rfl (Ai ?_ ?_))
    all_goals repeat' first|refine Ai ?_ ?_|exact rfl|exact trivial|exact Ei _ rfl|refine lN ?_|refine bS ?_|fail
end Go.Proofs.YtmloamomcbmfhaaGreat
end
section
namespace Go.Proofs.YtmloamomcbmfhaaGreat
open Go Go.ChangeShapes Go.WideShapes Go.ChangeAt Go.RowKit Go.Sort Cg
section
theorem own:ownKnob Tryz.prog.godebug=none:=by kernel_rfl
theorem laidOut:laidOutB Tryz.prog=true:=by kernel_rfl
theorem arg_of {H:Type} {enc:TypeId × Value→H} {W:World} {v:Value} {d:DataW H} {ps:List MemPlace} {r:Reach} {b0:Nat} {t:TypeId} {ks:List K} (hu:∃ fs,Tryz.prog.underlying t=some (.struct fs)) (hs:shapeOf Tryz.prog 12 t=some ks) (hv:Value.okWide Tryz.prog W r b0 t v)
  (h:DataW.Trod enc Tryz.prog W 0 (fun _=>true) true t v d ps) (hw:wok Tryz.prog t d):∃ cs es,v=.agg cs.toArray∧RdL (fun _=>True) reachBytes W ks cs es:=by
 obtain ⟨fs,hu⟩:=hu
 unfold Value.okWide at hv
 rw [hu] at hv
 obtain ⟨cs,rfl,_,_⟩:=hv
 obtain ⟨fuel,hf⟩:=h
 obtain ⟨es,he⟩:=rd_of 12 t ks hs fuel cs.toList (d,ps) hf hw
 exact ⟨cs.toList,es,rfl,he⟩
open Classical in
noncomputable def envOf (F:Nat→Prop):Env:=⟨fun b=>if F b then .cold else .non,fun _=>0,fun _ _=>undef⟩
theorem envOf_cold {F:Nat→Prop} {b:Nat}:(envOf F).rl b=.cold↔F b:=by
 unfold envOf
 simp only
 split
 ·simp_all
 ·simp_all
theorem envOf_F (F:Nat→Prop):(envOf F).F=F:=funext fun _=>propext envOf_cold
theorem rtl_env {F:Nat→Prop} {w:World} {vs:List Value} {ts:List Tr} (h:RTL F w vs ts):A2 (RC (envOf F) w) vs (ts.map .t):=rtl_a2 (by rw [envOf_F];exact h)
theorem ag_env {F:Nat→Prop} {w:World} {cs:List Value} {ts:List Tr} (h:RTL F w cs ts):R1 (envOf F) w (.agg cs.toArray) (.agg (ts.map .t)):=⟨cs,rfl,rtl_env h⟩
theorem bool_arg {E0:Env} {w:World} {v:Value} {b:Bool} (h:R1 E0 w v (AV.b b)):v=.bool b:=by
 have h:RT E0.F w v (.lit (.bool b)):=h
 cases h
 rfl
theorem law_of_ct {P:Program} {f:FuncId} {ax:List AV} {b:Bool} (h:Ct P f ax (AV.b true) [] b) {w:World} {vs:List Value} {E0:Env} (ha:A2 (R1 E0 w) vs ax):Calls P f vs.toArray w fun e w'=>e=.returned (.bool true)∧Below w.heap.size w w':=by
 refine (h.run w vs E0 ha).mono ?_
 rintro e w' ⟨v,rfl,hb,E,hr,_⟩
 obtain rfl:=bool_arg (E0:=E) (w:=w') hr
 exact ⟨rfl,hb⟩
theorem rd_lim {F:Nat→Prop} {w:World} {ks:List K} {cs:List Value} {es:List D} (h:RdL F reachBytes w ks cs es):RdL F limB w ks cs es:=h.frame (by decide) (Nat.le_refl _) (fun _ _ _=>rfl) (fun _ h _=>h)
end
end Go.Proofs.YtmloamomcbmfhaaGreat
end
section
namespace Go.Proofs.YtmloamomcbmfhaaGreat
open Go Cg Go.RowKit Go.Sort
theorem shAsk:shapeOf Tryz.prog 12 37=some GAsk.ks:=by kernel_rfl
theorem ask_open {F:Nat→Prop} {w:World} {cs:List Value} {es:List D} (h:RdL F reachBytes w GAsk.ks cs es):∃ a:GAsk,a.ok∧RTL F w cs a.enc:=by
 obtain ⟨ts,h3,_,h5⟩:=rdL_rt (rd_lim h)
 obtain ⟨a,h6,rfl⟩:=GAsk.of_fit ts h3
 exact ⟨a,h6,h5⟩
theorem ask_law {f:FuncId} {b:Bool} (hf:∀ a:GAsk,a.ok→Ct Tryz.prog f [.agg (a.enc.map .t)] (AV.b true) [] b) (cs:List Value) (es:List D) (w:World) (h:RdL (fun _=>True) reachBytes w GAsk.ks cs es):Calls Tryz.prog f #[.agg cs.toArray] w fun e w'=>e=.returned (.bool true)∧Below w.heap.size w w':=by
 obtain ⟨a,ha,hr⟩:=ask_open h
 exact law_of_ct (hf a ha) (.cons (ag_env hr) .nil)
end Go.Proofs.YtmloamomcbmfhaaGreat
end
section
namespace Go.Proofs.YtmloamomcbmfhaaGreat
open Go
theorem pf_1:(laidOutB Tryz.prog)=true:=by kernel_rfl
theorem pf_2:(mapsRowed Tryz.prog)=true:=by kernel_rfl
theorem pf_6:((Tryz.prog.stops==[]))=true:=by kernel_rfl
theorem pf_8:((Tryz.prog.stopKnobs==[]))=true:=by kernel_rfl
theorem pf_24:(Tryz.prog.stopsHeard)=true:=by kernel_rfl
theorem pf_25:(Tryz.prog.mayEnter)=true:=by kernel_rfl
theorem band {a b:Bool} (h1:a=true) (h2:b=true):(a&&b)=true:=by rw [h1,h2];rfl
theorem actValid_k0:(Rows.actValidRow.wf (OpenSpec.ofChange Rows.actValidSpec))=true:=by kernel_rfl
theorem actValid_k3:(Tryz.f4.params.all (Tryz.prog.readableRec ·))=true:=by kernel_rfl
theorem actValid_k4:(namedTie Tryz.prog Rows.actValidRow.named Rows.actValidSpec.vars)=true:=by kernel_rfl
theorem actValid_k5:((Rows.actValidRow.stops==[]))=true:=by kernel_rfl
theorem actValid_k7:((Rows.actValidRow.knobs==[]))=true:=by kernel_rfl
theorem actValid_k9:((Rows.actValidRow.inPlace==Tryz.prog.inPlace 4))=true:=by kernel_rfl
theorem actValid_k10:((Rows.actValidRow.unfollowed==Tryz.prog.unfollowed 4))=true:=by kernel_rfl
theorem actValid_k11:((Rows.actValidRow.recurses==Tryz.prog.recurses 4))=true:=by kernel_rfl
theorem actValid_k12:((Rows.actValidRow.named==Tryz.prog.varsNamed 4))=true:=by kernel_rfl
theorem actValid_k13:((Rows.actValidRow.maps==(Tryz.f4.params.toList++Rows.actValidSpec.plain.varTypes Tryz.prog).any (Tryz.prog.mapsRec ·)))=true:=by kernel_rfl
theorem actValid_k14:((Rows.actValidRow.ifaces==(Tryz.f4.params.toList++Rows.actValidSpec.plain.varTypes Tryz.prog).any (Tryz.prog.ifacesRec ·)))=true:=by kernel_rfl
theorem actValid_k15:((Rows.actValidRow.mapsOut==Tryz.prog.mapsAmong Tryz.f4.resultTypes.toList))=true:=by kernel_rfl
theorem actValid_k16:((Rows.actValidRow.loops==(Tryz.f4.params.toList++Rows.actValidSpec.plain.varTypes Tryz.prog).any (Tryz.prog.loopsFrom ·)))=true:=by kernel_rfl
theorem actValid_k17:((Rows.actValidRow.wideKeys==(Tryz.f4.params.toList++Rows.actValidSpec.plain.varTypes Tryz.prog++Tryz.f4.resultTypes.toList).any (Tryz.prog.wideKeysFrom ·)))=true:=by kernel_rfl
theorem actValid_k18:(Rows.actValidSpec.vars.all (Tryz.prog.varReadable ·))=true:=by kernel_rfl
theorem actValid_k19:(Tryz.f4.resultTypes.all (fun t=>Tryz.prog.readableRec t&&decide (t < Tryz.prog.types.size)))=true:=by kernel_rfl
theorem actValid_k20:((Rows.actValidRow.ifacesOut==Tryz.f4.resultTypes.toList.any (Tryz.prog.ifacesRec ·)))=true:=by kernel_rfl
theorem actValid_k21:((Rows.actValidRow.loopsOut==Tryz.f4.resultTypes.toList.any (Tryz.prog.loopsFrom ·)))=true:=by kernel_rfl
theorem actValid_k22:((Rows.actValidRow.plainKeys==Tryz.prog.plainKeys))=true:=by kernel_rfl
theorem actValid_k23:(Rows.actValidRow.shortTexts.isNone)=true:=by kernel_rfl
theorem actValid_k26:((Rows.actValidRow.lifted==Tryz.prog.liftsFinal))=true:=by kernel_rfl
theorem actValid_k27:((Tryz.prog.make==some Rows.actValidRow.make))=true:=by kernel_rfl
theorem actValid_k28:((Rows.actValidRow.kinds==(if Rows.actValidRow.domain.isEmpty then [] else Tryz.f4.params.toList.map fun t=>match Tryz.prog.underlying t with|some (.int k)=>some k|_=>none)))=true:=by kernel_rfl
theorem actValid_k29:((Rows.actValidRow.pinned==Rows.actValidRow.pinnedBy))=true:=by kernel_rfl
theorem actValid_k30:((Rows.actValidRow.veiled==(Tryz.f4.params.toList++Rows.actValidSpec.plain.varTypes Tryz.prog++Tryz.f4.resultTypes.toList).any (Tryz.prog.veiledRec ·)))=true:=by kernel_rfl
theorem actValid_k31:(Rows.actValidRow.veiledFits Tryz.prog Tryz.f4.params.toList (Tryz.f4.params.toList++Rows.actValidSpec.plain.varTypes Tryz.prog++Tryz.f4.resultTypes.toList))=true:=by kernel_rfl
theorem actValid_closed:joinedFacts Tryz.prog 4 Tryz.f4 Rows.actValidSpec Rows.actValidRow=true:=by
 unfold joinedFacts
 exact band (band (band (band (band (band (band (band (band (band (band (band (band (band (band (band (band (band (band (band (band (band (band (band (band (band (band (band (band (band (band (actValid_k0) pf_1) pf_2) actValid_k3) actValid_k4) actValid_k5) pf_6) actValid_k7) pf_8) actValid_k9) actValid_k10) actValid_k11) actValid_k12) actValid_k13) actValid_k14) actValid_k15) actValid_k16) actValid_k17) actValid_k18) actValid_k19) actValid_k20) actValid_k21) actValid_k22) actValid_k23) pf_24) pf_25) actValid_k26) actValid_k27) actValid_k28) actValid_k29) actValid_k30) actValid_k31
theorem actValid_inst:Tryz.f4.isInstance Tryz.prog Rows.actValidRow.origin Rows.actValidRow.targs:=of_decide_eq_true (by kernel_rfl)
theorem actValid_wrap:Tryz.f4.isWrapper Tryz.prog Rows.actValidRow.wrapper Rows.actValidRow.mainSum:=by unfold Func.isWrapper;first|(rw [if_pos (by decide +kernel)];kernel_rfl)|(rw [if_neg (by decide +kernel)];exact ⟨rfl,rfl⟩)
theorem actValid_named:Tryz.prog.funcNamed Rows.actValidRow.func=some 4:=by kernel_rfl
theorem actKeeps_k0:(Rows.actKeepsRow.wf (OpenSpec.ofChange Rows.actKeepsSpec))=true:=by kernel_rfl
theorem actKeeps_k3:(Tryz.f5.params.all (Tryz.prog.readableRec ·))=true:=by kernel_rfl
theorem actKeeps_k4:(namedTie Tryz.prog Rows.actKeepsRow.named Rows.actKeepsSpec.vars)=true:=by kernel_rfl
theorem actKeeps_k5:((Rows.actKeepsRow.stops==[]))=true:=by kernel_rfl
theorem actKeeps_k7:((Rows.actKeepsRow.knobs==[]))=true:=by kernel_rfl
theorem actKeeps_k9:((Rows.actKeepsRow.inPlace==Tryz.prog.inPlace 5))=true:=by kernel_rfl
theorem actKeeps_k10:((Rows.actKeepsRow.unfollowed==Tryz.prog.unfollowed 5))=true:=by kernel_rfl
theorem actKeeps_k11:((Rows.actKeepsRow.recurses==Tryz.prog.recurses 5))=true:=by kernel_rfl
theorem actKeeps_k12:((Rows.actKeepsRow.named==Tryz.prog.varsNamed 5))=true:=by kernel_rfl
theorem actKeeps_k13:((Rows.actKeepsRow.maps==(Tryz.f5.params.toList++Rows.actKeepsSpec.plain.varTypes Tryz.prog).any (Tryz.prog.mapsRec ·)))=true:=by kernel_rfl
theorem actKeeps_k14:((Rows.actKeepsRow.ifaces==(Tryz.f5.params.toList++Rows.actKeepsSpec.plain.varTypes Tryz.prog).any (Tryz.prog.ifacesRec ·)))=true:=by kernel_rfl
theorem actKeeps_k15:((Rows.actKeepsRow.mapsOut==Tryz.prog.mapsAmong Tryz.f5.resultTypes.toList))=true:=by kernel_rfl
theorem actKeeps_k16:((Rows.actKeepsRow.loops==(Tryz.f5.params.toList++Rows.actKeepsSpec.plain.varTypes Tryz.prog).any (Tryz.prog.loopsFrom ·)))=true:=by kernel_rfl
theorem actKeeps_k17:((Rows.actKeepsRow.wideKeys==(Tryz.f5.params.toList++Rows.actKeepsSpec.plain.varTypes Tryz.prog++Tryz.f5.resultTypes.toList).any (Tryz.prog.wideKeysFrom ·)))=true:=by kernel_rfl
theorem actKeeps_k18:(Rows.actKeepsSpec.vars.all (Tryz.prog.varReadable ·))=true:=by kernel_rfl
theorem actKeeps_k19:(Tryz.f5.resultTypes.all (fun t=>Tryz.prog.readableRec t&&decide (t < Tryz.prog.types.size)))=true:=by kernel_rfl
theorem actKeeps_k20:((Rows.actKeepsRow.ifacesOut==Tryz.f5.resultTypes.toList.any (Tryz.prog.ifacesRec ·)))=true:=by kernel_rfl
theorem actKeeps_k21:((Rows.actKeepsRow.loopsOut==Tryz.f5.resultTypes.toList.any (Tryz.prog.loopsFrom ·)))=true:=by kernel_rfl
theorem actKeeps_k22:((Rows.actKeepsRow.plainKeys==Tryz.prog.plainKeys))=true:=by kernel_rfl
theorem actKeeps_k23:(Rows.actKeepsRow.shortTexts.isNone)=true:=by kernel_rfl
theorem actKeeps_k26:((Rows.actKeepsRow.lifted==Tryz.prog.liftsFinal))=true:=by kernel_rfl
theorem actKeeps_k27:((Tryz.prog.make==some Rows.actKeepsRow.make))=true:=by kernel_rfl
theorem actKeeps_k28:((Rows.actKeepsRow.kinds==(if Rows.actKeepsRow.domain.isEmpty then [] else Tryz.f5.params.toList.map fun t=>match Tryz.prog.underlying t with|some (.int k)=>some k|_=>none)))=true:=by kernel_rfl
theorem actKeeps_k29:((Rows.actKeepsRow.pinned==Rows.actKeepsRow.pinnedBy))=true:=by kernel_rfl
theorem actKeeps_k30:((Rows.actKeepsRow.veiled==(Tryz.f5.params.toList++Rows.actKeepsSpec.plain.varTypes Tryz.prog++Tryz.f5.resultTypes.toList).any (Tryz.prog.veiledRec ·)))=true:=by kernel_rfl
theorem actKeeps_k31:(Rows.actKeepsRow.veiledFits Tryz.prog Tryz.f5.params.toList (Tryz.f5.params.toList++Rows.actKeepsSpec.plain.varTypes Tryz.prog++Tryz.f5.resultTypes.toList))=true:=by kernel_rfl
theorem actKeeps_closed:joinedFacts Tryz.prog 5 Tryz.f5 Rows.actKeepsSpec Rows.actKeepsRow=true:=by
 unfold joinedFacts
 exact band (band (band (band (band (band (band (band (band (band (band (band (band (band (band (band (band (band (band (band (band (band (band (band (band (band (band (band (band (band (band (actKeeps_k0) pf_1) pf_2) actKeeps_k3) actKeeps_k4) actKeeps_k5) pf_6) actKeeps_k7) pf_8) actKeeps_k9) actKeeps_k10) actKeeps_k11) actKeeps_k12) actKeeps_k13) actKeeps_k14) actKeeps_k15) actKeeps_k16) actKeeps_k17) actKeeps_k18) actKeeps_k19) actKeeps_k20) actKeeps_k21) actKeeps_k22) actKeeps_k23) pf_24) pf_25) actKeeps_k26) actKeeps_k27) actKeeps_k28) actKeeps_k29) actKeeps_k30) actKeeps_k31
theorem actKeeps_inst:Tryz.f5.isInstance Tryz.prog Rows.actKeepsRow.origin Rows.actKeepsRow.targs:=of_decide_eq_true (by kernel_rfl)
theorem actKeeps_wrap:Tryz.f5.isWrapper Tryz.prog Rows.actKeepsRow.wrapper Rows.actKeepsRow.mainSum:=by unfold Func.isWrapper;first|(rw [if_pos (by decide +kernel)];kernel_rfl)|(rw [if_neg (by decide +kernel)];exact ⟨rfl,rfl⟩)
theorem actKeeps_named:Tryz.prog.funcNamed Rows.actKeepsRow.func=some 5:=by kernel_rfl
end Go.Proofs.YtmloamomcbmfhaaGreat
end
section
namespace Go.Proofs.YtmloamomcbmfhaaGreat
open Go Cg
section
variable {q:Opq} {c:Int}
structure Ks (s t:GState):Prop where
 own:∀ p,ownM t p=ownM s p
 new:∀ o∈t.objects,o.id < s.nextId→hasM s.objects o.id=true
 nid:s.nextId≤t.nextId
theorem Ks.refl (s:GState):Ks s s:=⟨fun _=>rfl,fun o ho _=>hasM_iff.2 ⟨o,ho,rfl⟩,Int.le_refl _⟩
theorem Ks.trans {s t u:GState} (h1:Ks s t) (h2:Ks t u):Ks s u:=⟨fun p=>(h2.own p).trans (h1.own p),fun o ho hn=>by
 have:=h1.nid
 obtain ⟨y,hy,e⟩:=hasM_iff.1 (h2.new o ho (by omega))
 rw [← e]
 exact h1.new y hy (by rw [e];exact hn),Int.le_trans h1.nid h2.nid⟩
def Lf (s t:GState):Prop:=∀ i:Nat,(t.players[i]?).map GPlayer.life=(s.players[i]?).map GPlayer.life
theorem Lf.refl (s:GState):Lf s s:=fun _=>rfl
theorem Lf.trans {s t u:GState} (h1:Lf s t) (h2:Lf t u):Lf s u:=fun i=>(h2 i).trans (h1 i)
theorem ks_map (s:GState) (g:GObject→GObject) (hg:∀ o,(g o).id=o.id∧(g o).owner=o.owner∧(g o).token=o.token):Ks s { s with objects:=s.objects.map g }:=by
 refine ⟨fun p=>?_,fun o ho _=>?_,Int.le_refl _⟩
 ·show (((s.objects.map g).countP _:Nat):Int)=_
  rw [List.countP_map]
  unfold ownM
  congr 2
  funext o
  show ((g o).owner==p&&!(g o).token)=_
  rw [(hg o).2.1,(hg o).2.2]
 ·obtain ⟨y,hy,rfl⟩:=List.mem_map.1 ho
  rw [(hg y).1]
  exact hasM_iff.2 ⟨y,hy,rfl⟩
theorem ks_set (s:GState) (i:Nat) (x:GObject) (hi:i < s.objects.length) (h1:x.id=s.objects[i].id) (h2:x.owner=s.objects[i].owner) (h3:x.token=s.objects[i].token):Ks s { s with objects:=s.objects.set i x }:=by
 refine ⟨fun p=>?_,fun o ho _=>?_,Int.le_refl _⟩
 ·show (((s.objects.set i x).countP _:Nat):Int)=_
  rw [List.countP_set hi]
  unfold ownM
  have e:(x.owner==p&&!x.token)=(s.objects[i].owner==p&&!s.objects[i].token):=by rw [h2,h3]
  rw [e]
  by_cases hp:(s.objects[i].owner==p&&!s.objects[i].token)=true
  ·have:0 < s.objects.countP (fun o=>o.owner==p&&!o.token):=List.countP_pos_iff.2 ⟨s.objects[i],List.getElem_mem hi,hp⟩
   rw [if_pos hp]
   congr 1
   omega
  ·rw [if_neg hp]
   rfl
 ·rcases List.mem_or_eq_of_mem_set ho with ho|rfl
  ·exact hasM_iff.2 ⟨o,ho,rfl⟩
  ·exact hasM_iff.2 ⟨s.objects[i],List.getElem_mem hi,h1.symm⟩
theorem ks_unc (s:GState) (k:Int):Ks s (uncM s k):=ks_map s _ fun o=>⟨(uncO_f k o).1,(uncO_f k o).2.2.1,(uncO_f k o).2.2.2.2.1⟩
theorem ks_arr (s:GState) (id:Int) (e:GEvent):Ks s (arrM s id e):=by
 by_cases hh:hasM s.objects id=true
 ·obtain ⟨j,hj,h1,h2,h3⟩:=has_idx hh
  rw [arr_set e hj h1 h2 h3 hh]
  exact ks_set s j _ hj rfl rfl rfl
 ·unfold arrM
  rw [if_neg hh]
  exact Ks.refl s
theorem mark_o (d:Bool) (e:GEvent) (o:GObject):(markM d e o).token=o.token:=by
 unfold markM
 repeat' (first|rfl|split)
theorem ks_obj (s:GState) (all:List GTraits) (e:GEvent) (hs:e.kind=13→hasM s.objects e.source=true):Ks s (objM s all e):=by
 by_cases hh:hasM s.objects e.object=true
 ·obtain ⟨i,hi,h1,h2,h3⟩:=has_idx hh
  have m:=mark_f (deadM s all e.source) e s.objects[i]
  have k1:=ks_set s i (markM (deadM s all e.source) e s.objects[i]) hi m.1 m.2.2.1 (mark_o _ _ _)
  by_cases hk:e.kind=13
  ·have hs:=has_set hi (x:=markM (deadM s all e.source) e s.objects[i]) m.1 (hs hk)
   obtain ⟨j,hj,g1,g2,g3⟩:=has_idx hs
   rw [objM_13 hi h1 h2 h3 hh hk rfl hj g1 g2 g3]
   exact k1.trans (ks_set { s with objects:=s.objects.set i (markM (deadM s all e.source) e s.objects[i]) } j _ hj rfl rfl rfl)
  ·rw [objM_eq hi h1 h2 h3 hh hk]
   exact k1
 ·unfold objM
  rw [if_neg hh]
  exact Ks.refl s
theorem setP_life (x:GPlayer) (z:Int) (l:List Int):(setP x z l).life=x.life:=by
 unfold setP
 repeat' (first|rfl|split)
theorem lf_upd (l:List GPlayer) (j:Nat) (x y:GPlayer) (hx:l[j]? = some x) (hy:y.life=x.life) (i:Nat):((l.set j y)[i]?).map GPlayer.life=(l[i]?).map GPlayer.life:=by
 by_cases e:j=i
 ·subst e
  rw [List.getElem?_set_self (List.getElem?_eq_some_iff.1 hx).1,hx]
  exact congrArg some hy
 ·rw [List.getElem?_set_ne e]
theorem lf_set (s:GState) (z p:Int) (l:List Int):Lf s (setM s z p l):=by
 unfold setM
 split
 ·exact Lf.refl s
 split
 ·exact Lf.refl s
 split
 ·exact Lf.refl s
 split
 ·rename_i x hx
  exact fun i=>lf_upd _ _ _ _ hx (setP_life x z l) i
 ·exact Lf.refl s
theorem lf_arr (s:GState) (id:Int) (e:GEvent):Lf s (arrM s id e):=fun i=>by rw [(arr_ids id e).2.2]
theorem lf_move (s:GState) (id z p:Int) (b:Bool):Lf s (moveM s id z p b).1:=by
 unfold moveM
 split
 ·exact Lf.refl s
 ·split
  ·unfold mvFound
   split
   ·exact Lf.refl s
   split
   ·exact lf_set s _ _ _
   ·rename_i o _ _ _
    exact (lf_set s o.zone o.owner ((listM s o.zone o.owner).filter fun i=>i != id)).trans (lf_set (putM (remM s id _ o) _) _ _ _)
  ·exact Lf.refl s
theorem ks_move {s:GState} (h:Val q c s) (id z p:Int) (b:Bool) (hid:hasM s.objects id=true) (hz:0≤z∧z≤4) (hn:s.nextId+1≤1000000):Ks s (moveM s id z p b).1:=by
 obtain ⟨i,hi,e1,_,rfl⟩:=has_idx hid
 have hcnt:∀ f:GObject→Bool,s.objects.countP f=(s.objects.take i++s.objects.drop (i+1)).countP f+if f s.objects[i]=true then 1 else 0:=fun f=>by
  conv=>lhs;rw [← List.take_append_drop i s.objects,List.drop_eq_getElem_cons hi]
  rw [List.countP_append,List.countP_cons,List.countP_append]
  omega
 have hmem:∀ o∈s.objects.take i++s.objects.drop (i+1),o∈s.objects:=fun o ho=>((out_iff h.srt hi).1 ho).1
 obtain ⟨n1,_,_⟩:=next_rem (s:=s) i s.objects[i] s.objects[i].id
 have hid:=h.nid
 unfold moveM
 rw [e1]
 simp only [List.getElem?_eq_getElem hi]
 unfold mvFound
 rw [if_neg (by omega)]
 split
 ·rename_i ht
  refine ⟨fun w=>?_,fun o ho _=>hasM_iff.2 ⟨o,hmem o ho,rfl⟩,by show s.nextId≤(remM _ _ _ _).nextId;omega⟩
  show (((s.objects.take i++s.objects.drop (i+1)).countP _:Nat):Int)=((s.objects.countP _:Nat):Int)
  rw [hcnt,if_neg (by rw [ht.1];simp)]
  rfl
 ·obtain ⟨x,hx⟩:∃ x,x=mvNew (remM s s.objects[i].id i s.objects[i]) s.objects[i] z p:=⟨_,rfl⟩
  rw [← hx]
  have x1:x.id=s.nextId:=by rw [hx,← n1];rfl
  have x2:x.owner=s.objects[i].owner:=by rw [hx];rfl
  have x3:x.token=s.objects[i].token:=by rw [hx];rfl
  have hput:putL (remM s s.objects[i].id i s.objects[i]).objects x=(s.objects.take i++s.objects.drop (i+1))++[x]:=putL_end fun y hy=>by rw [x1];exact (h.obj y (hmem y hy)).2.1
  have hobj:(mvEnd (putM (remM s s.objects[i].id i s.objects[i]) x) x z b).objects=(s.objects.take i++s.objects.drop (i+1))++[x]:=by
   rw [← hput]
   exact setM_objs _ _ _ _
  have hnx:(mvEnd (putM (remM s s.objects[i].id i s.objects[i]) x) x z b).nextId=s.nextId+1:=by
   show IntKind.i64.wrap ((setM (putM (remM s s.objects[i].id i s.objects[i]) x) _ _ _).nextId+1)=_
   rw [(setM_next _ _ _ _).1]
   show IntKind.i64.wrap ((remM s s.objects[i].id i s.objects[i]).nextId+1)=_
   rw [n1,IntKind.wrap_i64]
   omega
  refine ⟨fun w=>?_,fun o ho hlt=>?_,by show s.nextId≤(mvEnd _ _ _ _).nextId;omega⟩
  ·show (((mvEnd (putM (remM s s.objects[i].id i s.objects[i]) x) x z b).objects.countP _:Nat):Int)=((s.objects.countP _:Nat):Int)
   rw [hobj,hcnt,List.countP_append,List.countP_singleton,x2,x3]
  ·have ho:o∈(mvEnd (putM (remM s s.objects[i].id i s.objects[i]) x) x z b).objects:=ho
   rw [hobj] at ho
   rcases List.mem_append.1 ho with ho|ho
   ·exact hasM_iff.2 ⟨o,hmem o ho,rfl⟩
   ·rw [List.mem_singleton.1 ho,x1] at hlt
    omega
theorem ks_mk (e:GEvent):∀ (n:Nat) (s:GState),(∀ y∈s.objects,y.id < s.nextId)→0≤s.nextId∧s.nextId+n≤1000000→Ks s (mkM s e n)
 | 0,s,_,_=>Ks.refl s
 | n+1,s,h,hn=>by
  unfold mkM
  split
  ·have hw:IntKind.i64.wrap (s.nextId+1)=s.nextId+1:=by rw [IntKind.wrap_i64];omega
   rw [make_eq e.card e.player h]
   simp only [hw]
   obtain ⟨x,hx⟩:∃ x,x=({ newM s.nextId e.card e.player 0 s.nextStamp with token:=true,sick:=true }:GObject):=⟨_,rfl⟩
   rw [← hx]
   have x1:x.id=s.nextId:=by rw [hx];rfl
   have x2:x.token=true:=by rw [hx]
   have k1:Ks s { s with objects:=s.objects++[x],battlefield:=s.battlefield++[s.nextId],nextId:=s.nextId+1,nextStamp:=IntKind.i64.wrap (s.nextStamp+1) }:=by
    refine ⟨fun p=>?_,fun o ho hlt=>?_,by show s.nextId≤s.nextId+1;omega⟩
    ·show (((s.objects++[x]).countP _:Nat):Int)=((s.objects.countP _:Nat):Int)
     rw [List.countP_append,List.countP_singleton,if_neg (by rw [x2];simp)]
     rfl
    ·rcases List.mem_append.1 ho with ho|ho
     ·exact hasM_iff.2 ⟨o,ho,rfl⟩
     ·rw [List.mem_singleton.1 ho,x1] at hlt
      omega
   have k2:=ks_arr { s with objects:=s.objects++[x],battlefield:=s.battlefield++[s.nextId],nextId:=s.nextId+1,nextStamp:=IntKind.i64.wrap (s.nextStamp+1) } s.nextId e
   refine (k1.trans k2).trans (ks_mk e n _ (fun y hy=>?_) ?_)
   ·obtain ⟨l,e1,_,e3⟩:=arr_form { s with objects:=s.objects++[x],battlefield:=s.battlefield++[s.nextId],nextId:=s.nextId+1,nextStamp:=IntKind.i64.wrap (s.nextStamp+1) } s.nextId e
    rw [e1] at hy ⊢
    obtain ⟨o,ho,he⟩:=e3 y hy
    show y.id < s.nextId+1
    rw [he]
    rcases List.mem_append.1 ho with ho|ho
    ·have:=h o ho
     omega
    ·rw [List.mem_singleton.1 ho,x1]
     omega
   ·rw [(arr_ids s.nextId e).1]
    show 0≤s.nextId+1∧s.nextId+1+(n:Int)≤1000000
    omega
  ·exact Ks.refl s
theorem lf_mk (e:GEvent):∀ (n:Nat) (s:GState),Lf s (mkM s e n)
 | 0,s=>Lf.refl s
 | n+1,s=>by
  unfold mkM
  split
  ·exact (show Lf s (makeM s e.card e.player).1 from fun _=>rfl).trans ((lf_arr _ _ _).trans (lf_mk e n _))
  ·exact Lf.refl s
theorem ks_objs {s t:GState} (h1:t.objects=s.objects) (h2:t.nextId=s.nextId):Ks s t:=⟨fun p=>by unfold ownM;rw [h1],fun o ho _=>by rw [h1] at ho;exact hasM_iff.2 ⟨o,ho,rfl⟩,by rw [h2];exact Int.le_refl _⟩
theorem lf_obj (s:GState) (all:List GTraits) (e:GEvent):Lf s (objM s all e):=by
 unfold objM
 repeat' (first|exact Lf.refl s|split|dsimp only)
structure Keeps (s:GState) (e:GEvent) (t:GState):Prop where
 ks:Ks s t
 lf:∀ i:Nat,¬ ((e.kind=4∨e.kind=5)∧e.player=(i:Int))→(t.players[i]?).map GPlayer.life=(s.players[i]?).map GPlayer.life
theorem keeps_do {cards:List GCard} {s:GState} {all:List GTraits} {e:GEvent} (H:DoH q cards s all e):Keeps s e (doR cards s all e):=by
 obtain ⟨_,_,_,_,_,hv,hn,h10⟩:=H
 cases hev:evM cards s e with
 | false=>rw [do_no hev];exact ⟨Ks.refl s,fun _ _=>rfl⟩
 | true=>
  have nn:=hv.nid
  rcases ev_cases hv hev with ⟨hk,a1,a2,a3⟩|⟨hk,a1,a2,a3⟩|⟨hk,a1⟩|⟨hk,a1,_⟩|⟨hk,a1,_,_,_,a2⟩|⟨hk,a1⟩|hk
  ·rw [do_2 hev hk]
   have hu:Ks s (uncM s e.object):=ks_unc s _
   have hlu:Lf s (uncM s e.object):=fun _=>rfl
   obtain ⟨s0,hs0⟩:∃ s0,s0=(if e.from_=0 then uncM s e.object else s):=⟨_,rfl⟩
   have h0:Ks s s0∧Lf s s0∧Val q cards.length s0∧hasM s0.objects e.object=true∧s0.nextId=s.nextId:=by
    rw [hs0]
    split
    ·exact ⟨hu,hlu,unc_val hv _,by rw [show (uncM s e.object).objects=s.objects.map (uncO e.object) from rfl,has_map _ _ _ fun o=>(uncO_f _ o).1];exact a1,rfl⟩
    ·exact ⟨Ks.refl s,Lf.refl s,hv,a1,rfl⟩
   obtain ⟨g1,g2,g3,g4,g5⟩:=h0
   have m1:=ks_move g3 e.object e.to_ e.player (e.amount==1) g4 a2 (by omega)
   have m2:=lf_move s0 e.object e.to_ e.player (e.amount==1)
   unfold mvR
   rw [← hs0]
   dsimp only
   split
   ·exact ⟨(g1.trans m1).trans (ks_arr _ _ _),fun i _=>((g2.trans m2).trans (lf_arr _ _ _)) i⟩
   ·exact ⟨g1.trans m1,fun i _=>(g2.trans m2) i⟩
  ·rw [do_10 hev hk]
   have:=h10 hk
   exact ⟨ks_mk e _ s (fun y hy=>(hv.obj y hy).2.1) (by omega),fun i _=>lf_mk e _ s i⟩
  ·rw [do_3 hev hk]
   unfold drawM
   split
   ·rename_i x hx
    split
    ·unfold updP
     rw [hx]
     exact ⟨ks_objs rfl rfl,fun i _=>lf_upd _ _ _ _ hx (by rfl) i⟩
    ·rename_i id l hl
     exact ⟨ks_move hv id 1 e.player false (lib_has hv x (List.mem_of_getElem? hx) id (by rw [hl];exact List.mem_cons_self)) (by decide) (by omega),fun i _=>lf_move s id 1 e.player false i⟩
   ·exact ⟨Ks.refl s,fun _ _=>rfl⟩
  ·rw [do_life hev hk]
   unfold lifeM
   split
   ·rename_i x hx
    refine ⟨ks_objs rfl rfl,fun i hi=>?_⟩
    obtain ⟨p1,p2⟩:=livM_t a1
    by_cases hp:e.player=(i:Int)
    ·have hne:¬ (e.kind=4∨e.kind=5):=fun h=>hi ⟨h,hp⟩
     refine lf_upd _ _ _ _ hx ?_ i
     unfold chM
     rw [if_neg (by omega),if_neg (by omega)]
     split
     ·rfl
     split
     ·rfl
     ·rfl
    ·show ((s.players.set e.player.toNat _)[i]?).map _=_
     rw [List.getElem?_set_ne (by omega)]
   ·exact ⟨Ks.refl s,fun _ _=>rfl⟩
  ·rw [do_obj hev hk]
   exact ⟨ks_obj s all e fun h=>(here_t (a2 h)).1,fun i _=>lf_obj s all e i⟩
  ·rw [do_obj hev (.inl hk)]
   exact ⟨ks_obj s all e fun h=>by omega,fun i _=>lf_obj s all e i⟩
  ·rw [do_ot hev hk]
   exact ⟨Ks.refl s,fun _ _=>rfl⟩
end
end Go.Proofs.YtmloamomcbmfhaaGreat
end
