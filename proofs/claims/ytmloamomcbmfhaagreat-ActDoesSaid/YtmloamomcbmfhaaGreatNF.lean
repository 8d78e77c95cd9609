/- Parts of the proof, joined: Chapter 32: is an event possible (program and reference); The keyword Deadly (program and reference); small states; The program's act: Do, by kinds of events; printed by gen_d.py; Chapter 33: parts of an event (reference): life, draw, move, create; printed by gen_f.py; Chapter 33: the reference's object, by kinds of events; printed by gen_f.py; Chapter 33: Do of the reference, by kinds of events; printed by gen_h.py; Chapter 33: cases of possible events; printed by gen_h.py. No program in sight; Chapter 33: Do of the program and of the reference; printed by gen_h.py; Chapter 33: the fixed examples of the laws; The argument of the laws of chapter 33 as a record; printed by dat.py; Small states (slow: each path calls R20.Light with a built ability); Chapter 33: fits, owned, has of the laws; Chapter 33: the laws Does and Valid; Arguments of statements, read by the shapes of their types; a law out of its contract; Chapter 33: the laws at any argument; Closed facts of the program that every row of the seat asks for; The closed facts of the row actDoesRow. -/
import Derived.Test.YtmloamomcbmfhaaGreatNE
import Derived.Test.YtmloamomcbmfhaaGreatRows
import Derived.ProofKit
import Derived.OpenShut
import Derived.ChangeOld
import Derived.ShutString
import Derived.ChangeSlices
import Derived.SizedLaws
import Derived.JoinedOf
import Derived.KernelRfl
set_option maxRecDepth 100000
set_option maxHeartbeats 4000000
section
namespace Go.Proofs.YtmloamomcbmfhaaGreat
open Go Cg Go.RowKit Go.Shelf
theorem fielded_ct (a:GState) (b:Int) (ha:a.objects.length*128≤limB):Ct Tryz.prog 62 [.agg (a.enc.map .t),.c (.t (iv b))] (.tup [.agg ((findM a.objects b).enc.map .t),AV.b (hereM a b)]) [] true:=by
 refine Ct.litT (b:=false) ?_ rfl
 generalize hM:hereM a b=M
 refine ct_of Tryz.func62 rfl (enters_of Tryz.func62 (by kernel_rfl) rfl) tabOk (by kernel_rfl) rfl rfl rfl rfl fun w0 O _=>Tp.run [] ?_
 refine cI (findP_ct a b ha) ⟨fL a.enc,rfl,trivial⟩ (.inl rfl) ?_
 refine cS (fun h=>?_) (fun h=>?_)
 ·have hM2:M=((findM a.objects b).zone==0):=by rw [← hM];unfold hereM;rw [show hasM a.objects b=true from h,Bool.true_and]
  subst hM2
  refine Ei [] (Ai rfl (Ai trivial ?_))
  repeat' first|refine Ai ?_ ?_|exact rfl|exact trivial|exact Ei _ rfl|refine lN ?_|refine bS ?_|fail
 ·have hM2:M=false:=by rw [← hM];unfold hereM;rw [show hasM a.objects b=false from h,Bool.false_and]
  subst hM2
  refine Ei [] (Ai rfl (Ai trivial ?_))
  repeat' first|refine Ai ?_ ?_|exact rfl|exact trivial|exact Ei _ rfl|refine lN ?_|refine bS ?_|fail
theorem living_ct_ (a:GState) (b:Int) (ha:a.ok):∃ r:Bool,(r=(livM a b))∧Ct Tryz.prog 65 [.agg (a.enc.map .t),.c (.t (iv b))] (AV.b r) [] true:=by
 have ha_:=ha
 obtain ⟨oa0,oa1,oa2,oa3,oa4,oa5,oa6,oa7,oa8,oa9,oa10,oa11,oa12⟩:=ha_
 refine ct_x (Φ:=fun (r:Bool)=>r=(livM a b)) lit_b (ctx_of Tryz.func65 rfl (enters_of Tryz.func65 (by kernel_rfl) rfl) tabOk (by kernel_rfl) rfl rfl (TpX.runY [] [] ?_))
 repeat' (first|(apply ix_k;(first|assumption|omega|(simp only [IntKind.wrap_i64,IntKind.wrap_u64,List.length_cons,List.length_nil];omega)|(simp only [Lm] at *;omega)|decide);(first|assumption|omega|(simp only [IntKind.wrap_i64,IntKind.wrap_u64,List.length_cons,List.length_nil];omega)|(simp only [Lm] at *;omega)|decide);intro _)|(apply cond_p <;> intro _)|(apply leaf_x;exact Ei [] (Ai rfl (Ai trivial rfl));exact (by first|exact livM_f1 ‹_› | exact livM_f2 ‹_› | exact Eq.symm (livM_g ‹_› ‹_›));rfl)|fail)
theorem living_ct (a:GState) (b:Int) (ha:a.ok):Ct Tryz.prog 65 [.agg (a.enc.map .t),.c (.t (iv b))] (AV.b (livM a b)) [] true:=by
 obtain ⟨r,hr,h⟩:=living_ct_ a b ha
 rw [hr] at h
 exact h
theorem r32living_ (a:GState) (b:Int) (ha:a.ok):∃ r:Bool,(r=(livM a b))∧Ct Tryz.prog 81 [.agg (a.enc.map .t),.c (.t (iv b))] (AV.b r) [] true:=by
 have ha_:=ha
 obtain ⟨oa0,oa1,oa2,oa3,oa4,oa5,oa6,oa7,oa8,oa9,oa10,oa11,oa12⟩:=ha_
 refine ct_x (Φ:=fun (r:Bool)=>r=(livM a b)) lit_b (ctx_of Tryz.func81 rfl (enters_of Tryz.func81 (by kernel_rfl) rfl) tabOk (by kernel_rfl) rfl rfl (TpX.runY [] [] ?_))
 repeat' (first|(apply ix_k;(first|assumption|omega|(simp only [IntKind.wrap_i64,IntKind.wrap_u64,List.length_cons,List.length_nil];omega)|(simp only [Lm] at *;omega)|decide);(first|assumption|omega|(simp only [IntKind.wrap_i64,IntKind.wrap_u64,List.length_cons,List.length_nil];omega)|(simp only [Lm] at *;omega)|decide);intro _)|(apply cond_p <;> intro _)|(apply leaf_x;exact Ei [] (Ai rfl (Ai trivial rfl));exact (by first|exact livM_f1 ‹_› | exact livM_f2 ‹_› | exact Eq.symm (livM_g ‹_› ‹_›));rfl)|fail)
theorem r32living (a:GState) (b:Int) (ha:a.ok):Ct Tryz.prog 81 [.agg (a.enc.map .t),.c (.t (iv b))] (AV.b (livM a b)) [] true:=by
 obtain ⟨r,hr,h⟩:=r32living_ a b ha
 rw [hr] at h
 exact h
theorem amount_ct_ (a:GEvent):∃ r:Bool,(r=(amtM a.amount))∧Ct Tryz.prog 66 [.agg (a.enc.map .t)] (AV.b r) [] true:=by
 refine ct_x (Φ:=fun (r:Bool)=>r=(amtM a.amount)) lit_b (ctx_of Tryz.func66 rfl (enters_of Tryz.func66 (by kernel_rfl) rfl) tabOk (by kernel_rfl) rfl rfl (TpX.runY [] [] ?_))
 repeat' (first|(apply cond_p <;> intro _)|(apply leaf_x;exact Ei [] (Ai rfl (Ai trivial rfl));exact (by simp [amtM, *]);rfl)|fail)
theorem amount_ct (a:GEvent):Ct Tryz.prog 66 [.agg (a.enc.map .t)] (AV.b (amtM a.amount)) [] true:=by
 obtain ⟨r,hr,h⟩:=amount_ct_ a
 rw [hr] at h
 exact h
theorem r32amount_ (a:Int):∃ r:Bool,(r=(amtM a))∧Ct Tryz.prog 82 [.c (.t (iv a))] (AV.b r) [] true:=by
 refine ct_x (Φ:=fun (r:Bool)=>r=(amtM a)) lit_b (ctx_of Tryz.func82 rfl (enters_of Tryz.func82 (by kernel_rfl) rfl) tabOk (by kernel_rfl) rfl rfl (TpX.runY [] [] ?_))
 repeat' (first|(apply cond_p <;> intro _)|(apply leaf_x;exact Ei [] (Ai rfl (Ai trivial rfl));exact (by simp [amtM, *]);rfl)|fail)
theorem r32amount (a:Int):Ct Tryz.prog 82 [.c (.t (iv a))] (AV.b (amtM a)) [] true:=by
 obtain ⟨r,hr,h⟩:=r32amount_ a
 rw [hr] at h
 exact h
theorem hurts_ct_ (a:GState) (b:GEvent) (ha:a.ok):∃ r:Bool,(r=(amtM b.amount&&(if b.object=0 then livM a b.player else hereM a b.object)))∧Ct Tryz.prog 63 [.agg (a.enc.map .t),.agg (b.enc.map .t)] (AV.b r) [] true:=by
 have ha_:=ha
 obtain ⟨oa0,oa1,oa2,oa3,oa4,oa5,oa6,oa7,oa8,oa9,oa10,oa11,oa12⟩:=ha_
 refine ct_x (Φ:=fun (r:Bool)=>r=(amtM b.amount&&(if b.object=0 then livM a b.player else hereM a b.object))) lit_b (ctx_of Tryz.func63 rfl (enters_of Tryz.func63 (by kernel_rfl) rfl) tabOk (by kernel_rfl) rfl rfl (TpX.runY [] [] ?_))
 repeat' (first|(apply cond_p <;> intro _)|apply cond_n|(apply cS <;> intro _)|(apply leaf_x;exact Ei [] (Ai rfl (Ai trivial rfl));exact (by simp [*]);rfl)|(apply call_f 66;refine cI (amount_ct _) ⟨fL (GEvent.enc _),trivial⟩ (.inl rfl) ?_)|(apply call_f 65;refine cI (living_ct _ _ (by first|assumption|exact okmr ‹_› ‹_› | exact okmg _ ‹_›)) ⟨fL (GState.enc _),rfl,trivial⟩ (.inl rfl) ?_)|(apply call_f 62;refine cI (fielded_ct _ _ (by first|assumption|exact okmr ‹_› ‹_› | exact okmg _ ‹_›)) ⟨fL (GState.enc _),rfl,trivial⟩ (.inl rfl) ?_)|fail)
theorem hurts_ct (a:GState) (b:GEvent) (ha:a.ok):Ct Tryz.prog 63 [.agg (a.enc.map .t),.agg (b.enc.map .t)] (AV.b (amtM b.amount&&(if b.object=0 then livM a b.player else hereM a b.object))) [] true:=by
 obtain ⟨r,hr,h⟩:=hurts_ct_ a b ha
 rw [hr] at h
 exact h
theorem counts_ct_ (a:GState) (b:GEvent) (ha:a.ok):∃ r:Bool,(r=(hereM a b.object&&(decide (b.counter≥0)&&(decide (b.counter < 3)&&amtM b.amount))))∧Ct Tryz.prog 67 [.agg (a.enc.map .t),.agg (b.enc.map .t)] (AV.b r) [] true:=by
 have ha_:=ha
 obtain ⟨oa0,oa1,oa2,oa3,oa4,oa5,oa6,oa7,oa8,oa9,oa10,oa11,oa12⟩:=ha_
 refine ct_x (Φ:=fun (r:Bool)=>r=(hereM a b.object&&(decide (b.counter≥0)&&(decide (b.counter < 3)&&amtM b.amount)))) lit_b (ctx_of Tryz.func67 rfl (enters_of Tryz.func67 (by kernel_rfl) rfl) tabOk (by kernel_rfl) rfl rfl (TpX.runY [] [] ?_))
 repeat' (first|(apply cond_p <;> intro _)|(apply cS <;> intro _)|(apply leaf_x;exact Ei [] (Ai rfl (Ai trivial rfl));exact (by simp [*]);rfl)|(apply call_f 62;refine cI (fielded_ct _ _ (by first|assumption|exact okmr ‹_› ‹_› | exact okmg _ ‹_›)) ⟨fL (GState.enc _),rfl,trivial⟩ (.inl rfl) ?_)|(apply call_f 66;refine cI (amount_ct _) ⟨fL (GEvent.enc _),trivial⟩ (.inl rfl) ?_)|fail)
theorem counts_ct (a:GState) (b:GEvent) (ha:a.ok):Ct Tryz.prog 67 [.agg (a.enc.map .t),.agg (b.enc.map .t)] (AV.b (hereM a b.object&&(decide (b.counter≥0)&&(decide (b.counter < 3)&&amtM b.amount)))) [] true:=by
 obtain ⟨r,hr,h⟩:=counts_ct_ a b ha
 rw [hr] at h
 exact h
theorem creates_ct_ (a:List GCard) (b:GState) (c:GEvent) (_ha:a.length*176≤limB) (_ma:∀ y∈a,GCard.ok y) (hb:b.ok):∃ r:Bool,(r=(livM b c.player&&(tokM a c.card&&amtM c.amount)))∧Ct Tryz.prog 68 [.c (.t (.sl 17 (a.map GCard.enc))),.agg (b.enc.map .t),.agg (c.enc.map .t)] (AV.b r) [] true:=by
 have hb_:=hb
 obtain ⟨ob0,ob1,ob2,ob3,ob4,ob5,ob6,ob7,ob8,ob9,ob10,ob11,ob12⟩:=hb_
 refine ct_x (Φ:=fun (r:Bool)=>r=(livM b c.player&&(tokM a c.card&&amtM c.amount))) lit_b (ctx_of Tryz.func68 rfl (enters_of Tryz.func68 (by kernel_rfl) rfl) tabOk (by kernel_rfl) rfl rfl (TpX.runY [] [] ?_))
 repeat' (first|(apply ix_k;(first|assumption|omega|(simp only [IntKind.wrap_i64,IntKind.wrap_u64,List.length_cons,List.length_nil];omega)|(simp only [Lm] at *;omega)|decide);(first|assumption|omega|(simp only [IntKind.wrap_i64,IntKind.wrap_u64,List.length_cons,List.length_nil];omega)|(simp only [Lm] at *;omega)|decide);intro _)|(apply cond_p <;> intro _)|(apply cS <;> intro _)|(apply leaf_x;exact Ei [] (Ai rfl (Ai trivial rfl));exact (by first|(simp [*];done)|(simp [tokM_f1 ‹_›, *];done)|(simp [tokM_f2 ‹_›, *];done)|(rw [tokM_g ‹_› ‹_›];simp [*];done));rfl)|(apply call_f 65;refine cI (living_ct _ _ (by first|assumption|exact okmr ‹_› ‹_› | exact okmg _ ‹_›)) ⟨fL (GState.enc _),rfl,trivial⟩ (.inl rfl) ?_)|(apply call_f 66;refine cI (amount_ct _) ⟨fL (GEvent.enc _),trivial⟩ (.inl rfl) ?_)|fail)
theorem creates_ct (a:List GCard) (b:GState) (c:GEvent) (ha:a.length*176≤limB) (ma:∀ y∈a,GCard.ok y) (hb:b.ok):Ct Tryz.prog 68 [.c (.t (.sl 17 (a.map GCard.enc))),.agg (b.enc.map .t),.agg (c.enc.map .t)] (AV.b (livM b c.player&&(tokM a c.card&&amtM c.amount))) [] true:=by
 obtain ⟨r,hr,h⟩:=creates_ct_ a b c ha ma hb
 rw [hr] at h
 exact h
theorem moves_ct_ (a:GState) (b:GEvent) (ha:a.ok):∃ r:Bool,(r=(hasM a.objects b.object&&(b.from_==(findM a.objects b.object).zone&&(b.to_ != b.from_&&(decide (b.to_≥0)&&(decide (b.to_≤4)&&(decide (b.player≥0)&&decide (b.player < a.players.length))))))))∧Ct Tryz.prog 64 [.agg (a.enc.map .t),.agg (b.enc.map .t)] (AV.b r) [] true:=by
 have ha_:=ha
 obtain ⟨oa0,oa1,oa2,oa3,oa4,oa5,oa6,oa7,oa8,oa9,oa10,oa11,oa12⟩:=ha_
 refine ct_x (Φ:=fun (r:Bool)=>r=(hasM a.objects b.object&&(b.from_==(findM a.objects b.object).zone&&(b.to_ != b.from_&&(decide (b.to_≥0)&&(decide (b.to_≤4)&&(decide (b.player≥0)&&decide (b.player < a.players.length)))))))) lit_b (ctx_of Tryz.func64 rfl (enters_of Tryz.func64 (by kernel_rfl) rfl) tabOk (by kernel_rfl) rfl rfl (TpX.runY [] [] ?_))
 repeat' (first|(apply cond_p <;> intro _)|(apply cond_ne <;> intro _)|(apply cS <;> intro _)|(apply leaf_x;exact Ei [] (Ai rfl (Ai trivial rfl));exact (by (try simp only [Lm] at *);first|(simp [*];done)|(have hne:=Ne.symm (by assumption:¬ (findM a.objects b.object).zone=b.from_);simp [*];done));rfl)|(apply call_f 69;refine cI (findP_ct _ _ (by first|assumption|exact okmr ‹_› ‹_› | exact okmg _ ‹_›)) ⟨fL (GState.enc _),rfl,trivial⟩ (.inl rfl) ?_)|fail)
theorem moves_ct (a:GState) (b:GEvent) (ha:a.ok):Ct Tryz.prog 64 [.agg (a.enc.map .t),.agg (b.enc.map .t)] (AV.b (hasM a.objects b.object&&(b.from_==(findM a.objects b.object).zone&&(b.to_ != b.from_&&(decide (b.to_≥0)&&(decide (b.to_≤4)&&(decide (b.player≥0)&&decide (b.player < a.players.length)))))))) [] true:=by
 obtain ⟨r,hr,h⟩:=moves_ct_ a b ha
 rw [hr] at h
 exact h
theorem r32in_ (a:GState) (b:Int) (c:Int) (ha:a.ok):∃ r:Bool,(r=(hasM a.objects b&&((findM a.objects b).zone==c)))∧Ct Tryz.prog 83 [.agg (a.enc.map .t),.c (.t (iv b)),.c (.t (iv c))] (AV.b r) [] true:=by
 have ha_:=ha
 obtain ⟨oa0,oa1,oa2,oa3,oa4,oa5,oa6,oa7,oa8,oa9,oa10,oa11,oa12⟩:=ha_
 refine ct_x (Φ:=fun (r:Bool)=>r=(hasM a.objects b&&((findM a.objects b).zone==c))) lit_b (ctx_of Tryz.func83 rfl (enters_of Tryz.func83 (by kernel_rfl) rfl) tabOk (by kernel_rfl) rfl rfl (TpX.runY [] [] ?_))
 repeat' (first|(apply cS <;> intro _)|(apply leaf_x;exact Ei [] (Ai rfl (Ai trivial rfl));exact (by simp [*]);rfl)|(apply call_f 80;refine cI (find_ct _ _ (by first|assumption|exact okmr ‹_› ‹_› | exact okmg _ ‹_›)) ⟨fL (GState.enc _),rfl,trivial⟩ (.inl rfl) ?_)|fail)
theorem r32in (a:GState) (b:Int) (c:Int) (ha:a.ok):Ct Tryz.prog 83 [.agg (a.enc.map .t),.c (.t (iv b)),.c (.t (iv c))] (AV.b (hasM a.objects b&&((findM a.objects b).zone==c))) [] true:=by
 obtain ⟨r,hr,h⟩:=r32in_ a b c ha
 rw [hr] at h
 exact h
theorem isP_ct_ (a:List GCard) (b:GState) (c:GEvent) (ha:a.length*176≤limB) (ma:∀ y∈a,GCard.ok y) (hb:b.ok):∃ r:Bool,(r=(evP a b c))∧Ct Tryz.prog 22 [.c (.t (.sl 17 (a.map GCard.enc))),.agg (b.enc.map .t),.agg (c.enc.map .t)] (AV.b r) [] true:=by
 have hb_:=hb
 obtain ⟨ob0,ob1,ob2,ob3,ob4,ob5,ob6,ob7,ob8,ob9,ob10,ob11,ob12⟩:=hb_
 refine ct_x (Φ:=fun (r:Bool)=>r=(evP a b c)) lit_b (ctx_of Tryz.func22 rfl (enters_of Tryz.func22 (by kernel_rfl) rfl) tabOk (by kernel_rfl) rfl rfl (TpX.runY [] [] ?_))
 repeat' (first|(apply cond_p <;> intro _)|(apply cS <;> intro _)|(apply leaf_x;exact Ei [] (Ai rfl (Ai trivial rfl));exact (by first|contradiction|(simp [evP,evM, *];done));rfl)|(apply call_f 62;refine cI (fielded_ct _ _ (by first|assumption|exact okmr ‹_› ‹_› | exact okmg _ ‹_›)) ⟨fL (GState.enc _),rfl,trivial⟩ (.inl rfl) ?_)|(apply call_f 63;refine cI (hurts_ct _ _ (by first|assumption|exact okmr ‹_› ‹_› | exact okmg _ ‹_›)) ⟨fL (GState.enc _),fL (GEvent.enc _),trivial⟩ (.inl rfl) ?_)|(apply call_f 64;refine cI (moves_ct _ _ (by first|assumption|exact okmr ‹_› ‹_› | exact okmg _ ‹_›)) ⟨fL (GState.enc _),fL (GEvent.enc _),trivial⟩ (.inl rfl) ?_)|(apply call_f 65;refine cI (living_ct _ _ (by first|assumption|exact okmr ‹_› ‹_› | exact okmg _ ‹_›)) ⟨fL (GState.enc _),rfl,trivial⟩ (.inl rfl) ?_)|(apply call_f 66;refine cI (amount_ct _) ⟨fL (GEvent.enc _),trivial⟩ (.inl rfl) ?_)|(apply call_f 67;refine cI (counts_ct _ _ (by first|assumption|exact okmr ‹_› ‹_› | exact okmg _ ‹_›)) ⟨fL (GState.enc _),fL (GEvent.enc _),trivial⟩ (.inl rfl) ?_)|(apply call_f 68;refine cI (creates_ct _ _ _ (by first|assumption|exact okmr ‹_› ‹_› | exact okmg _ ‹_›) (by first|assumption|exact okmr ‹_› ‹_› | exact okmg _ ‹_›) (by first|assumption|exact okmr ‹_› ‹_› | exact okmg _ ‹_›)) ⟨rfl,fL (GState.enc _),fL (GEvent.enc _),trivial⟩ (.inl rfl) ?_)|(apply call_f 69;refine cI (findP_ct _ _ (by first|assumption|exact okmr ‹_› ‹_› | exact okmg _ ‹_›)) ⟨fL (GState.enc _),rfl,trivial⟩ (.inl rfl) ?_)|fail)
theorem isP_ct (a:List GCard) (b:GState) (c:GEvent) (ha:a.length*176≤limB) (ma:∀ y∈a,GCard.ok y) (hb:b.ok):Ct Tryz.prog 22 [.c (.t (.sl 17 (a.map GCard.enc))),.agg (b.enc.map .t),.agg (c.enc.map .t)] (AV.b (evP a b c)) [] true:=by
 obtain ⟨r,hr,h⟩:=isP_ct_ a b c ha ma hb
 rw [hr] at h
 exact h
theorem r32is_ (a:List GCard) (b:GState) (c:GEvent) (_ha:a.length*176≤limB) (_ma:∀ y∈a,GCard.ok y) (hb:b.ok):∃ r:Bool,(r=(evM a b c))∧Ct Tryz.prog 31 [.c (.t (.sl 17 (a.map GCard.enc))),.agg (b.enc.map .t),.agg (c.enc.map .t)] (AV.b r) [] true:=by
 have hb_:=hb
 obtain ⟨ob0,ob1,ob2,ob3,ob4,ob5,ob6,ob7,ob8,ob9,ob10,ob11,ob12⟩:=hb_
 refine ct_x (Φ:=fun (r:Bool)=>r=(evM a b c)) lit_b (ctx_of Tryz.func31 rfl (enters_of Tryz.func31 (by kernel_rfl) rfl) tabOk (by kernel_rfl) rfl rfl (TpX.runY [] [] ?_))
 repeat' (first|(apply ix_k;(first|assumption|omega|(simp only [IntKind.wrap_i64,IntKind.wrap_u64,List.length_cons,List.length_nil];omega)|(simp only [Lm] at *;omega)|decide);(first|assumption|omega|(simp only [IntKind.wrap_i64,IntKind.wrap_u64,List.length_cons,List.length_nil];omega)|(simp only [Lm] at *;omega)|decide);intro _)|(apply cond_p <;> intro _)|(apply cond_ne <;> intro _)|(apply cS <;> intro _)|(apply leaf_x;exact Ei [] (Ai rfl (Ai trivial rfl));exact (by first|contradiction|(simp [evM,hereM, *];done)|(simp_all [evM,hereM];done)|(rw [evM10 ‹_›];simp [tokM_f1 ‹_›, *];done)|(rw [evM10 ‹_›];simp [tokM_f2 ‹_›, *];done)|(rw [evM10 ‹_›,tokM_g ‹_› ‹_›];simp [*];done));rfl)|(apply call_f 80;refine cI (find_ct _ _ (by first|assumption|exact okmr ‹_› ‹_› | exact okmg _ ‹_›)) ⟨fL (GState.enc _),rfl,trivial⟩ (.inl rfl) ?_)|(apply call_f 81;refine cI (r32living _ _ (by first|assumption|exact okmr ‹_› ‹_› | exact okmg _ ‹_›)) ⟨fL (GState.enc _),rfl,trivial⟩ (.inl rfl) ?_)|(apply call_f 82;refine cI (r32amount _) ⟨rfl,trivial⟩ (.inl rfl) ?_)|(apply call_f 83;refine cI (r32in _ _ _ (by first|assumption|exact okmr ‹_› ‹_› | exact okmg _ ‹_›)) ⟨fL (GState.enc _),rfl,rfl,trivial⟩ (.inl rfl) ?_)|fail)
theorem r32is (a:List GCard) (b:GState) (c:GEvent) (ha:a.length*176≤limB) (ma:∀ y∈a,GCard.ok y) (hb:b.ok):Ct Tryz.prog 31 [.c (.t (.sl 17 (a.map GCard.enc))),.agg (b.enc.map .t),.agg (c.enc.map .t)] (AV.b (evM a b c)) [] true:=by
 obtain ⟨r,hr,h⟩:=r32is_ a b c ha ma hb
 rw [hr] at h
 exact h
theorem zab_ok {m:List GMod} (h1:m.length*176≤limB) (h2:∀ y∈m,GMod.ok y):({ zeroAb with mods:=m }:GAbility).ok:=⟨⟨trivial,trivial,trivial⟩,h1,h2,trivial,⟨trivial,trivial,trivial⟩,Nat.zero_le _,fun _ h=>(by cases h),Nat.zero_le _,fun _ h=>(by cases h),⟨trivial,trivial,trivial⟩⟩
theorem zab_fit {st:St} (m:List GMod):FitL st [.t (.lit (.int .i64 0)),.t (.lit (.int .i64 0)),.t (.lit (.int .i64 0)),.t (.lit (.int .i64 0)),.t (.lit (.int .i64 0)),.t (.lit (.int .i64 0)),.t (.lit (.int .i64 0)),.t (.lit (.int .i64 0)),.t (.lit (.string ⟨#[]⟩)),.t (.lit (.int .i64 0)),.t (.lit (.int .i64 0)),.t (.lit (.int .i64 0)),.t (.lit (.int .i64 0)),.t (.lit (.int .i64 0)),.t (.lit (.int .i64 0)),.t (.lit (.int .i64 0)),.t (.lit (.int .i64 0)),.t (.sl 20 (m.map GMod.enc)),.t (.lit (.int .i64 0)),.t (.lit (.int .i64 0)),.t (.lit (.int .i64 0)),.t (.lit (.int .i64 0)),.t (.lit (.int .i64 0)),.t (.lit (.int .i64 0)),.t (.lit (.int .i64 0)),.t (.lit (.bool false)),.t (.lit (.bool false)),.t (.lit (.int .i64 0)),.t (.lit (.bool false)),.t (.lit (.int .i64 0)),.t (.lit (.int .i64 0)),.t (.lit (.int .i64 0)),.t (.lit (.int .i64 0)),.t (.lit (.int .i64 0)),.t (.lit (.int .i64 0)),.t (.lit (.int .i64 0)),.t (.lit (.int .i64 0)),.t (.lit (.int .i64 0)),.t (.lit (.string ⟨#[]⟩)),.t (.lit (.int .i64 0)),.t (.lit (.int .i64 0)),.t (.lit (.int .i64 0)),.t (.lit (.int .i64 0)),.t (.lit (.int .i64 0)),.t (.lit (.int .i64 0)),.t (.lit (.int .i64 0)),.t (.lit (.int .i64 0)),.t (.lit (.bool false)),.nil,.nil,.t (.lit (.int .i64 0)),.t (.lit (.int .i64 0)),.t (.lit (.int .i64 0)),.t (.lit (.int .i64 0)),.t (.lit (.int .i64 0)),.t (.lit (.int .i64 0)),.t (.lit (.int .i64 0)),.t (.lit (.int .i64 0)),.t (.lit (.int .i64 0)),.t (.lit (.string ⟨#[]⟩)),.t (.lit (.int .i64 0)),.t (.lit (.int .i64 0)),.t (.lit (.int .i64 0)),.t (.lit (.int .i64 0)),.t (.lit (.int .i64 0)),.t (.lit (.int .i64 0)),.t (.lit (.int .i64 0)),.t (.lit (.int .i64 0)),.t (.lit (.int .i64 0)),.t (.lit (.int .i64 0)),.t (.lit (.int .i64 0)),.t (.lit (.int .i64 0))] (({ zeroAb with mods:=m }:GAbility).enc.map .t):=by
 repeat' first|refine Ai ?_ ?_|exact rfl|exact trivial|exact Ei _ rfl|refine lN ?_|refine bS ?_|fail
theorem r11hask_ (a:Int) (b:Int):∃ r:Bool,(r=(hasK a b))∧Ct Tryz.prog 137 [.c (.t (iv a)),.c (.t (iv b))] (AV.b r) [] true:=by
 refine ct_x (Φ:=fun (r:Bool)=>r=(hasK a b)) lit_b (ctx_of Tryz.func137 rfl (enters_of Tryz.func137 (by kernel_rfl) rfl) tabOk (by kernel_rfl) rfl rfl (TpX.runY [] [] ?_))
 repeat' (first|(apply leaf_x;exact Ei [] (Ai rfl (Ai trivial rfl));exact (rfl);rfl)|fail)
theorem r11hask (a:Int) (b:Int):Ct Tryz.prog 137 [.c (.t (iv a)),.c (.t (iv b))] (AV.b (hasK a b)) [] true:=by
 obtain ⟨r,hr,h⟩:=r11hask_ a b
 rw [hr] at h
 exact h
theorem key_has_ (a:Int) (b:Int):∃ r:Bool,(r=(hasK a b))∧Ct Tryz.prog 77 [.c (.t (iv a)),.c (.t (iv b))] (AV.b r) [] true:=by
 refine ct_x (Φ:=fun (r:Bool)=>r=(hasK a b)) lit_b (ctx_of Tryz.func77 rfl (enters_of Tryz.func77 (by kernel_rfl) rfl) tabOk (by kernel_rfl) rfl rfl (TpX.runY [] [] ?_))
 repeat' (first|(apply leaf_x;exact Ei [] (Ai rfl (Ai trivial rfl));exact (rfl);rfl)|fail)
theorem key_has (a:Int) (b:Int):Ct Tryz.prog 77 [.c (.t (iv a)),.c (.t (iv b))] (AV.b (hasK a b)) [] true:=by
 obtain ⟨r,hr,h⟩:=key_has_ a b
 rw [hr] at h
 exact h
theorem r33deadly_ (a:GState) (b:List GTraits) (c:Int) (ha:a.ok) (_hb:b.length*176≤limB) (_mb:∀ y∈b,GTraits.ok y):∃ r:Bool,(r=(deadM a b c))∧Ct Tryz.prog 92 [.agg (a.enc.map .t),.c (.t (.sl 17 (b.map GTraits.enc))),.c (.t (iv c))] (AV.b r) [] true:=by
 have ha_:=ha
 obtain ⟨oa0,oa1,oa2,oa3,oa4,oa5,oa6,oa7,oa8,oa9,oa10,oa11,oa12⟩:=ha_
 refine ct_x (Φ:=fun (r:Bool)=>r=(deadM a b c)) lit_b (ctx_of Tryz.func92 rfl (enters_of Tryz.func92 (by kernel_rfl) rfl) tabOk (by kernel_rfl) rfl rfl (TpX.runY [] [] ?_))
 repeat' (first|(apply ix_k;(first|assumption|omega|(simp only [IntKind.wrap_i64,IntKind.wrap_u64,List.length_cons,List.length_nil];omega)|(simp only [Lm] at *;omega)|decide);(first|assumption|omega|(simp only [IntKind.wrap_i64,IntKind.wrap_u64,List.length_cons,List.length_nil];omega)|(simp only [Lm] at *;omega)|decide);intro _)|(apply cond_p <;> intro _)|(apply leaf_x;exact Ei [] (Ai rfl (Ai trivial rfl));exact (by first|exact dead_hit ‹_› ‹_› ‹_› ‹_› ‹_› | exact dead_e1 ‹_› ‹_› | exact dead_e2 ‹_› ‹_›);rfl)|(apply lp_at 2 rfl;refine LpX.up (β:=Unit) 2 7 ((((a.objects.map GObject.enc).length:Nat):Int)) (by first|omega|exact len62 (by first|assumption|exact okmr ‹_› ‹_› | exact okmg _ ‹_›) rfl) (by omega) (fun _=>[]) (fun i _=>Up (noD b c) a.objects i) [1,2,3] [0] 200000 rfl ?_;refine Ai ?_ (fun _ _ _ _ _=>TpX.runY [] [] ?_))|exact Ei () (Ai (by first|exact Up.zero|exact Up.step ‹_› ‹_› ‹_› (by first|exact noD_1 ‹_› | exact noD_2 ‹_› ‹_›)) (wk_slim rfl rfl rfl rfl))|exact Ai (by first|assumption|omega) (Ei () (Ai (by first|exact Up.zero|exact Up.step ‹_› ‹_› ‹_› (by first|exact noD_1 ‹_› | exact noD_2 ‹_› ‹_›)) (wk_slim rfl rfl rfl rfl)))|(apply call_f 137;refine cI (r11hask _ _) ⟨rfl,rfl,trivial⟩ (.inl rfl) ?_)|fail)
theorem r33deadly (a:GState) (b:List GTraits) (c:Int) (ha:a.ok) (hb:b.length*176≤limB) (mb:∀ y∈b,GTraits.ok y):Ct Tryz.prog 92 [.agg (a.enc.map .t),.c (.t (.sl 17 (b.map GTraits.enc))),.c (.t (iv c))] (AV.b (deadM a b c)) [] true:=by
 obtain ⟨r,hr,h⟩:=r33deadly_ a b c ha hb mb
 rw [hr] at h
 exact h
theorem act_deadly_ (a:GState) (b:List GTraits) (c:Int) (ha:a.ok) (_hb:b.length*176≤limB) (_mb:∀ y∈b,GTraits.ok y):∃ r:Bool,(r=(deadM a b c))∧Ct Tryz.prog 29 [.agg (a.enc.map .t),.c (.t (.sl 17 (b.map GTraits.enc))),.c (.t (iv c))] (AV.b r) [] true:=by
 have ha_:=ha
 obtain ⟨oa0,oa1,oa2,oa3,oa4,oa5,oa6,oa7,oa8,oa9,oa10,oa11,oa12⟩:=ha_
 refine ct_x (Φ:=fun (r:Bool)=>r=(deadM a b c)) lit_b (ctx_of Tryz.func29 rfl (enters_of Tryz.func29 (by kernel_rfl) rfl) tabOk (by kernel_rfl) rfl rfl (TpX.runY [] [] ?_))
 repeat' (first|(apply ix_k;(first|assumption|omega|(simp only [IntKind.wrap_i64,IntKind.wrap_u64,List.length_cons,List.length_nil];omega)|(simp only [Lm] at *;omega)|decide);(first|assumption|omega|(simp only [IntKind.wrap_i64,IntKind.wrap_u64,List.length_cons,List.length_nil];omega)|(simp only [Lm] at *;omega)|decide);intro _)|(apply cond_p <;> intro _)|(apply leaf_x;exact Ei [] (Ai rfl (Ai trivial rfl));exact (by first|exact dead_hit ‹_› ‹_› ‹_› ‹_› ‹_› | exact dead_e1 ‹_› ‹_› | exact dead_e2 ‹_› ‹_›);rfl)|(apply lp_at 2 rfl;refine LpX.up (β:=Unit) 2 12 ((((a.objects.map GObject.enc).length:Nat):Int)) (by first|omega|exact len62 (by first|assumption|exact okmr ‹_› ‹_› | exact okmg _ ‹_›) rfl) (by omega) (fun _=>[]) (fun i _=>Up (noD b c) a.objects i) [1,2,10,11] [] 200000 rfl ?_;refine Ai ?_ (fun _ _ _ _ _=>TpX.runY [] [] ?_))|exact Ei () (Ai (by first|exact Up.zero|exact Up.step ‹_› ‹_› ‹_› (by first|exact noD_1 ‹_› | exact noD_2 ‹_› ‹_›)) (wk_slim rfl rfl rfl rfl))|exact Ai (by first|assumption|omega) (Ei () (Ai (by first|exact Up.zero|exact Up.step ‹_› ‹_› ‹_› (by first|exact noD_1 ‹_› | exact noD_2 ‹_› ‹_›)) (wk_slim rfl rfl rfl rfl)))|(apply call_f 77;refine cI (key_has _ _) ⟨rfl,rfl,trivial⟩ (.inl rfl) ?_)|fail)
theorem act_deadly (a:GState) (b:List GTraits) (c:Int) (ha:a.ok) (hb:b.length*176≤limB) (mb:∀ y∈b,GTraits.ok y):Ct Tryz.prog 29 [.agg (a.enc.map .t),.c (.t (.sl 17 (b.map GTraits.enc))),.c (.t (iv c))] (AV.b (deadM a b c)) [] true:=by
 obtain ⟨r,hr,h⟩:=act_deadly_ a b c ha hb mb
 rw [hr] at h
 exact h
end Go.Proofs.YtmloamomcbmfhaaGreat
end
section
namespace Go.Proofs.YtmloamomcbmfhaaGreat
open Go Cg Go.RowKit Go.Sort
theorem mark_all (l:List GObject) (i:Nat) (hi:i < l.length) (d:Bool) (e:GEvent) (hk:e.kind=1∨e.kind=6∨e.kind=7∨e.kind=8∨e.kind=9∨e.kind=12∨e.kind=13):CtM Tryz.prog 28 [.eptr 0 0 19 i 0,AV.b d,.agg (e.enc.map .t)] [] [rowQ l] (.tup []) [] [rowQ (l.set i (markM d e l[i]))] []:=by
 rcases hk with hk|hk|hk|hk|hk|hk|hk
 ·exact mark_1 l i hi d e hk
 ·exact mark_6 l i hi d e hk
 ·exact mark_7 l i hi d e hk
 ·exact mark_8 l i hi d e hk
 ·exact mark_9 l i hi d e hk
 ·exact mark_12 l i hi d e hk
 ·exact mark_13 l i hi d e hk
theorem change_all (s:GState) (i:Nat) (hi:i < s.players.length) (e:GEvent) (hk:e.kind=4∨e.kind=5∨e.kind=16∨e.kind=17) (h:s.players[i].library.length*8≤limB) (hb:s.players[i].library.length≤1099511627776):CtM Tryz.prog 26 [.eptr 0 0 14 i 0,.ptr 0 0,.agg (e.enc.map .t)] [cellsR s] [rowPq s.players] (.tup []) [cellsR { s with seed:=(chM e s.seed s.players[i]).2 }] [rowPq (s.players.set i (chM e s.seed s.players[i]).1)] []:=by
 have hs:∀ k,e.kind=k→k=4∨k=5∨k=16→(chM e s.seed s.players[i]).2=s.seed:=fun k hk hk2=>by
  rcases hk2 with rfl|rfl|rfl <;> (unfold chM;rw [hk];rfl)
 rcases hk with hk|hk|hk|hk
 ·rw [hs _ hk (by decide)];exact change_4 s i hi e hk
 ·rw [hs _ hk (by decide)];exact change_5 s i hi e hk
 ·rw [hs _ hk (by decide)];exact change_16 s i hi e hk
 ·exact change_17 s i hi e hk h hb
theorem actdo_not (cards:List GCard) (s:GState) (all:List GTraits) (e:GEvent) (hc:cards.length*176≤limB) (mc:∀ y∈cards,GCard.ok y) (h:s.ok) (hev:evP cards s e=false):Ct Tryz.prog 10 [.c (.t (.sl 17 (cards.map GCard.enc))),.agg (s.enc.map .t),.c (.t (.sl 17 (all.map GTraits.enc))),.agg (e.enc.map .t)] (.agg (s.enc.map .t)) [] false:=by
 have hv:=isP_ct cards s e hc mc h
 rw [hev] at hv
 refine ct_of Tryz.func10 rfl (enters_of Tryz.func10 (by kernel_rfl) rfl) tabOk (by kernel_rfl) rfl rfl rfl rfl fun w0 O _=>Tp.run [3,4,6,8,10,15,23,25,26,27,28,29] ?_
 refine cI (copyP2_ct s h) ⟨fL s.enc,trivial⟩ (.inr rfl) ?_
 refine cI hv ⟨rfl,fL s.enc,fL e.enc,trivial⟩ (.inl rfl) ?_
 refine Tp.run [] ?_
 refine Ei [] (Ai rfl (Ai ?_ ?_))
 all_goals repeat' first|refine Ai ?_ ?_|exact rfl|exact trivial|exact Ei _ rfl|refine lN ?_|refine bS ?_|fail
theorem actdo_2 (cards:List GCard) (s:GState) (all:List GTraits) (e:GEvent) (hc:cards.length*176≤limB) (mc:∀ y∈cards,GCard.ok y) (h:s.ok) (hev:evP cards s e=true) (hk:e.kind=2) (H:MvH s) (hh:hasM s.objects e.object=true) (hz:0≤e.to_∧e.to_≤4):Ct Tryz.prog 10 [.c (.t (.sl 17 (cards.map GCard.enc))),.agg (s.enc.map .t),.c (.t (.sl 17 (all.map GTraits.enc))),.agg (e.enc.map .t)] (.agg ((mvP s e).enc.map .t)) [] false:=by
 have hv:=isP_ct cards s e hc mc h
 rw [hev] at hv
 refine ct_of Tryz.func10 rfl (enters_of Tryz.func10 (by kernel_rfl) rfl) tabOk (by kernel_rfl) rfl rfl rfl rfl fun w0 O _=>Tp.run [3,4,6,8,10,15,23,25,26,27,28,29] ?_
 refine cI (copyP2_ct s h) ⟨fL s.enc,trivial⟩ (.inr rfl) ?_
 refine cI hv ⟨rfl,fL s.enc,fL e.enc,trivial⟩ (.inl rfl) ?_
 refine Tp.run [] ?_
 repeat' (first|refine cond_t (beq_t hk) ?_|refine cond_f (beq_f hk (by decide)) ?_)
 refine Tp.frz [] (Tp.run [] ?_)
 refine cI (actmove_ct s e h H hh hz) ⟨?_,fL e.enc,trivial⟩ (.inr rfl) ?_
 ·repeat' first|refine Ai ?_ ?_|exact rfl|exact trivial|exact Ei _ rfl|refine lN ?_|refine bS ?_|fail
 refine Ei [] (Ai rfl (Ai ?_ ?_))
 all_goals repeat' first|refine Ai ?_ ?_|exact rfl|exact trivial|exact Ei _ rfl|refine lN ?_|refine bS ?_|fail
theorem actdo_10 (cards:List GCard) (s:GState) (all:List GTraits) (e:GEvent) (hc:cards.length*176≤limB) (mc:∀ y∈cards,GCard.ok y) (h:s.ok) (hev:evP cards s e=true) (hk:e.kind=10) (hlt:∀ y∈s.objects,y.id < s.nextId) (hb:s.battlefield.length+e.amount.toNat≤2000000) (hn:0≤s.nextId∧s.nextId+(e.amount.toNat:Int)≤1000000):Ct Tryz.prog 10 [.c (.t (.sl 17 (cards.map GCard.enc))),.agg (s.enc.map .t),.c (.t (.sl 17 (all.map GTraits.enc))),.agg (e.enc.map .t)] (.agg ((mkM s e e.amount.toNat).enc.map .t)) [] false:=by
 have hv:=isP_ct cards s e hc mc h
 rw [hev] at hv
 refine ct_of Tryz.func10 rfl (enters_of Tryz.func10 (by kernel_rfl) rfl) tabOk (by kernel_rfl) rfl rfl rfl rfl fun w0 O _=>Tp.run [3,4,6,8,10,15,23,25,26,27,28,29] ?_
 refine cI (copyP2_ct s h) ⟨fL s.enc,trivial⟩ (.inr rfl) ?_
 refine cI hv ⟨rfl,fL s.enc,fL e.enc,trivial⟩ (.inl rfl) ?_
 refine Tp.run [] ?_
 repeat' (first|refine cond_t (beq_t hk) ?_|refine cond_f (beq_f hk (by decide)) ?_)
 refine Tp.frz [] (Tp.run [] ?_)
 refine cI (actcreate_ct s e h hlt hb hn) ⟨?_,fL e.enc,trivial⟩ (.inr rfl) ?_
 ·repeat' first|refine Ai ?_ ?_|exact rfl|exact trivial|exact Ei _ rfl|refine lN ?_|refine bS ?_|fail
 refine Ei [] (Ai rfl (Ai ?_ ?_))
 all_goals repeat' first|refine Ai ?_ ?_|exact rfl|exact trivial|exact Ei _ rfl|refine lN ?_|refine bS ?_|fail
theorem actdo_3 (cards:List GCard) (s:GState) (all:List GTraits) (e:GEvent) (hc:cards.length*176≤limB) (mc:∀ y∈cards,GCard.ok y) (h:s.ok) (hev:evP cards s e=true) (hk:e.kind=3) (H:MvH s) (hp:livM s e.player=true) (hlib:∀ p∈s.players,∀ id∈p.library,hasM s.objects id=true):Ct Tryz.prog 10 [.c (.t (.sl 17 (cards.map GCard.enc))),.agg (s.enc.map .t),.c (.t (.sl 17 (all.map GTraits.enc))),.agg (e.enc.map .t)] (.agg ((drawM s e.player).enc.map .t)) [] false:=by
 obtain ⟨p1,p2⟩:=livM_t hp
 obtain ⟨p,hpe⟩:∃ p:Nat,e.player=p:=⟨e.player.toNat,by omega⟩
 have hpl:p < s.players.length:=by omega
 cases hl:s.players[p].library with
 | nil=>
  have hd:drawM s e.player={ s with players:=s.players.set p { s.players[p] with failed:=true } }:=by
   unfold drawM updP
   rw [hpe,Int.toNat_natCast,List.getElem?_eq_getElem hpl]
   simp only [hl]
  rw [hd]
  have hv:=isP_ct cards s e hc mc h
  rw [hev] at hv
  refine ct_of Tryz.func10 rfl (enters_of Tryz.func10 (by kernel_rfl) rfl) tabOk (by kernel_rfl) rfl rfl rfl rfl fun w0 O _=>Tp.run [3,4,6,8,10,15,23,25,26,27,28,29] ?_
  refine cI (copyP2_ct s h) ⟨fL s.enc,trivial⟩ (.inr rfl) ?_
  refine cI hv ⟨rfl,fL s.enc,fL e.enc,trivial⟩ (.inl rfl) ?_
  refine Tp.run [] ?_
  repeat' (first|refine cond_t (beq_t hk) ?_|refine cond_f (beq_f hk (by decide)) ?_)
  refine Tp.frz [512] (Tp.run [] ?_)
  refine cM [] [(512,0)] (actdraw_ctm s p hpl hl) ?_ ?_ ?_
  ·repeat' first|refine Ai ?_ ?_|exact rfl|exact trivial|exact Ei _ rfl|refine lN ?_|refine bS ?_|fail
   exact congrArg iv hpe
  ·exact rfl
  refine Ei [] (Ai rfl (Ai ?_ ?_))
  all_goals repeat' first|refine Ai ?_ ?_|exact rfl|exact trivial|exact Ei _ rfl|refine lN ?_|refine bS ?_|fail
 | cons id l=>
  have hh:=hlib _ (List.getElem_mem hpl) id (by rw [hl];exact List.mem_cons_self)
  rw [hpe]
  have hv:=isP_ct cards s e hc mc h
  rw [hev] at hv
  refine ct_of Tryz.func10 rfl (enters_of Tryz.func10 (by kernel_rfl) rfl) tabOk (by kernel_rfl) rfl rfl rfl rfl fun w0 O _=>Tp.run [3,4,6,8,10,15,23,25,26,27,28,29] ?_
  refine cI (copyP2_ct s h) ⟨fL s.enc,trivial⟩ (.inr rfl) ?_
  refine cI hv ⟨rfl,fL s.enc,fL e.enc,trivial⟩ (.inl rfl) ?_
  refine Tp.run [] ?_
  repeat' (first|refine cond_t (beq_t hk) ?_|refine cond_f (beq_f hk (by decide)) ?_)
  refine Tp.frz [] (Tp.run [] ?_)
  refine cI (actdraw_ct s p id l h H hpl hl hh) ⟨?_,?_,trivial⟩ (.inr rfl) ?_
  ·repeat' first|refine Ai ?_ ?_|exact rfl|exact trivial|exact Ei _ rfl|refine lN ?_|refine bS ?_|fail
  ·exact congrArg iv hpe
  refine Ei [] (Ai rfl (Ai ?_ ?_))
  all_goals repeat' first|refine Ai ?_ ?_|exact rfl|exact trivial|exact Ei _ rfl|refine lN ?_|refine bS ?_|fail
theorem actdo_life (cards:List GCard) (s:GState) (all:List GTraits) (e:GEvent) (hc:cards.length*176≤limB) (mc:∀ y∈cards,GCard.ok y) (h:s.ok) (hev:evP cards s e=true) (hk:e.kind=4∨e.kind=5∨e.kind=16∨e.kind=17) (hp:livM s e.player=true) (hlb:∀ p∈s.players,p.library.length≤1099511627776):Ct Tryz.prog 10 [.c (.t (.sl 17 (cards.map GCard.enc))),.agg (s.enc.map .t),.c (.t (.sl 17 (all.map GTraits.enc))),.agg (e.enc.map .t)] (.agg ((lifeM s e).enc.map .t)) [] false:=by
 obtain ⟨p1,p2⟩:=livM_t hp
 obtain ⟨p,hpe⟩:∃ p:Nat,e.player=p:=⟨e.player.toNat,by omega⟩
 have hpl:p < s.players.length:=by omega
 have hpl2:p < (s.players.map GPlayer.enc).length:=by rw [Lm];exact hpl
 have hch:=change_all s p hpl e hk (h.2.1 _ (List.getElem_mem hpl)).1 (hlb _ (List.getElem_mem hpl))
 rw [lifeM_eq hpl hpe]
 have hv:=isP_ct cards s e hc mc h
 rw [hev] at hv
 refine ct_of Tryz.func10 rfl (enters_of Tryz.func10 (by kernel_rfl) rfl) tabOk (by kernel_rfl) rfl rfl rfl rfl fun w0 O _=>Tp.run [3,4,6,8,10,15,23,25,26,27,28,29] ?_
 refine cI (copyP2_ct s h) ⟨fL s.enc,trivial⟩ (.inr rfl) ?_
 refine cI hv ⟨rfl,fL s.enc,fL e.enc,trivial⟩ (.inl rfl) ?_
 refine Tp.run [] ?_
 rcases hk with hk|hk|hk|hk
 all_goals
  repeat' (first|refine cond_t (beq_t hk) ?_|refine cond_f (beq_f hk (by decide)) ?_)
  refine Tp.frz [512] (Tp.run [] ?_)
  refine Ei p (Ai hpe (Ai hpl2 ?_))
  refine cM [640] [(512,0)] hch ?_ ?_ ?_
  ·repeat' first|refine Ai ?_ ?_|exact rfl|exact trivial|exact Ei _ rfl|refine lN ?_|refine bS ?_|fail
  ·exact rfl
  refine Tp.run [] ?_
  refine Ei [] (Ai rfl (Ai ?_ ?_))
  all_goals repeat' first|refine Ai ?_ ?_|exact rfl|exact trivial|exact Ei _ rfl|refine lN ?_|refine bS ?_|fail
theorem actdo_ob (cards:List GCard) (s:GState) (all:List GTraits) (e:GEvent) (hc:cards.length*176≤limB) (mc:∀ y∈cards,GCard.ok y) (h:s.ok) (hev:evP cards s e=true) (hk:e.kind=1∨e.kind=6∨e.kind=7∨e.kind=8∨e.kind=9∨e.kind=12) (ha:all.length*176≤limB) (ma:∀ y∈all,GTraits.ok y) (hh:hasM s.objects e.object=true):Ct Tryz.prog 10 [.c (.t (.sl 17 (cards.map GCard.enc))),.agg (s.enc.map .t),.c (.t (.sl 17 (all.map GTraits.enc))),.agg (e.enc.map .t)] (.agg ((objM s all e).enc.map .t)) [] false:=by
 obtain ⟨i,hi,h1,h2,h3⟩:=has_idx hh
 have hmk:=mark_all s.objects i hi (deadM s all e.source) e (by omega)
 rw [objM_eq hi h1 h2 h3 hh (by omega)]
 have hv:=isP_ct cards s e hc mc h
 rw [hev] at hv
 refine ct_of Tryz.func10 rfl (enters_of Tryz.func10 (by kernel_rfl) rfl) tabOk (by kernel_rfl) rfl rfl rfl rfl fun w0 O _=>Tp.run [3,4,6,8,10,15,23,25,26,27,28,29] ?_
 refine cI (copyP2_ct s h) ⟨fL s.enc,trivial⟩ (.inr rfl) ?_
 refine cI hv ⟨rfl,fL s.enc,fL e.enc,trivial⟩ (.inl rfl) ?_
 refine Tp.run [] ?_
 rcases hk with hk|hk|hk|hk|hk|hk
 all_goals
  repeat' (first|refine cond_t (beq_t hk) ?_|refine cond_f (beq_f hk (by decide)) ?_)
  refine Tp.frz [513] (Tp.run [] ?_)
  refine cM [640] [(513,0)] (find_ctm s e.object i h.2.2.1 hi h3 (first_no h1)) ?_ ?_ ?_
  ·repeat' first|refine Ai ?_ ?_|exact rfl|exact trivial|exact Ei _ rfl|refine lN ?_|refine bS ?_|fail
  ·exact rfl
  refine Tp.run [] ?_
  refine cI (act_deadly s all e.source h ha ma) ⟨fL s.enc,rfl,rfl,trivial⟩ (.inl rfl) ?_
  refine cM [] [(513,0)] hmk ?_ ?_ ?_
  ·repeat' first|refine Ai ?_ ?_|exact rfl|exact trivial|exact Ei _ rfl|refine lN ?_|refine bS ?_|fail
  ·exact rfl
  by_cases hs:hasM (s.objects.set i (markM (deadM s all e.source) e s.objects[i])) e.source=true
  ·obtain ⟨j,hj,g1,g2,g3⟩:=has_idx hs
   refine Tp.run [] ?_
   refine cM [640] [(513,0)] (find_ctm { s with objects:=s.objects.set i (markM (deadM s all e.source) e s.objects[i]) } e.source j (by rw [List.length_set];exact h.2.2.1) hj g3 (first_no g1)) ?_ ?_ ?_
   ·repeat' first|refine Ai ?_ ?_|exact rfl|exact trivial|exact Ei _ rfl|refine lN ?_|refine bS ?_|fail
   ·exact rfl
   refine Tp.run [] ?_
   refine cond_f (beq_f hk (by decide)) ?_
   refine Tp.run [] ?_
   refine Ei [] (Ai rfl (Ai ?_ ?_))
   all_goals repeat' first|refine Ai ?_ ?_|exact rfl|exact trivial|exact Ei _ rfl|refine lN ?_|refine bS ?_|fail
  ·have hs:hasM (s.objects.set i (markM (deadM s all e.source) e s.objects[i])) e.source=false:=by simpa using hs
   refine Tp.run [] ?_
   refine cM [640] [(513,0)] (findN_ctm { s with objects:=s.objects.set i (markM (deadM s all e.source) e s.objects[i]) } e.source (by rw [List.length_set];exact h.2.2.1) (has_no hs)) ?_ ?_ ?_
   ·repeat' first|refine Ai ?_ ?_|exact rfl|exact trivial|exact Ei _ rfl|refine lN ?_|refine bS ?_|fail
   ·exact rfl
   refine Tp.run [] ?_
   refine cond_f (beq_f hk (by decide)) ?_
   refine Tp.run [] ?_
   refine Ei [] (Ai rfl (Ai ?_ ?_))
   all_goals repeat' first|refine Ai ?_ ?_|exact rfl|exact trivial|exact Ei _ rfl|refine lN ?_|refine bS ?_|fail
theorem actdo_13 (cards:List GCard) (s:GState) (all:List GTraits) (e:GEvent) (hc:cards.length*176≤limB) (mc:∀ y∈cards,GCard.ok y) (h:s.ok) (hev:evP cards s e=true) (hk:e.kind=13) (ha:all.length*176≤limB) (ma:∀ y∈all,GTraits.ok y) (hh:hasM s.objects e.object=true) (hs:hasM s.objects e.source=true):Ct Tryz.prog 10 [.c (.t (.sl 17 (cards.map GCard.enc))),.agg (s.enc.map .t),.c (.t (.sl 17 (all.map GTraits.enc))),.agg (e.enc.map .t)] (.agg ((objM s all e).enc.map .t)) [] false:=by
 obtain ⟨i,hi,h1,h2,h3⟩:=has_idx hh
 have hmk:=mark_all s.objects i hi (deadM s all e.source) e (by omega)
 have hs:=has_set hi (x:=markM (deadM s all e.source) e s.objects[i]) (mark_f _ e _).1 hs
 obtain ⟨j,hj,g1,g2,g3⟩:=has_idx hs
 rw [objM_13 hi h1 h2 h3 hh hk rfl hj g1 g2 g3]
 have hv:=isP_ct cards s e hc mc h
 rw [hev] at hv
 refine ct_of Tryz.func10 rfl (enters_of Tryz.func10 (by kernel_rfl) rfl) tabOk (by kernel_rfl) rfl rfl rfl rfl fun w0 O _=>Tp.run [3,4,6,8,10,15,23,25,26,27,28,29] ?_
 refine cI (copyP2_ct s h) ⟨fL s.enc,trivial⟩ (.inr rfl) ?_
 refine cI hv ⟨rfl,fL s.enc,fL e.enc,trivial⟩ (.inl rfl) ?_
 refine Tp.run [] ?_
 repeat' (first|refine cond_t (beq_t hk) ?_|refine cond_f (beq_f hk (by decide)) ?_)
 refine Tp.frz [513] (Tp.run [] ?_)
 refine cM [640] [(513,0)] (find_ctm s e.object i h.2.2.1 hi h3 (first_no h1)) ?_ ?_ ?_
 ·repeat' first|refine Ai ?_ ?_|exact rfl|exact trivial|exact Ei _ rfl|refine lN ?_|refine bS ?_|fail
 ·exact rfl
 refine Tp.run [] ?_
 refine cI (act_deadly s all e.source h ha ma) ⟨fL s.enc,rfl,rfl,trivial⟩ (.inl rfl) ?_
 refine cM [] [(513,0)] hmk ?_ ?_ ?_
 ·repeat' first|refine Ai ?_ ?_|exact rfl|exact trivial|exact Ei _ rfl|refine lN ?_|refine bS ?_|fail
 ·exact rfl
 refine Tp.run [] ?_
 refine cM [640] [(513,0)] (find_ctm { s with objects:=s.objects.set i (markM (deadM s all e.source) e s.objects[i]) } e.source j (by rw [List.length_set];exact h.2.2.1) hj g3 (first_no g1)) ?_ ?_ ?_
 ·repeat' first|refine Ai ?_ ?_|exact rfl|exact trivial|exact Ei _ rfl|refine lN ?_|refine bS ?_|fail
 ·exact rfl
 refine Tp.run [] ?_
 refine cond_t (beq_t hk) ?_
 refine Tp.run [] ?_
 refine Ei _ (Ai (map_get _ _ j hj) (Ai (Nb rfl) ?_))
 refine Tp.run [] ?_
 refine Ei [] (Ai rfl (Ai ?_ ?_))
 ·repeat' first|refine Ai ?_ ?_|exact rfl|exact trivial|exact Ei _ rfl|refine lN ?_|refine bS ?_|fail
 ·repeat' first|refine Ai ?_ ?_|exact rfl|exact trivial|exact Ei _ rfl|refine lN ?_|refine bS ?_|fail
  exact congrArg (Tr.sl 19) (ob_set1 _ j _ _ rfl).symm
theorem actdo_ot (cards:List GCard) (s:GState) (all:List GTraits) (e:GEvent) (hc:cards.length*176≤limB) (mc:∀ y∈cards,GCard.ok y) (h:s.ok) (hev:evP cards s e=true) (hk:e.kind=11∨e.kind=14∨e.kind=15):Ct Tryz.prog 10 [.c (.t (.sl 17 (cards.map GCard.enc))),.agg (s.enc.map .t),.c (.t (.sl 17 (all.map GTraits.enc))),.agg (e.enc.map .t)] (.agg (s.enc.map .t)) [] false:=by
 have hv:=isP_ct cards s e hc mc h
 rw [hev] at hv
 refine ct_of Tryz.func10 rfl (enters_of Tryz.func10 (by kernel_rfl) rfl) tabOk (by kernel_rfl) rfl rfl rfl rfl fun w0 O _=>Tp.run [3,4,6,8,10,15,23,25,26,27,28,29] ?_
 refine cI (copyP2_ct s h) ⟨fL s.enc,trivial⟩ (.inr rfl) ?_
 refine cI hv ⟨rfl,fL s.enc,fL e.enc,trivial⟩ (.inl rfl) ?_
 refine Tp.run [] ?_
 rcases hk with hk|hk|hk
 all_goals
  repeat' (first|refine cond_t (beq_t hk) ?_|refine cond_f (beq_f hk (by decide)) ?_)
  refine Tp.run [] ?_
  refine Ei [] (Ai rfl (Ai ?_ ?_))
  all_goals repeat' first|refine Ai ?_ ?_|exact rfl|exact trivial|exact Ei _ rfl|refine lN ?_|refine bS ?_|fail
theorem actdo_1n (cards:List GCard) (s:GState) (all:List GTraits) (e:GEvent) (hc:cards.length*176≤limB) (mc:∀ y∈cards,GCard.ok y) (h:s.ok) (hev:evP cards s e=true) (hk:e.kind=1) (hh:hasM s.objects e.object=false):Ct Tryz.prog 10 [.c (.t (.sl 17 (cards.map GCard.enc))),.agg (s.enc.map .t),.c (.t (.sl 17 (all.map GTraits.enc))),.agg (e.enc.map .t)] (.agg (s.enc.map .t)) [] false:=by
 have hv:=isP_ct cards s e hc mc h
 rw [hev] at hv
 refine ct_of Tryz.func10 rfl (enters_of Tryz.func10 (by kernel_rfl) rfl) tabOk (by kernel_rfl) rfl rfl rfl rfl fun w0 O _=>Tp.run [3,4,6,8,10,15,23,25,26,27,28,29] ?_
 refine cI (copyP2_ct s h) ⟨fL s.enc,trivial⟩ (.inr rfl) ?_
 refine cI hv ⟨rfl,fL s.enc,fL e.enc,trivial⟩ (.inl rfl) ?_
 refine Tp.run [] ?_
 repeat' (first|refine cond_t (beq_t hk) ?_|refine cond_f (beq_f hk (by decide)) ?_)
 refine Tp.frz [513] (Tp.run [] ?_)
 refine cM [640] [(513,0)] (findN_ctm s e.object h.2.2.1 (has_no hh)) ?_ ?_ ?_
 ·repeat' first|refine Ai ?_ ?_|exact rfl|exact trivial|exact Ei _ rfl|refine lN ?_|refine bS ?_|fail
 ·exact rfl
 by_cases hs:hasM s.objects e.source=true
 ·obtain ⟨j,hj,g1,g2,g3⟩:=has_idx hs
  refine Tp.run [] ?_
  refine cM [640] [(513,0)] (find_ctm s e.source j h.2.2.1 hj g3 (first_no g1)) ?_ ?_ ?_
  ·repeat' first|refine Ai ?_ ?_|exact rfl|exact trivial|exact Ei _ rfl|refine lN ?_|refine bS ?_|fail
  ·exact rfl
  refine Tp.run [] ?_
  refine cond_f (beq_f hk (by decide)) ?_
  refine Tp.run [] ?_
  refine Ei [] (Ai rfl (Ai ?_ ?_))
  all_goals repeat' first|refine Ai ?_ ?_|exact rfl|exact trivial|exact Ei _ rfl|refine lN ?_|refine bS ?_|fail
 ·have hs:hasM s.objects e.source=false:=by simpa using hs
  refine Tp.run [] ?_
  refine cM [640] [(513,0)] (findN_ctm s e.source h.2.2.1 (has_no hs)) ?_ ?_ ?_
  ·repeat' first|refine Ai ?_ ?_|exact rfl|exact trivial|exact Ei _ rfl|refine lN ?_|refine bS ?_|fail
  ·exact rfl
  refine Tp.run [] ?_
  refine cond_f (beq_f hk (by decide)) ?_
  refine Tp.run [] ?_
  refine Ei [] (Ai rfl (Ai ?_ ?_))
  all_goals repeat' first|refine Ai ?_ ?_|exact rfl|exact trivial|exact Ei _ rfl|refine lN ?_|refine bS ?_|fail
section
variable {q:Opq} {c:Int}
theorem r33life_4 (s:GState) (e:GEvent) (h:s.ok) (hk:e.kind=4) (i:Nat) (hi:i < s.players.length) (he:e.player=i):Ct Tryz.prog 34 [.agg (s.enc.map .t),.agg (e.enc.map .t)] (.agg ((lifeM s e).enc.map .t)) [] false:=by
 rw [lifeM_eq hi he]
 have hm:chM e s.seed s.players[i]=({ s.players[i] with life:=addM s.players[i].life e.amount },s.seed):=by unfold chM;rw [hk];rfl
 rw [hm]
 have hw:=r33with s (i:Int) { s.players[i] with life:=addM s.players[i].life e.amount } h (by omega)
 refine ct_of Tryz.func34 rfl (enters_of Tryz.func34 (by kernel_rfl) rfl) tabOk (by kernel_rfl) rfl rfl rfl rfl fun w0 O _=>Tp.run [3,4,6,8,10,13] ?_
 refine Ei i (Ei _ (Ai he (Ai (map_get _ _ i hi) ?_)))
 refine Tp.run [4,6,8,10] ?_
 repeat' (first|refine cond_t (beq_t hk) ?_|refine cond_f (beq_f hk (by decide)) ?_)
 refine Tp.run [] ?_
 refine cI (r01add s.players[i].life e.amount) ⟨rfl,rfl,trivial⟩ (.inl rfl) ?_
 refine Tp.run [] ?_
 refine cI hw ⟨fL s.enc,congrArg iv he,?_,trivial⟩ (.inr rfl) ?_
 ·repeat' first|refine Ai ?_ ?_|exact rfl|exact trivial|exact Ei _ rfl|refine lN ?_|refine bS ?_|fail
 refine Ei [] (Ai rfl (Ai ?_ ?_))
 all_goals repeat' first|refine Ai ?_ ?_|exact rfl|exact trivial|exact Ei _ rfl|refine lN ?_|refine bS ?_|fail
theorem r33life_5 (s:GState) (e:GEvent) (h:s.ok) (hk:e.kind=5) (i:Nat) (hi:i < s.players.length) (he:e.player=i):Ct Tryz.prog 34 [.agg (s.enc.map .t),.agg (e.enc.map .t)] (.agg ((lifeM s e).enc.map .t)) [] false:=by
 rw [lifeM_eq hi he]
 have hm:chM e s.seed s.players[i]=({ s.players[i] with life:=subM s.players[i].life e.amount },s.seed):=by unfold chM;rw [hk];rfl
 rw [hm]
 have hw:=r33with s (i:Int) { s.players[i] with life:=subM s.players[i].life e.amount } h (by omega)
 refine ct_of Tryz.func34 rfl (enters_of Tryz.func34 (by kernel_rfl) rfl) tabOk (by kernel_rfl) rfl rfl rfl rfl fun w0 O _=>Tp.run [3,4,6,8,10,13] ?_
 refine Ei i (Ei _ (Ai he (Ai (map_get _ _ i hi) ?_)))
 refine Tp.run [4,6,8,10] ?_
 repeat' (first|refine cond_t (beq_t hk) ?_|refine cond_f (beq_f hk (by decide)) ?_)
 refine Tp.run [] ?_
 refine cI (r01sub s.players[i].life e.amount) ⟨rfl,rfl,trivial⟩ (.inl rfl) ?_
 refine Tp.run [] ?_
 refine cI hw ⟨fL s.enc,congrArg iv he,?_,trivial⟩ (.inr rfl) ?_
 ·repeat' first|refine Ai ?_ ?_|exact rfl|exact trivial|exact Ei _ rfl|refine lN ?_|refine bS ?_|fail
 refine Ei [] (Ai rfl (Ai ?_ ?_))
 all_goals repeat' first|refine Ai ?_ ?_|exact rfl|exact trivial|exact Ei _ rfl|refine lN ?_|refine bS ?_|fail
theorem r33life_16 (s:GState) (e:GEvent) (h:s.ok) (hk:e.kind=16) (i:Nat) (hi:i < s.players.length) (he:e.player=i):Ct Tryz.prog 34 [.agg (s.enc.map .t),.agg (e.enc.map .t)] (.agg ((lifeM s e).enc.map .t)) [] false:=by
 rw [lifeM_eq hi he]
 have hm:chM e s.seed s.players[i]=({ s.players[i] with venom:=addM s.players[i].venom e.amount },s.seed):=by unfold chM;rw [hk];rfl
 rw [hm]
 have hw:=r33with s (i:Int) { s.players[i] with venom:=addM s.players[i].venom e.amount } h (by omega)
 refine ct_of Tryz.func34 rfl (enters_of Tryz.func34 (by kernel_rfl) rfl) tabOk (by kernel_rfl) rfl rfl rfl rfl fun w0 O _=>Tp.run [3,4,6,8,10,13] ?_
 refine Ei i (Ei _ (Ai he (Ai (map_get _ _ i hi) ?_)))
 refine Tp.run [4,6,8,10] ?_
 repeat' (first|refine cond_t (beq_t hk) ?_|refine cond_f (beq_f hk (by decide)) ?_)
 refine Tp.run [] ?_
 refine cI (r01add s.players[i].venom e.amount) ⟨rfl,rfl,trivial⟩ (.inl rfl) ?_
 refine Tp.run [] ?_
 refine cI hw ⟨fL s.enc,congrArg iv he,?_,trivial⟩ (.inr rfl) ?_
 ·repeat' first|refine Ai ?_ ?_|exact rfl|exact trivial|exact Ei _ rfl|refine lN ?_|refine bS ?_|fail
 refine Ei [] (Ai rfl (Ai ?_ ?_))
 all_goals repeat' first|refine Ai ?_ ?_|exact rfl|exact trivial|exact Ei _ rfl|refine lN ?_|refine bS ?_|fail
theorem r33life_17 (s:GState) (e:GEvent) (h:s.ok) (hk:e.kind=17) (i:Nat) (hi:i < s.players.length) (he:e.player=i) (hb:s.players[i].library.length≤1099511627776):Ct Tryz.prog 34 [.agg (s.enc.map .t),.agg (e.enc.map .t)] (.agg ((lifeM s e).enc.map .t)) [] false:=by
 rw [lifeM_eq hi he]
 have hm:chM e s.seed s.players[i]=({ s.players[i] with library:=(shufM s.seed s.players[i].library).1 },(shufM s.seed s.players[i].library).2):=by unfold chM;rw [hk];rfl
 rw [hm]
 have hs:=r06shuffle s.seed s.players[i].library (h.2.1 _ (List.getElem_mem hi)).1 hb
 generalize shufM s.seed s.players[i].library=sh at hs
 have hw:=r33with { s with seed:=sh.2 } (i:Int) { s.players[i] with library:=sh.1 } h (by show 0≤(i:Int)∧(i:Int) < s.players.length;omega)
 refine ct_of Tryz.func34 rfl (enters_of Tryz.func34 (by kernel_rfl) rfl) tabOk (by kernel_rfl) rfl rfl rfl rfl fun w0 O _=>Tp.run [3,4,6,8,10,13] ?_
 refine Ei i (Ei _ (Ai he (Ai (map_get _ _ i hi) ?_)))
 refine Tp.run [4,6,8,10] ?_
 repeat' (first|refine cond_t (beq_t hk) ?_|refine cond_f (beq_f hk (by decide)) ?_)
 refine Tp.run [] ?_
 refine cI hs ⟨rfl,rfl,trivial⟩ (.inr rfl) ?_
 refine Tp.run [] ?_
 refine cI hw ⟨?_,congrArg iv he,?_,trivial⟩ (.inr rfl) ?_
 ·repeat' first|refine Ai ?_ ?_|exact rfl|exact trivial|exact Ei _ rfl|refine lN ?_|refine bS ?_|fail
 ·repeat' first|refine Ai ?_ ?_|exact rfl|exact trivial|exact Ei _ rfl|refine lN ?_|refine bS ?_|fail
 refine Ei [] (Ai rfl (Ai ?_ ?_))
 all_goals repeat' first|refine Ai ?_ ?_|exact rfl|exact trivial|exact Ei _ rfl|refine lN ?_|refine bS ?_|fail
theorem r33life (s:GState) (e:GEvent) (h:s.ok) (hk:e.kind=4∨e.kind=5∨e.kind=16∨e.kind=17) (i:Nat) (hi:i < s.players.length) (he:e.player=i) (hb:s.players[i].library.length≤1099511627776):Ct Tryz.prog 34 [.agg (s.enc.map .t),.agg (e.enc.map .t)] (.agg ((lifeM s e).enc.map .t)) [] false:=by
 rcases hk with hk|hk|hk|hk
 ·exact r33life_4 s e h hk i hi he
 ·exact r33life_5 s e h hk i hi he
 ·exact r33life_16 s e h hk i hi he
 ·exact r33life_17 s e h hk i hi he hb
theorem r33draw (s:GState) (p:Nat) (h:s.ok) (hp:p < s.players.length):Ct Tryz.prog 33 [.agg (s.enc.map .t),.c (.t (iv p))] (.agg ((drawM s p).enc.map .t)) [] false:=by
 cases hl:s.players[p].library with
 | nil=>
  have hd:drawM s p={ s with players:=s.players.set p { s.players[p] with failed:=true,library:=[] } }:=by
   unfold drawM updP
   rw [Int.toNat_natCast,List.getElem?_eq_getElem hp]
   simp only [hl]
  rw [hd]
  have hq:(s.players.map GPlayer.enc)[p]? = some (({ s.players[p] with library:=[] }:GPlayer).enc):=by
   rw [map_get _ _ p hp,← hl]
  have hw:=r33with s (p:Int) { s.players[p] with failed:=true,library:=[] } h (by omega)
  refine ct_of Tryz.func33 rfl (enters_of Tryz.func33 (by kernel_rfl) rfl) tabOk (by kernel_rfl) rfl rfl rfl rfl fun w0 O _=>Tp.run [2,3,4,5] ?_
  refine Ei p (Ei _ (Ai rfl (Ai hq ?_)))
  refine Tp.run [3,5] ?_
  refine Tp.run [] ?_
  refine Tp.run [] ?_
  refine cI hw ⟨fL s.enc,rfl,?_,trivial⟩ (.inr rfl) ?_
  ·repeat' first|refine Ai ?_ ?_|exact rfl|exact trivial|exact Ei _ rfl|refine lN ?_|refine bS ?_|fail
  refine Ei [] (Ai rfl (Ai ?_ ?_))
  all_goals repeat' first|refine Ai ?_ ?_|exact rfl|exact trivial|exact Ei _ rfl|refine lN ?_|refine bS ?_|fail
 | cons id l=>
  have hm:=move_ct s id 1 p false h
  have hd:drawM s p=(moveM s id 1 p false).1:=by
   unfold drawM
   rw [Int.toNat_natCast,List.getElem?_eq_getElem hp]
   simp only [hl]
  rw [hd]
  have hq:(s.players.map GPlayer.enc)[p]? = some (({ s.players[p] with library:=id :: l }:GPlayer).enc):=by
   rw [map_get _ _ p hp,← hl]
  generalize moveM s id 1 p false=r at hm
  refine ct_of Tryz.func33 rfl (enters_of Tryz.func33 (by kernel_rfl) rfl) tabOk (by kernel_rfl) rfl rfl rfl rfl fun w0 O _=>Tp.run [2,3,4,5] ?_
  refine Ei p (Ei _ (Ai rfl (Ai hq ?_)))
  refine Tp.run [3,5] ?_
  refine Tp.run [] ?_
  refine Ei 0 (Ei [iv id] (Ai rfl (Ai rfl ?_)))
  refine cI hm ⟨fL s.enc,rfl,rfl,rfl,rfl,trivial⟩ (.inr rfl) ?_
  refine Ei [] (Ai rfl (Ai ?_ ?_))
  all_goals repeat' first|refine Ai ?_ ?_|exact rfl|exact trivial|exact Ei _ rfl|refine lN ?_|refine bS ?_|fail
theorem r33move (s:GState) (e:GEvent) (h:s.ok) (hv:Val q c s) (hid:hasM s.objects e.object=true) (hz:0≤e.to_∧e.to_≤4) (hp:0≤e.player∧e.player < s.players.length) (hn:s.nextId+1≤1000000∧s.nextStamp+1≤1000000):Ct Tryz.prog 32 [.agg (s.enc.map .t),.agg (e.enc.map .t)] (.agg ((mvR s e).enc.map .t)) [] false:=by
 generalize hM:mvR s e=M
 unfold mvR at hM
 dsimp only at hM
 by_cases hf:e.from_=0
 ·rw [if_pos hf] at hM
  have hv1:=unc_val hv e.object
  have ho1:(uncM s e.object).ok:=ok_val h hv1 (kp_unc s _)
  have hid1:hasM (uncM s e.object).objects e.object=true:=(has_map _ _ _ fun o=>(uncO_f _ o).1).trans hid
  have hok:(moveM (uncM s e.object) e.object e.to_ e.player (e.amount==1)).1.ok:=ok_val h (move_val hv1 e.object e.to_ e.player (e.amount==1) hid1 hz hp hn).val ((kp_unc s _).trans (kp_move _ _ _ _ _))
  have hm:=move_ct (uncM s e.object) e.object e.to_ e.player (e.amount==1) ho1
  have hu:=r33unc s e.object h
  generalize moveM (uncM s e.object) e.object e.to_ e.player (e.amount==1)=r at hM hm hok
  generalize uncM s e.object=u at hm hu
  refine ct_of Tryz.func32 rfl (enters_of Tryz.func32 (by kernel_rfl) rfl) tabOk (by kernel_rfl) rfl rfl rfl rfl fun w0 O _=>Tp.run [2,3,4,5,6] ?_
  refine cond_t (beq_t hf) ?_
  refine Tp.run [] ?_
  refine cI hu ⟨fL s.enc,rfl,trivial⟩ (.inr rfl) ?_
  refine Tp.run [] ?_
  refine cI hm ⟨fL u.enc,rfl,rfl,rfl,rfl,trivial⟩ (.inr rfl) ?_
  refine Tp.run [5,6] ?_
  refine cS (fun h0=>?_) (fun h0=>?_)
  ·have h0:e.to_=0:=by simpa using h0
   rw [if_pos h0] at hM
   subst hM
   refine Tp.run [] ?_
   refine cI (r33arrive r.1 r.2 e hok) ⟨fL r.1.enc,rfl,fL e.enc,trivial⟩ (.inr rfl) ?_
   refine Ei [] (Ai rfl (Ai ?_ ?_))
   all_goals repeat' first|refine Ai ?_ ?_|exact rfl|exact trivial|exact Ei _ rfl|refine lN ?_|refine bS ?_|fail
  ·have h0:¬ e.to_=0:=by simpa using h0
   rw [if_neg h0] at hM
   subst hM
   refine Tp.run [] ?_
   refine Ei [] (Ai rfl (Ai ?_ ?_))
   all_goals repeat' first|refine Ai ?_ ?_|exact rfl|exact trivial|exact Ei _ rfl|refine lN ?_|refine bS ?_|fail
 ·rw [if_neg hf] at hM
  have hok:(moveM s e.object e.to_ e.player (e.amount==1)).1.ok:=ok_val h (move_val hv e.object e.to_ e.player (e.amount==1) hid hz hp hn).val (kp_move _ _ _ _ _)
  have hm:=move_ct s e.object e.to_ e.player (e.amount==1) h
  generalize moveM s e.object e.to_ e.player (e.amount==1)=r at hM hm hok
  refine ct_of Tryz.func32 rfl (enters_of Tryz.func32 (by kernel_rfl) rfl) tabOk (by kernel_rfl) rfl rfl rfl rfl fun w0 O _=>Tp.run [2,3,4,5,6] ?_
  refine cS (fun h=>absurd (by simpa using h) hf) (fun _=>?_)
  refine Tp.run [] ?_
  refine cI hm ⟨fL s.enc,rfl,rfl,rfl,rfl,trivial⟩ (.inr rfl) ?_
  refine Tp.run [5,6] ?_
  refine cS (fun h0=>?_) (fun h0=>?_)
  ·have h0:e.to_=0:=by simpa using h0
   rw [if_pos h0] at hM
   subst hM
   refine Tp.run [] ?_
   refine cI (r33arrive r.1 r.2 e hok) ⟨fL r.1.enc,rfl,fL e.enc,trivial⟩ (.inr rfl) ?_
   refine Ei [] (Ai rfl (Ai ?_ ?_))
   all_goals repeat' first|refine Ai ?_ ?_|exact rfl|exact trivial|exact Ei _ rfl|refine lN ?_|refine bS ?_|fail
  ·have h0:¬ e.to_=0:=by simpa using h0
   rw [if_neg h0] at hM
   subst hM
   refine Tp.run [] ?_
   refine Ei [] (Ai rfl (Ai ?_ ?_))
   all_goals repeat' first|refine Ai ?_ ?_|exact rfl|exact trivial|exact Ei _ rfl|refine lN ?_|refine bS ?_|fail
theorem r33create (s:GState) (e:GEvent) (h:s.ok) (hlt:∀ y∈s.objects,y.id < s.nextId) (hb:s.battlefield.length+e.amount.toNat≤2000000) (hn:0≤s.nextId∧s.nextId+(e.amount.toNat:Int)≤1000000):Ct Tryz.prog 35 [.agg (s.enc.map .t),.agg (e.enc.map .t)] (.agg ((mkM s e e.amount.toNat).enc.map .t)) [] false:=by
 refine ct_of Tryz.func35 rfl (enters_of Tryz.func35 (by kernel_rfl) rfl) tabOk (by kernel_rfl) rfl rfl rfl rfl fun w0 O _=>Tp.run [2,6] ?_
 refine Tp.loop (fun x:Nat × GState=>⟨[(2,.ptr 0 0),(3,.ptr 128 0),(4,.ptr 256 0),(5,AV.i x.1)],[(0,x.2.enc.map .t),(128,e.enc.map .t),(256,List.replicate 19 .bot)],[],10000⟩) (CrP s e) (fun x=>e.amount.toNat - x.1) (0,s) ?_ (CrP.start h hlt hb hn) ?_
 ·refine wk_of [] rfl rfl ?_ ?_ ?_
  all_goals repeat' first|refine Ai ?_ ?_|exact rfl|exact trivial|exact Ei _ rfl|refine lN ?_|refine bS ?_|fail
 rintro ⟨k,S⟩ hk
 refine Tp.run [3,4,5,6] ?_
 have hfin:=fun hh=>(hk.fin hh)
 have hkm:=hk.step
 have hmk:=make_ct S e.card e.player hk.ok
 refine cS (fun hc=>?_) (fun hc=>?_)
 ·refine cS (fun hl=>?_) (fun hl=>?_)
  ·have hl:(S.objects.length:Int) < 2048:=by
    have:=of_decide_eq_true hl
    rwa [Lm] at this
   have hc:(k:Int) < e.amount:=of_decide_eq_true hc
   have hk2:=hkm (by omega) hl
   have hok:=hk.okm (by omega) hl
   clear hkm hfin
   generalize makeM S e.card e.player=r at hmk hk2 hok
   have hkl':k+1≤e.amount.toNat:=hk2.le
   have hkl:IntKind.i64.wrap ((k:Int)+1)=((k+1:Nat):Int):=wrap_succ k (by omega)
   refine Tp.run [] ?_
   refine cI hmk ⟨fL S.enc,rfl,rfl,trivial⟩ (.inr rfl) ?_
   refine Tp.run [] ?_
   refine cI (r33arrive r.1 r.2 e hok) ⟨fL r.1.enc,rfl,fL e.enc,trivial⟩ (.inr rfl) ?_
   refine Tp.run [] ?_
   refine Ei (k+1,arrM r.1 r.2 e) (Ai hk2 (Ai (show e.amount.toNat - (k+1) < e.amount.toNat - k by omega) ?_))
   refine wk_of [] rfl rfl ?_ ?_ ?_
   ·repeat' first|refine Ai ?_ ?_|exact rfl|exact trivial|exact Ei _ rfl|refine lN ?_|refine bS ?_|fail
    exact congrArg iv hkl
   all_goals repeat' first|refine Ai ?_ ?_|exact rfl|exact trivial|exact Ei _ rfl|refine lN ?_|refine bS ?_|fail
  ·have hl:¬ (S.objects.length:Int) < 2048:=by
    have:=of_decide_eq_false hl
    rwa [Lm] at this
   rw [hfin (.inr hl)]
   refine Tp.run [] ?_
   refine Ei [] (Ai rfl (Ai ?_ ?_))
   all_goals repeat' first|refine Ai ?_ ?_|exact rfl|exact trivial|exact Ei _ rfl|refine lN ?_|refine bS ?_|fail
 ·rw [hfin (.inl (of_decide_eq_false hc))]
  refine Tp.run [] ?_
  refine Ei [] (Ai rfl (Ai ?_ ?_))
  all_goals repeat' first|refine Ai ?_ ?_|exact rfl|exact trivial|exact Ei _ rfl|refine lN ?_|refine bS ?_|fail
end
theorem okp {s:GState} {o:GObject} (h:s.ok) (hl:(putM s o).objects.length*128≤limB):(putM s o).ok:=by
 obtain ⟨h1,h2,_,h4,h5⟩:=h
 exact ⟨h1,h2,hl,fun y hy=>obj_ok y,h5⟩
theorem r33obj_1 (s:GState) (all:List GTraits) (e:GEvent) (h:s.ok) (ha:all.length*176≤limB) (ma:∀ y∈all,GTraits.ok y) (hk:e.kind=1) (hh:hasM s.objects e.object=true):Ct Tryz.prog 36 [.agg (s.enc.map .t),.c (.t (.sl 17 (all.map GTraits.enc))),.agg (e.enc.map .t)] (.agg ((objM s all e).enc.map .t)) [] false:=by
 have hf:=find_ct s e.object h.2.2.1
 rw [hh] at hf
 have hm:markM (deadM s all e.source) e (findM s.objects e.object)={ findM s.objects e.object with damage:=addM (findM s.objects e.object).damage e.amount,deadly:=(findM s.objects e.object).deadly||deadM s all e.source }:=by unfold markM;rw [hk];rfl
 have ho:objM s all e=putM s { findM s.objects e.object with damage:=addM (findM s.objects e.object).damage e.amount,deadly:=(findM s.objects e.object).deadly||deadM s all e.source }:=by
  unfold objM
  rw [if_pos hh]
  dsimp only
  rw [if_neg (show ¬ e.kind=13 from fun hx=>by omega),hm]
 rw [ho]
 refine ct_of Tryz.func36 rfl (enters_of Tryz.func36 (by kernel_rfl) rfl) tabOk (by kernel_rfl) rfl rfl rfl rfl fun w0 O _=>Tp.run [3,4,6,7,9,11,13,15,17,19,20,22,23,24,25] ?_
 refine cI hf ⟨fL s.enc,rfl,trivial⟩ (.inr rfl) ?_
 refine Tp.run [6,9,11,13,15,17,19] ?_
 repeat' (first|refine cond_t (beq_t hk) ?_|refine cond_f (beq_f hk (by decide)) ?_)
 refine Tp.run [] ?_
 refine cI (r01add (findM s.objects e.object).damage e.amount) ⟨rfl,rfl,trivial⟩ (.inl rfl) ?_
 refine Tp.run [] ?_
 refine cS (fun hd=>?_) (fun hd=>?_)
 ·refine Tp.run [] ?_
  refine cI (put_ct s { findM s.objects e.object with damage:=addM (findM s.objects e.object).damage e.amount,deadly:=(findM s.objects e.object).deadly||deadM s all e.source } h) ⟨fL s.enc,?_,trivial⟩ (.inr rfl) ?_
  ·repeat' first|refine Ai ?_ ?_|exact rfl|exact trivial|exact Ei _ rfl|refine lN ?_|refine bS ?_|fail
   first
   | exact congrArg bv (by rw [hd];rfl)
   | rfl
  refine cond_f (beq_f hk (by decide)) ?_
  refine Tp.run [] ?_
  refine Ei [] (Ai rfl (Ai ?_ ?_))
  all_goals repeat' first|refine Ai ?_ ?_|exact rfl|exact trivial|exact Ei _ rfl|refine lN ?_|refine bS ?_|fail
 ·refine cI (r33deadly s all e.source h ha ma) ⟨fL s.enc,rfl,rfl,trivial⟩ (.inl rfl) ?_
  refine Tp.run [] ?_
  refine cI (put_ct s { findM s.objects e.object with damage:=addM (findM s.objects e.object).damage e.amount,deadly:=(findM s.objects e.object).deadly||deadM s all e.source } h) ⟨fL s.enc,?_,trivial⟩ (.inr rfl) ?_
  ·repeat' first|refine Ai ?_ ?_|exact rfl|exact trivial|exact Ei _ rfl|refine lN ?_|refine bS ?_|fail
   first
   | exact congrArg bv (by rw [hd];rfl)
   | rfl
  refine cond_f (beq_f hk (by decide)) ?_
  refine Tp.run [] ?_
  refine Ei [] (Ai rfl (Ai ?_ ?_))
  all_goals repeat' first|refine Ai ?_ ?_|exact rfl|exact trivial|exact Ei _ rfl|refine lN ?_|refine bS ?_|fail
theorem r33obj_6 (s:GState) (all:List GTraits) (e:GEvent) (h:s.ok) (hk:e.kind=6) (hh:hasM s.objects e.object=true):Ct Tryz.prog 36 [.agg (s.enc.map .t),.c (.t (.sl 17 (all.map GTraits.enc))),.agg (e.enc.map .t)] (.agg ((objM s all e).enc.map .t)) [] false:=by
 have hf:=find_ct s e.object h.2.2.1
 rw [hh] at hf
 have hm:markM (deadM s all e.source) e (findM s.objects e.object)={ findM s.objects e.object with tapped:=true }:=by unfold markM;rw [hk];rfl
 have ho:objM s all e=putM s { findM s.objects e.object with tapped:=true }:=by
  unfold objM
  rw [if_pos hh]
  dsimp only
  rw [if_neg (show ¬ e.kind=13 from fun hx=>by omega),hm]
 rw [ho]
 refine ct_of Tryz.func36 rfl (enters_of Tryz.func36 (by kernel_rfl) rfl) tabOk (by kernel_rfl) rfl rfl rfl rfl fun w0 O _=>Tp.run [3,4,6,7,9,11,13,15,17,19,20,22,23,24,25] ?_
 refine cI hf ⟨fL s.enc,rfl,trivial⟩ (.inr rfl) ?_
 refine Tp.run [6,9,11,13,15,17,19] ?_
 repeat' (first|refine cond_t (beq_t hk) ?_|refine cond_f (beq_f hk (by decide)) ?_)
 refine Tp.run [] ?_
 refine Tp.run [] ?_
 refine cI (put_ct s { findM s.objects e.object with tapped:=true } h) ⟨fL s.enc,?_,trivial⟩ (.inr rfl) ?_
 ·repeat' first|refine Ai ?_ ?_|exact rfl|exact trivial|exact Ei _ rfl|refine lN ?_|refine bS ?_|fail
 refine cond_f (beq_f hk (by decide)) ?_
 refine Tp.run [] ?_
 refine Ei [] (Ai rfl (Ai ?_ ?_))
 all_goals repeat' first|refine Ai ?_ ?_|exact rfl|exact trivial|exact Ei _ rfl|refine lN ?_|refine bS ?_|fail
theorem r33obj_7 (s:GState) (all:List GTraits) (e:GEvent) (h:s.ok) (hk:e.kind=7) (hh:hasM s.objects e.object=true):Ct Tryz.prog 36 [.agg (s.enc.map .t),.c (.t (.sl 17 (all.map GTraits.enc))),.agg (e.enc.map .t)] (.agg ((objM s all e).enc.map .t)) [] false:=by
 have hf:=find_ct s e.object h.2.2.1
 rw [hh] at hf
 have hm:markM (deadM s all e.source) e (findM s.objects e.object)={ findM s.objects e.object with tapped:=false }:=by unfold markM;rw [hk];rfl
 have ho:objM s all e=putM s { findM s.objects e.object with tapped:=false }:=by
  unfold objM
  rw [if_pos hh]
  dsimp only
  rw [if_neg (show ¬ e.kind=13 from fun hx=>by omega),hm]
 rw [ho]
 refine ct_of Tryz.func36 rfl (enters_of Tryz.func36 (by kernel_rfl) rfl) tabOk (by kernel_rfl) rfl rfl rfl rfl fun w0 O _=>Tp.run [3,4,6,7,9,11,13,15,17,19,20,22,23,24,25] ?_
 refine cI hf ⟨fL s.enc,rfl,trivial⟩ (.inr rfl) ?_
 refine Tp.run [6,9,11,13,15,17,19] ?_
 repeat' (first|refine cond_t (beq_t hk) ?_|refine cond_f (beq_f hk (by decide)) ?_)
 refine Tp.run [] ?_
 refine Tp.run [] ?_
 refine cI (put_ct s { findM s.objects e.object with tapped:=false } h) ⟨fL s.enc,?_,trivial⟩ (.inr rfl) ?_
 ·repeat' first|refine Ai ?_ ?_|exact rfl|exact trivial|exact Ei _ rfl|refine lN ?_|refine bS ?_|fail
 refine cond_f (beq_f hk (by decide)) ?_
 refine Tp.run [] ?_
 refine Ei [] (Ai rfl (Ai ?_ ?_))
 all_goals repeat' first|refine Ai ?_ ?_|exact rfl|exact trivial|exact Ei _ rfl|refine lN ?_|refine bS ?_|fail
theorem r33obj_8 (s:GState) (all:List GTraits) (e:GEvent) (h:s.ok) (hk:e.kind=8) (hh:hasM s.objects e.object=true):Ct Tryz.prog 36 [.agg (s.enc.map .t),.c (.t (.sl 17 (all.map GTraits.enc))),.agg (e.enc.map .t)] (.agg ((objM s all e).enc.map .t)) [] false:=by
 have hf:=find_ct s e.object h.2.2.1
 rw [hh] at hf
 have hm:markM (deadM s all e.source) e (findM s.objects e.object)={ findM s.objects e.object with counters0:=upC 0 e.counter (findM s.objects e.object).counters0 e.amount,counters1:=upC 1 e.counter (findM s.objects e.object).counters1 e.amount,counters2:=upC 2 e.counter (findM s.objects e.object).counters2 e.amount }:=by unfold markM;rw [hk];rfl
 have ho:objM s all e=putM s { findM s.objects e.object with counters0:=upC 0 e.counter (findM s.objects e.object).counters0 e.amount,counters1:=upC 1 e.counter (findM s.objects e.object).counters1 e.amount,counters2:=upC 2 e.counter (findM s.objects e.object).counters2 e.amount }:=by
  unfold objM
  rw [if_pos hh]
  dsimp only
  rw [if_neg (show ¬ e.kind=13 from fun hx=>by omega),hm]
 rw [ho]
 refine ct_of Tryz.func36 rfl (enters_of Tryz.func36 (by kernel_rfl) rfl) tabOk (by kernel_rfl) rfl rfl rfl rfl fun w0 O _=>Tp.run [3,4,6,7,9,11,13,15,17,19,20,22,23,24,25] ?_
 refine cI hf ⟨fL s.enc,rfl,trivial⟩ (.inr rfl) ?_
 refine Tp.run [6,9,11,13,15,17,19] ?_
 repeat' (first|refine cond_t (beq_t hk) ?_|refine cond_f (beq_f hk (by decide)) ?_)
 refine Tp.run [] ?_
 refine cI (r12add (findM s.objects e.object).counters0 (findM s.objects e.object).counters1 (findM s.objects e.object).counters2 e.counter e.amount) ⟨?_,?_,?_,trivial⟩ (.inl rfl) ?_
 ·repeat' first|refine Ai ?_ ?_|exact rfl|exact trivial|exact Ei _ rfl|refine lN ?_|refine bS ?_|fail
 ·repeat' first|refine Ai ?_ ?_|exact rfl|exact trivial|exact Ei _ rfl|refine lN ?_|refine bS ?_|fail
 ·repeat' first|refine Ai ?_ ?_|exact rfl|exact trivial|exact Ei _ rfl|refine lN ?_|refine bS ?_|fail
 refine Tp.run [] ?_
 refine cI (put_ct s { findM s.objects e.object with counters0:=upC 0 e.counter (findM s.objects e.object).counters0 e.amount,counters1:=upC 1 e.counter (findM s.objects e.object).counters1 e.amount,counters2:=upC 2 e.counter (findM s.objects e.object).counters2 e.amount } h) ⟨fL s.enc,?_,trivial⟩ (.inr rfl) ?_
 ·repeat' first|refine Ai ?_ ?_|exact rfl|exact trivial|exact Ei _ rfl|refine lN ?_|refine bS ?_|fail
 refine cond_f (beq_f hk (by decide)) ?_
 refine Tp.run [] ?_
 refine Ei [] (Ai rfl (Ai ?_ ?_))
 all_goals repeat' first|refine Ai ?_ ?_|exact rfl|exact trivial|exact Ei _ rfl|refine lN ?_|refine bS ?_|fail
theorem r33obj_9 (s:GState) (all:List GTraits) (e:GEvent) (h:s.ok) (hk:e.kind=9) (hh:hasM s.objects e.object=true):Ct Tryz.prog 36 [.agg (s.enc.map .t),.c (.t (.sl 17 (all.map GTraits.enc))),.agg (e.enc.map .t)] (.agg ((objM s all e).enc.map .t)) [] false:=by
 have hf:=find_ct s e.object h.2.2.1
 rw [hh] at hf
 have hm:markM (deadM s all e.source) e (findM s.objects e.object)={ findM s.objects e.object with counters0:=upC 0 e.counter (findM s.objects e.object).counters0 (IntKind.i64.wrap (0 - e.amount)),counters1:=upC 1 e.counter (findM s.objects e.object).counters1 (IntKind.i64.wrap (0 - e.amount)),counters2:=upC 2 e.counter (findM s.objects e.object).counters2 (IntKind.i64.wrap (0 - e.amount)) }:=by unfold markM;rw [hk];rfl
 have ho:objM s all e=putM s { findM s.objects e.object with counters0:=upC 0 e.counter (findM s.objects e.object).counters0 (IntKind.i64.wrap (0 - e.amount)),counters1:=upC 1 e.counter (findM s.objects e.object).counters1 (IntKind.i64.wrap (0 - e.amount)),counters2:=upC 2 e.counter (findM s.objects e.object).counters2 (IntKind.i64.wrap (0 - e.amount)) }:=by
  unfold objM
  rw [if_pos hh]
  dsimp only
  rw [if_neg (show ¬ e.kind=13 from fun hx=>by omega),hm]
 rw [ho]
 refine ct_of Tryz.func36 rfl (enters_of Tryz.func36 (by kernel_rfl) rfl) tabOk (by kernel_rfl) rfl rfl rfl rfl fun w0 O _=>Tp.run [3,4,6,7,9,11,13,15,17,19,20,22,23,24,25] ?_
 refine cI hf ⟨fL s.enc,rfl,trivial⟩ (.inr rfl) ?_
 refine Tp.run [6,9,11,13,15,17,19] ?_
 repeat' (first|refine cond_t (beq_t hk) ?_|refine cond_f (beq_f hk (by decide)) ?_)
 refine Tp.run [] ?_
 refine cI (r12add (findM s.objects e.object).counters0 (findM s.objects e.object).counters1 (findM s.objects e.object).counters2 e.counter (IntKind.i64.wrap (0 - e.amount))) ⟨?_,?_,?_,trivial⟩ (.inl rfl) ?_
 ·repeat' first|refine Ai ?_ ?_|exact rfl|exact trivial|exact Ei _ rfl|refine lN ?_|refine bS ?_|fail
 ·repeat' first|refine Ai ?_ ?_|exact rfl|exact trivial|exact Ei _ rfl|refine lN ?_|refine bS ?_|fail
 ·repeat' first|refine Ai ?_ ?_|exact rfl|exact trivial|exact Ei _ rfl|refine lN ?_|refine bS ?_|fail
 refine Tp.run [] ?_
 refine cI (put_ct s { findM s.objects e.object with counters0:=upC 0 e.counter (findM s.objects e.object).counters0 (IntKind.i64.wrap (0 - e.amount)),counters1:=upC 1 e.counter (findM s.objects e.object).counters1 (IntKind.i64.wrap (0 - e.amount)),counters2:=upC 2 e.counter (findM s.objects e.object).counters2 (IntKind.i64.wrap (0 - e.amount)) } h) ⟨fL s.enc,?_,trivial⟩ (.inr rfl) ?_
 ·repeat' first|refine Ai ?_ ?_|exact rfl|exact trivial|exact Ei _ rfl|refine lN ?_|refine bS ?_|fail
 refine cond_f (beq_f hk (by decide)) ?_
 refine Tp.run [] ?_
 refine Ei [] (Ai rfl (Ai ?_ ?_))
 all_goals repeat' first|refine Ai ?_ ?_|exact rfl|exact trivial|exact Ei _ rfl|refine lN ?_|refine bS ?_|fail
theorem r33obj_12 (s:GState) (all:List GTraits) (e:GEvent) (h:s.ok) (hk:e.kind=12) (hh:hasM s.objects e.object=true):Ct Tryz.prog 36 [.agg (s.enc.map .t),.c (.t (.sl 17 (all.map GTraits.enc))),.agg (e.enc.map .t)] (.agg ((objM s all e).enc.map .t)) [] false:=by
 have hf:=find_ct s e.object h.2.2.1
 rw [hh] at hf
 have hm:markM (deadM s all e.source) e (findM s.objects e.object)={ findM s.objects e.object with attack:=e.player }:=by unfold markM;rw [hk];rfl
 have ho:objM s all e=putM s { findM s.objects e.object with attack:=e.player }:=by
  unfold objM
  rw [if_pos hh]
  dsimp only
  rw [if_neg (show ¬ e.kind=13 from fun hx=>by omega),hm]
 rw [ho]
 refine ct_of Tryz.func36 rfl (enters_of Tryz.func36 (by kernel_rfl) rfl) tabOk (by kernel_rfl) rfl rfl rfl rfl fun w0 O _=>Tp.run [3,4,6,7,9,11,13,15,17,19,20,22,23,24,25] ?_
 refine cI hf ⟨fL s.enc,rfl,trivial⟩ (.inr rfl) ?_
 refine Tp.run [6,9,11,13,15,17,19] ?_
 repeat' (first|refine cond_t (beq_t hk) ?_|refine cond_f (beq_f hk (by decide)) ?_)
 refine Tp.run [] ?_
 refine Tp.run [] ?_
 refine cI (put_ct s { findM s.objects e.object with attack:=e.player } h) ⟨fL s.enc,?_,trivial⟩ (.inr rfl) ?_
 ·repeat' first|refine Ai ?_ ?_|exact rfl|exact trivial|exact Ei _ rfl|refine lN ?_|refine bS ?_|fail
 refine cond_f (beq_f hk (by decide)) ?_
 refine Tp.run [] ?_
 refine Ei [] (Ai rfl (Ai ?_ ?_))
 all_goals repeat' first|refine Ai ?_ ?_|exact rfl|exact trivial|exact Ei _ rfl|refine lN ?_|refine bS ?_|fail
theorem r33obj_13 (s:GState) (all:List GTraits) (e:GEvent) (h:s.ok) (hk:e.kind=13) (hh:hasM s.objects e.object=true):Ct Tryz.prog 36 [.agg (s.enc.map .t),.c (.t (.sl 17 (all.map GTraits.enc))),.agg (e.enc.map .t)] (.agg ((objM s all e).enc.map .t)) [] false:=by
 have hf:=find_ct s e.object h.2.2.1
 rw [hh] at hf
 have hm:markM (deadM s all e.source) e (findM s.objects e.object)={ findM s.objects e.object with blocks:=e.source }:=by unfold markM;rw [hk];rfl
 have ho:objM s all e=putM (putM s { findM s.objects e.object with blocks:=e.source }) { findM (putM s { findM s.objects e.object with blocks:=e.source }).objects e.source with blocked:=true }:=by
  unfold objM
  rw [if_pos hh]
  dsimp only
  rw [if_pos hk,hm]
 rw [ho]
 have hl2:(putM s { findM s.objects e.object with blocks:=e.source }).objects.length*128≤limB:=by
  obtain ⟨i,hi,h1,h2,h3⟩:=has_idx hh
  rw [put_at (s:=s) (o':={ findM s.objects e.object with blocks:=e.source }) h1 (h2▸h3)]
  show (s.objects.set i _).length*128≤limB
  rw [List.length_set]
  exact h.2.2.1
 have hf2:=find_ct (putM s { findM s.objects e.object with blocks:=e.source }) e.source hl2
 have hp2:=put_ct (putM s { findM s.objects e.object with blocks:=e.source }) { findM (putM s { findM s.objects e.object with blocks:=e.source }).objects e.source with blocked:=true } (okp h hl2)
 refine ct_of Tryz.func36 rfl (enters_of Tryz.func36 (by kernel_rfl) rfl) tabOk (by kernel_rfl) rfl rfl rfl rfl fun w0 O _=>Tp.run [3,4,6,7,9,11,13,15,17,19,20,22,23,24,25] ?_
 refine cI hf ⟨fL s.enc,rfl,trivial⟩ (.inr rfl) ?_
 refine Tp.run [6,9,11,13,15,17,19] ?_
 repeat' (first|refine cond_t (beq_t hk) ?_|refine cond_f (beq_f hk (by decide)) ?_)
 refine Tp.run [] ?_
 refine Tp.run [] ?_
 refine cI (put_ct s { findM s.objects e.object with blocks:=e.source } h) ⟨fL s.enc,?_,trivial⟩ (.inr rfl) ?_
 ·repeat' first|refine Ai ?_ ?_|exact rfl|exact trivial|exact Ei _ rfl|refine lN ?_|refine bS ?_|fail
 refine cond_t (beq_t hk) ?_
 refine Tp.frz [] (Tp.run [] ?_)
 refine cI hf2 ⟨?_,rfl,trivial⟩ (.inr rfl) ?_
 ·repeat' first|refine Ai ?_ ?_|exact rfl|exact trivial|exact Ei _ rfl|refine lN ?_|refine bS ?_|fail
 refine Tp.run [] ?_
 refine Tp.run [] ?_
 refine cI hp2 ⟨?_,?_,trivial⟩ (.inr rfl) ?_
 ·repeat' first|refine Ai ?_ ?_|exact rfl|exact trivial|exact Ei _ rfl|refine lN ?_|refine bS ?_|fail
 ·repeat' first|refine Ai ?_ ?_|exact rfl|exact trivial|exact Ei _ rfl|refine lN ?_|refine bS ?_|fail
 refine Tp.run [] ?_
 refine Ei [] (Ai rfl (Ai ?_ ?_))
 all_goals repeat' first|refine Ai ?_ ?_|exact rfl|exact trivial|exact Ei _ rfl|refine lN ?_|refine bS ?_|fail
theorem r33do_not (cards:List GCard) (s:GState) (all:List GTraits) (e:GEvent) (hc:cards.length*176≤limB) (mc:∀ y∈cards,GCard.ok y) (h:s.ok) (hev:evM cards s e=false):Ct Tryz.prog 11 [.c (.t (.sl 17 (cards.map GCard.enc))),.agg (s.enc.map .t),.c (.t (.sl 17 (all.map GTraits.enc))),.agg (e.enc.map .t)] (.agg (s.enc.map .t)) [] false:=by
 have hv:=r32is cards s e hc mc h
 rw [hev] at hv
 refine ct_of Tryz.func11 rfl (enters_of Tryz.func11 (by kernel_rfl) rfl) tabOk (by kernel_rfl) rfl rfl rfl rfl fun w0 O _=>Tp.run [3,4,6,8,13,15,23,24] ?_
 refine cI (copy_ct s h) ⟨fL s.enc,trivial⟩ (.inr rfl) ?_
 refine cI hv ⟨rfl,fL s.enc,fL e.enc,trivial⟩ (.inl rfl) ?_
 refine Tp.run [] ?_
 refine Ei [] (Ai rfl (Ai ?_ ?_))
 all_goals repeat' first|refine Ai ?_ ?_|exact rfl|exact trivial|exact Ei _ rfl|refine lN ?_|refine bS ?_|fail
theorem r33do_2 (cards:List GCard) (s:GState) (all:List GTraits) (e:GEvent) (hc:cards.length*176≤limB) (mc:∀ y∈cards,GCard.ok y) (h:s.ok) (hev:evM cards s e=true) (hk:e.kind=2) (hm:Ct Tryz.prog 32 [.agg (s.enc.map .t),.agg (e.enc.map .t)] (.agg ((mvR s e).enc.map .t)) [] false):Ct Tryz.prog 11 [.c (.t (.sl 17 (cards.map GCard.enc))),.agg (s.enc.map .t),.c (.t (.sl 17 (all.map GTraits.enc))),.agg (e.enc.map .t)] (.agg ((mvR s e).enc.map .t)) [] false:=by
 have hv:=r32is cards s e hc mc h
 rw [hev] at hv
 refine ct_of Tryz.func11 rfl (enters_of Tryz.func11 (by kernel_rfl) rfl) tabOk (by kernel_rfl) rfl rfl rfl rfl fun w0 O _=>Tp.run [3,4,6,8,13,15,23,24] ?_
 refine cI (copy_ct s h) ⟨fL s.enc,trivial⟩ (.inr rfl) ?_
 refine cI hv ⟨rfl,fL s.enc,fL e.enc,trivial⟩ (.inl rfl) ?_
 refine Tp.run [] ?_
 repeat' (first|refine cond_t (beq_t hk) ?_|refine cond_f (beq_f hk (by decide)) ?_)
 refine Tp.frz [] (Tp.run [] ?_)
 refine cI (hm) ⟨?_,fL e.enc,trivial⟩ (.inr rfl) ?_
 ·repeat' first|refine Ai ?_ ?_|exact rfl|exact trivial|exact Ei _ rfl|refine lN ?_|refine bS ?_|fail
 refine Ei [] (Ai rfl (Ai ?_ ?_))
 all_goals repeat' first|refine Ai ?_ ?_|exact rfl|exact trivial|exact Ei _ rfl|refine lN ?_|refine bS ?_|fail
theorem r33do_3 (cards:List GCard) (s:GState) (all:List GTraits) (e:GEvent) (hc:cards.length*176≤limB) (mc:∀ y∈cards,GCard.ok y) (h:s.ok) (hev:evM cards s e=true) (hk:e.kind=3) (p:Nat) (hp:p < s.players.length) (he:e.player=p):Ct Tryz.prog 11 [.c (.t (.sl 17 (cards.map GCard.enc))),.agg (s.enc.map .t),.c (.t (.sl 17 (all.map GTraits.enc))),.agg (e.enc.map .t)] (.agg ((drawM s p).enc.map .t)) [] false:=by
 have hv:=r32is cards s e hc mc h
 rw [hev] at hv
 refine ct_of Tryz.func11 rfl (enters_of Tryz.func11 (by kernel_rfl) rfl) tabOk (by kernel_rfl) rfl rfl rfl rfl fun w0 O _=>Tp.run [3,4,6,8,13,15,23,24] ?_
 refine cI (copy_ct s h) ⟨fL s.enc,trivial⟩ (.inr rfl) ?_
 refine cI hv ⟨rfl,fL s.enc,fL e.enc,trivial⟩ (.inl rfl) ?_
 refine Tp.run [] ?_
 repeat' (first|refine cond_t (beq_t hk) ?_|refine cond_f (beq_f hk (by decide)) ?_)
 refine Tp.frz [] (Tp.run [] ?_)
 refine cI (r33draw s p h hp) ⟨?_,congrArg iv he,trivial⟩ (.inr rfl) ?_
 ·repeat' first|refine Ai ?_ ?_|exact rfl|exact trivial|exact Ei _ rfl|refine lN ?_|refine bS ?_|fail
 refine Ei [] (Ai rfl (Ai ?_ ?_))
 all_goals repeat' first|refine Ai ?_ ?_|exact rfl|exact trivial|exact Ei _ rfl|refine lN ?_|refine bS ?_|fail
theorem r33do_life (cards:List GCard) (s:GState) (all:List GTraits) (e:GEvent) (hc:cards.length*176≤limB) (mc:∀ y∈cards,GCard.ok y) (h:s.ok) (hev:evM cards s e=true) (hk:e.kind=4∨e.kind=5∨e.kind=16∨e.kind=17) (i:Nat) (hi:i < s.players.length) (he:e.player=i) (hb:s.players[i].library.length≤1099511627776):Ct Tryz.prog 11 [.c (.t (.sl 17 (cards.map GCard.enc))),.agg (s.enc.map .t),.c (.t (.sl 17 (all.map GTraits.enc))),.agg (e.enc.map .t)] (.agg ((lifeM s e).enc.map .t)) [] false:=by
 have hq:=r33life s e h hk i hi he hb
 have hv:=r32is cards s e hc mc h
 rw [hev] at hv
 refine ct_of Tryz.func11 rfl (enters_of Tryz.func11 (by kernel_rfl) rfl) tabOk (by kernel_rfl) rfl rfl rfl rfl fun w0 O _=>Tp.run [3,4,6,8,13,15,23,24] ?_
 refine cI (copy_ct s h) ⟨fL s.enc,trivial⟩ (.inr rfl) ?_
 refine cI hv ⟨rfl,fL s.enc,fL e.enc,trivial⟩ (.inl rfl) ?_
 refine Tp.run [] ?_
 rcases hk with hk|hk|hk|hk
 all_goals
  repeat' (first|refine cond_t (beq_t hk) ?_|refine cond_f (beq_f hk (by decide)) ?_)
  refine Tp.frz [] (Tp.run [] ?_)
  refine cI hq ⟨?_,fL e.enc,trivial⟩ (.inr rfl) ?_
  ·repeat' first|refine Ai ?_ ?_|exact rfl|exact trivial|exact Ei _ rfl|refine lN ?_|refine bS ?_|fail
  refine Ei [] (Ai rfl (Ai ?_ ?_))
  all_goals repeat' first|refine Ai ?_ ?_|exact rfl|exact trivial|exact Ei _ rfl|refine lN ?_|refine bS ?_|fail
theorem r33do_10 (cards:List GCard) (s:GState) (all:List GTraits) (e:GEvent) (hc:cards.length*176≤limB) (mc:∀ y∈cards,GCard.ok y) (h:s.ok) (hev:evM cards s e=true) (hk:e.kind=10) (hm:Ct Tryz.prog 35 [.agg (s.enc.map .t),.agg (e.enc.map .t)] (.agg ((mkM s e e.amount.toNat).enc.map .t)) [] false):Ct Tryz.prog 11 [.c (.t (.sl 17 (cards.map GCard.enc))),.agg (s.enc.map .t),.c (.t (.sl 17 (all.map GTraits.enc))),.agg (e.enc.map .t)] (.agg ((mkM s e e.amount.toNat).enc.map .t)) [] false:=by
 have hv:=r32is cards s e hc mc h
 rw [hev] at hv
 refine ct_of Tryz.func11 rfl (enters_of Tryz.func11 (by kernel_rfl) rfl) tabOk (by kernel_rfl) rfl rfl rfl rfl fun w0 O _=>Tp.run [3,4,6,8,13,15,23,24] ?_
 refine cI (copy_ct s h) ⟨fL s.enc,trivial⟩ (.inr rfl) ?_
 refine cI hv ⟨rfl,fL s.enc,fL e.enc,trivial⟩ (.inl rfl) ?_
 refine Tp.run [] ?_
 repeat' (first|refine cond_t (beq_t hk) ?_|refine cond_f (beq_f hk (by decide)) ?_)
 refine Tp.frz [] (Tp.run [] ?_)
 refine cI (hm) ⟨?_,fL e.enc,trivial⟩ (.inr rfl) ?_
 ·repeat' first|refine Ai ?_ ?_|exact rfl|exact trivial|exact Ei _ rfl|refine lN ?_|refine bS ?_|fail
 refine Ei [] (Ai rfl (Ai ?_ ?_))
 all_goals repeat' first|refine Ai ?_ ?_|exact rfl|exact trivial|exact Ei _ rfl|refine lN ?_|refine bS ?_|fail
theorem r33do_ob (cards:List GCard) (s:GState) (all:List GTraits) (e:GEvent) (hc:cards.length*176≤limB) (mc:∀ y∈cards,GCard.ok y) (h:s.ok) (hev:evM cards s e=true) (hk:e.kind=1∨e.kind=6∨e.kind=7∨e.kind=8∨e.kind=9∨e.kind=12∨e.kind=13) (hm:Ct Tryz.prog 36 [.agg (s.enc.map .t),.c (.t (.sl 17 (all.map GTraits.enc))),.agg (e.enc.map .t)] (.agg ((objM s all e).enc.map .t)) [] false):Ct Tryz.prog 11 [.c (.t (.sl 17 (cards.map GCard.enc))),.agg (s.enc.map .t),.c (.t (.sl 17 (all.map GTraits.enc))),.agg (e.enc.map .t)] (.agg ((objM s all e).enc.map .t)) [] false:=by
 have hq:=hm
 have hv:=r32is cards s e hc mc h
 rw [hev] at hv
 refine ct_of Tryz.func11 rfl (enters_of Tryz.func11 (by kernel_rfl) rfl) tabOk (by kernel_rfl) rfl rfl rfl rfl fun w0 O _=>Tp.run [3,4,6,8,13,15,23,24] ?_
 refine cI (copy_ct s h) ⟨fL s.enc,trivial⟩ (.inr rfl) ?_
 refine cI hv ⟨rfl,fL s.enc,fL e.enc,trivial⟩ (.inl rfl) ?_
 refine Tp.run [] ?_
 rcases hk with hk|hk|hk|hk|hk|hk|hk
 all_goals
  repeat' (first|refine cond_t (beq_t hk) ?_|refine cond_f (beq_f hk (by decide)) ?_)
  refine Tp.frz [] (Tp.run [] ?_)
  refine cI hq ⟨?_,rfl,fL e.enc,trivial⟩ (.inr rfl) ?_
  ·repeat' first|refine Ai ?_ ?_|exact rfl|exact trivial|exact Ei _ rfl|refine lN ?_|refine bS ?_|fail
  refine Ei [] (Ai rfl (Ai ?_ ?_))
  all_goals repeat' first|refine Ai ?_ ?_|exact rfl|exact trivial|exact Ei _ rfl|refine lN ?_|refine bS ?_|fail
theorem r33do_ot (cards:List GCard) (s:GState) (all:List GTraits) (e:GEvent) (hc:cards.length*176≤limB) (mc:∀ y∈cards,GCard.ok y) (h:s.ok) (hev:evM cards s e=true) (hk:e.kind=11∨e.kind=14∨e.kind=15):Ct Tryz.prog 11 [.c (.t (.sl 17 (cards.map GCard.enc))),.agg (s.enc.map .t),.c (.t (.sl 17 (all.map GTraits.enc))),.agg (e.enc.map .t)] (.agg (s.enc.map .t)) [] false:=by
 have hv:=r32is cards s e hc mc h
 rw [hev] at hv
 refine ct_of Tryz.func11 rfl (enters_of Tryz.func11 (by kernel_rfl) rfl) tabOk (by kernel_rfl) rfl rfl rfl rfl fun w0 O _=>Tp.run [3,4,6,8,13,15,23,24] ?_
 refine cI (copy_ct s h) ⟨fL s.enc,trivial⟩ (.inr rfl) ?_
 refine cI hv ⟨rfl,fL s.enc,fL e.enc,trivial⟩ (.inl rfl) ?_
 refine Tp.run [] ?_
 rcases hk with hk|hk|hk
 all_goals
  repeat' (first|refine cond_t (beq_t hk) ?_|refine cond_f (beq_f hk (by decide)) ?_)
  refine Tp.frz [] (Tp.run [] ?_)
  refine Ei [] (Ai rfl (Ai ?_ ?_))
  all_goals repeat' first|refine Ai ?_ ?_|exact rfl|exact trivial|exact Ei _ rfl|refine lN ?_|refine bS ?_|fail
theorem r33obj_no (s:GState) (all:List GTraits) (e:GEvent) (h:s.ok) (hh:hasM s.objects e.object=false):Ct Tryz.prog 36 [.agg (s.enc.map .t),.c (.t (.sl 17 (all.map GTraits.enc))),.agg (e.enc.map .t)] (.agg ((objM s all e).enc.map .t)) [] false:=by
 have ho:objM s all e=s:=by
  unfold objM
  rw [if_neg (by rw [hh];decide)]
 rw [ho]
 have hf:=find_ct s e.object h.2.2.1
 rw [hh] at hf
 refine ct_of Tryz.func36 rfl (enters_of Tryz.func36 (by kernel_rfl) rfl) tabOk (by kernel_rfl) rfl rfl rfl rfl fun w0 O _=>Tp.run [3,4] ?_
 refine cI hf ⟨fL s.enc,rfl,trivial⟩ (.inr rfl) ?_
 refine Tp.run [] ?_
 refine Ei [] (Ai rfl (Ai ?_ ?_))
 all_goals repeat' first|refine Ai ?_ ?_|exact rfl|exact trivial|exact Ei _ rfl|refine lN ?_|refine bS ?_|fail
theorem r33obj (s:GState) (all:List GTraits) (e:GEvent) (h:s.ok) (ha:all.length*176≤limB) (ma:∀ y∈all,GTraits.ok y) (hk:e.kind=1∨e.kind=6∨e.kind=7∨e.kind=8∨e.kind=9∨e.kind=12∨e.kind=13):Ct Tryz.prog 36 [.agg (s.enc.map .t),.c (.t (.sl 17 (all.map GTraits.enc))),.agg (e.enc.map .t)] (.agg ((objM s all e).enc.map .t)) [] false:=by
 by_cases hh:hasM s.objects e.object=true
 ·rcases hk with hk|hk|hk|hk|hk|hk|hk
  ·exact r33obj_1 s all e h ha ma hk hh
  ·exact r33obj_6 s all e h hk hh
  ·exact r33obj_7 s all e h hk hh
  ·exact r33obj_8 s all e h hk hh
  ·exact r33obj_9 s all e h hk hh
  ·exact r33obj_12 s all e h hk hh
  ·exact r33obj_13 s all e h hk hh
 ·exact r33obj_no s all e h (by simpa using hh)
end Go.Proofs.YtmloamomcbmfhaaGreat
end
section
namespace Go.Proofs.YtmloamomcbmfhaaGreat
open Go Cg
section
inductive EvC (cards:List GCard) (s:GState) (e:GEvent):Prop where
 | mv:e.kind=2→hasM s.objects e.object=true→0≤e.to_∧e.to_≤4→0≤e.player∧e.player < s.players.length→EvC cards s e
 | cr:e.kind=10→livM s e.player=true→tokM cards e.card=true→amtM e.amount=true→EvC cards s e
 | dr:e.kind=3→livM s e.player=true→EvC cards s e
 | lf:(e.kind=4∨e.kind=5∨e.kind=16∨e.kind=17)→livM s e.player=true→(e.kind=17∨amtM e.amount=true)→EvC cards s e
 | ob:(e.kind=1∨e.kind=6∨e.kind=7∨e.kind=8∨e.kind=9∨e.kind=12∨e.kind=13)→hereM s e.object=true→(e.kind=1∨e.kind=8∨e.kind=9→amtM e.amount=true)→(e.kind=6→(findM s.objects e.object).tapped=false)→(e.kind=8∨e.kind=9→0≤e.counter∧e.counter < 3)→(e.kind=13→hereM s e.source=true)→EvC cards s e
 | no:e.kind=1→hasM s.objects e.object=false→EvC cards s e
 | ot:(e.kind=11∨e.kind=14∨e.kind=15)→EvC cards s e
variable {q:Opq} {s:GState}
theorem ev_cases {cards:List GCard} {e:GEvent} (h:Val q cards.length s) (hev:evM cards s e=true):EvC cards s e:=by
 unfold evM at hev
 by_cases k1:e.kind=1
 ·rw [if_pos k1,Bool.and_eq_true,Bool.or_eq_true,Bool.and_eq_true,beq_iff_eq] at hev
  rcases hev.2 with h1|h1
  ·exact .ob (by omega) h1 (fun _=>hev.1) (by omega) (by omega) (by omega)
  ·exact .no k1 (by rw [h1.1];exact zero_no h)
 rw [if_neg k1] at hev
 by_cases k2:e.kind=2
 ·rw [if_pos k2] at hev
  simp only [Bool.and_eq_true,beq_iff_eq,decide_eq_true_eq] at hev
  obtain ⟨a1,_,_,a2,a3,a4,a5⟩:=hev
  exact .mv k2 a1 ⟨a2,a3⟩ ⟨a4,a5⟩
 rw [if_neg k2] at hev
 by_cases k3:e.kind=3∨e.kind=14∨e.kind=15∨e.kind=17
 ·rw [if_pos k3] at hev
  by_cases k17:e.kind=17
  ·exact .lf (by omega) hev (.inl k17)
  by_cases k33:e.kind=3
  ·exact .dr k33 hev
  ·exact .ot (by omega)
 rw [if_neg k3] at hev
 by_cases k4:e.kind=4∨e.kind=5∨e.kind=16
 ·rw [if_pos k4,Bool.and_eq_true] at hev
  exact .lf (by omega) hev.1 (.inr hev.2)
 rw [if_neg k4] at hev
 by_cases k6:e.kind=6
 ·rw [if_pos k6,Bool.and_eq_true] at hev
  exact .ob (by omega) hev.1 (by omega) (fun _=>by simpa using hev.2) (by omega) (by omega)
 rw [if_neg k6] at hev
 by_cases k7:e.kind=7
 ·rw [if_pos k7,Bool.and_eq_true] at hev
  exact .ob (by omega) hev.1 (by omega) (by omega) (by omega) (by omega)
 rw [if_neg k7] at hev
 by_cases k8:e.kind=8∨e.kind=9
 ·rw [if_pos k8,Bool.and_eq_true,Bool.and_eq_true,Bool.and_eq_true,decide_eq_true_eq,decide_eq_true_eq] at hev
  exact .ob (by omega) hev.1 (fun _=>hev.2.2.2) (by omega) (fun _=>⟨hev.2.1,hev.2.2.1⟩) (by omega)
 rw [if_neg k8] at hev
 by_cases k10:e.kind=10
 ·rw [if_pos k10,Bool.and_eq_true,Bool.and_eq_true] at hev
  exact .cr k10 hev.1 hev.2.1 hev.2.2
 rw [if_neg k10] at hev
 by_cases k11:e.kind=11
 ·exact .ot (.inl k11)
 rw [if_neg k11] at hev
 by_cases k12:e.kind=12
 ·rw [if_pos k12,Bool.and_eq_true] at hev
  exact .ob (by omega) hev.1 (by omega) (by omega) (by omega) (by omega)
 rw [if_neg k12] at hev
 by_cases k13:e.kind=13
 ·rw [if_pos k13,Bool.and_eq_true] at hev
  exact .ob (by omega) hev.1 (by omega) (by omega) (by omega) (fun _=>hev.2)
 rw [if_neg k13] at hev
 cases hev
theorem do_no {cards:List GCard} {s:GState} {all:List GTraits} {e:GEvent} (h:evM cards s e=false):doR cards s all e=s:=by
 unfold doR
 rw [h]
 rfl
theorem do_2 {cards:List GCard} {s:GState} {all:List GTraits} {e:GEvent} (h:evM cards s e=true) (hk:e.kind=2):doR cards s all e=mvR s e:=by
 unfold doR
 rw [if_pos h,if_pos hk]
theorem do_3 {cards:List GCard} {s:GState} {all:List GTraits} {e:GEvent} (h:evM cards s e=true) (hk:e.kind=3):doR cards s all e=drawM s e.player:=by
 unfold doR restM
 rw [if_pos h,if_neg (by omega),if_pos hk]
theorem do_life {cards:List GCard} {s:GState} {all:List GTraits} {e:GEvent} (h:evM cards s e=true) (hk:e.kind=4∨e.kind=5∨e.kind=16∨e.kind=17):doR cards s all e=lifeM s e:=by
 unfold doR restM
 rw [if_pos h,if_neg (by omega),if_neg (by omega),if_pos hk]
theorem do_10 {cards:List GCard} {s:GState} {all:List GTraits} {e:GEvent} (h:evM cards s e=true) (hk:e.kind=10):doR cards s all e=mkM s e e.amount.toNat:=by
 unfold doR restM
 rw [if_pos h,if_neg (by omega),if_neg (by omega),if_neg (by omega),if_pos hk]
theorem do_obj {cards:List GCard} {s:GState} {all:List GTraits} {e:GEvent} (h:evM cards s e=true) (hk:e.kind=1∨e.kind=6∨e.kind=7∨e.kind=8∨e.kind=9∨e.kind=12∨e.kind=13):doR cards s all e=objM s all e:=by
 unfold doR restM
 rw [if_pos h,if_neg (by omega),if_neg (by omega),if_neg (by omega),if_neg (by omega),if_pos hk]
theorem do_ot {cards:List GCard} {s:GState} {all:List GTraits} {e:GEvent} (h:evM cards s e=true) (hk:e.kind=11∨e.kind=14∨e.kind=15):doR cards s all e=s:=by
 unfold doR restM
 rw [if_pos h,if_neg (by omega),if_neg (by omega),if_neg (by omega),if_neg (by omega),if_neg (by omega)]
theorem bf_short {c:Int} (h:Val q c s):s.battlefield.length≤2048:=by
 have:=list_short h 0 0
 rwa [listM_bf] at this
theorem lib_has {c:Int} (h:Val q c s):∀ p∈s.players,∀ id∈p.library,hasM s.objects id=true:=fun p hp id hid=>by
 obtain ⟨i,hi,rfl⟩:=List.mem_iff_getElem.1 hp
 rw [← listM_lb hi] at hid
 obtain ⟨o,ho,e,_⟩:=h.lst _ _ _ hid
 exact hasM_iff.2 ⟨o,ho,e⟩
end
end Go.Proofs.YtmloamomcbmfhaaGreat
end
section
namespace Go.Proofs.YtmloamomcbmfhaaGreat
open Go Cg Go.RowKit Go.Sort
section
variable {q:Opq}
theorem val_mvh {c:Int} {s:GState} (h:Val q c s):MvH s:=by
 refine ⟨fun o ho=>?_,fun o ho=>?_,fun y hy=>(h.obj y hy).2.1⟩
 ·have:=(h.obj o ho).1
  unfold objOk at this
  simp only [Bool.and_eq_true,Bool.not_eq_true',decide_eq_false_iff_not] at this
  omega
 ·have:=(h.obj o ho).1
  unfold objOk at this
  simp only [Bool.and_eq_true,Bool.not_eq_true',decide_eq_false_iff_not] at this
  omega
structure DoH (q:Opq) (cards:List GCard) (s:GState) (all:List GTraits) (e:GEvent):Prop where
 hc:cards.length*176≤limB
 mc:∀ y∈cards,GCard.ok y
 h:s.ok
 ha:all.length*176≤limB
 ma:∀ y∈all,GTraits.ok y
 v:Val q cards.length s
 n:s.nextId≤100000∧s.nextStamp≤100000
 k:e.kind=10→e.amount≤100
theorem lib_le {c:Int} {s:GState} (h:Val q c s):∀ p∈s.players,p.library.length≤1099511627776:=fun p hp=>by
 have:=(ply_short h hp).1
 omega
theorem DoH.step {cards:List GCard} {s:GState} {all:List GTraits} {e:GEvent} (H:DoH q cards s all e):StepV q cards.length 100 s (doR cards s all e):=do_val H.v all e H.n H.k (lib_le H.v)
theorem DoH.ok {cards:List GCard} {s:GState} {all:List GTraits} {e:GEvent} (H:DoH q cards s all e):(doR cards s all e).ok:=ok_val H.h H.step.val (kp_do cards s all e)
theorem actdo {cards:List GCard} {s:GState} {all:List GTraits} {e:GEvent} (H:DoH q cards s all e):Ct Tryz.prog 10 [.c (.t (.sl 17 (cards.map GCard.enc))),.agg (s.enc.map .t),.c (.t (.sl 17 (all.map GTraits.enc))),.agg (e.enc.map .t)] (.agg ((doR cards s all e).enc.map .t)) [] false:=by
 obtain ⟨hc,mc,h,ha,ma,hv,hn,h10⟩:=H
 have hvp:=ev_eq (cards:=cards) (e:=e) (zero_no hv)
 cases hev:evM cards s e with
 | false=>rw [do_no hev];exact actdo_not cards s all e hc mc h (hvp.trans hev)
 | true=>
  have hevp:=hvp.trans hev
  have nn:=hv.nid
  have H:=val_mvh hv
  have hbf:=bf_short hv
  rcases ev_cases hv hev with ⟨hk,a1,a2,a3⟩|⟨hk,a1,a2,a3⟩|⟨hk,a1⟩|⟨hk,a1,_⟩|⟨hk,a1,_,_,_,a2⟩|⟨hk,a1⟩|hk
  ·rw [do_2 hev hk,← mvP_eq]
   exact actdo_2 cards s all e hc mc h hevp hk H a1 a2
  ·rw [do_10 hev hk]
   have:=h10 hk
   exact actdo_10 cards s all e hc mc h hevp hk H.lt (by omega) (by omega)
  ·rw [do_3 hev hk]
   exact actdo_3 cards s all e hc mc h hevp hk H a1 (lib_has hv)
  ·rw [do_life hev hk]
   exact actdo_life cards s all e hc mc h hevp hk a1 (lib_le hv)
  ·rw [do_obj hev hk]
   have hh:=(here_t a1).1
   by_cases k13:e.kind=13
   ·exact actdo_13 cards s all e hc mc h hevp k13 ha ma hh (here_t (a2 k13)).1
   ·exact actdo_ob cards s all e hc mc h hevp (by omega) ha ma hh
  ·rw [do_obj hev (.inl hk)]
   have ho:objM s all e=s:=by
    unfold objM
    rw [if_neg (by rw [a1];decide)]
   rw [ho]
   exact actdo_1n cards s all e hc mc h hevp hk a1
  ·rw [do_ot hev hk]
   exact actdo_ot cards s all e hc mc h hevp hk
theorem r33do {cards:List GCard} {s:GState} {all:List GTraits} {e:GEvent} (H:DoH q cards s all e):Ct Tryz.prog 11 [.c (.t (.sl 17 (cards.map GCard.enc))),.agg (s.enc.map .t),.c (.t (.sl 17 (all.map GTraits.enc))),.agg (e.enc.map .t)] (.agg ((doR cards s all e).enc.map .t)) [] false:=by
 obtain ⟨hc,mc,h,ha,ma,hv,hn,h10⟩:=H
 cases hev:evM cards s e with
 | false=>rw [do_no hev];exact r33do_not cards s all e hc mc h hev
 | true=>
  have nn:=hv.nid
  have H:=val_mvh hv
  have hbf:=bf_short hv
  rcases ev_cases hv hev with ⟨hk,a1,a2,a3⟩|⟨hk,a1,a2,a3⟩|⟨hk,a1⟩|⟨hk,a1,_⟩|⟨hk,a1,_,_,_,a2⟩|⟨hk,a1⟩|hk
  ·rw [do_2 hev hk]
   exact r33do_2 cards s all e hc mc h hev hk (r33move s e h hv a1 a2 a3 (by omega))
  ·rw [do_10 hev hk]
   have:=h10 hk
   exact r33do_10 cards s all e hc mc h hev hk (r33create s e h H.lt (by omega) (by omega))
  ·rw [do_3 hev hk]
   obtain ⟨p1,p2⟩:=livM_t a1
   have he:e.player=(e.player.toNat:Int):=by omega
   have hd:=r33do_3 cards s all e hc mc h hev hk e.player.toNat (by omega) he
   rwa [← he] at hd
  ·rw [do_life hev hk]
   obtain ⟨p1,p2⟩:=livM_t a1
   have hi:e.player.toNat < s.players.length:=by omega
   have hb:=lib_le hv _ (List.getElem_mem hi)
   exact r33do_life cards s all e hc mc h hev hk e.player.toNat hi (by omega) hb
  ·rw [do_obj hev hk]
   exact r33do_ob cards s all e hc mc h hev hk (r33obj s all e h ha ma hk)
  ·rw [do_obj hev (.inl hk)]
   exact r33do_ob cards s all e hc mc h hev (.inl hk) (r33obj s all e h ha ma (.inl hk))
  ·rw [do_ot hev hk]
   exact r33do_ot cards s all e hc mc h hev hk
end
theorem newS_ok (n:Int):(newS n).ok:=by
 refine ⟨?_,fun y hy=>?_,?_,fun y hy=>(by cases hy),?_,?_,?_,fun y hy=>(by cases hy),?_,fun y hy=>(by cases hy),?_,fun y hy=>(by cases hy),?_⟩
 ·show 304≤limB
  unfold limB
  omega
 ·have:y=p20:=by simpa [newS] using hy
  rw [this]
  exact ⟨Nat.zero_le _,Nat.zero_le _,Nat.zero_le _⟩
 all_goals exact Nat.zero_le _
theorem newS_val (q:Opq) (c:Int) (n:Int):Val q c (newS n):=val_of (by rfl)
def evA (k p n:Int):GEvent:=⟨k,0,0,p,n,0,0,0,0,0,false,false,0,0,0⟩
theorem doH_new (k p n:Int) (hk:¬ k=10):DoH opq [] (newS 7) [] (evA k p n):=⟨Nat.zero_le _,fun y hy=>(by cases hy),newS_ok 7,Nat.zero_le _,fun y hy=>(by cases hy),newS_val _ _ 7,by decide,fun h=>absurd h hk⟩
theorem do_d:doR [] (newS 7) [] (evA 3 1 1)={ newS 7 with players:=[p20,{ p20 with failed:=true }] }:=by rfl
theorem do_g:doR [] (newS 7) [] (evA 4 0 3)={ newS 7 with players:=[{ p20 with life:=23 },p20] }:=by rfl
theorem do_n:doR [] (newS 7) [] (evA 4 2 3)=newS 7:=by rfl
theorem alive33:Ct Tryz.prog 8 [] (AV.b true) [] true:=by
 refine Ct.lit (b:=false) ?_ rfl
 have h1:=actdo (doH_new 3 1 1 (by decide))
 have h2:=actdo (doH_new 4 0 3 (by decide))
 have h3:=actdo (doH_new 4 2 3 (by decide))
 rw [do_d] at h1
 rw [do_g] at h2
 rw [do_n] at h3
 have h4:=r26sameR (newS 7) (newS_ok 7)
 have h5:Ct Tryz.prog 18 [.agg ((newS 7).enc.map .t),.agg (({ newS 7 with players:=[p20,{ p20 with failed:=true }] }:GState).enc.map .t)] (.c (.t (.sl 1 []))) [] false:=entered_ct (newS 7) { newS 7 with players:=[p20,{ p20 with failed:=true }] } (Nat.zero_le _) (Nat.zero_le _)
 refine ct_of Tryz.func8 rfl (enters_of Tryz.func8 (by kernel_rfl) rfl) tabOk (by kernel_rfl) rfl rfl rfl rfl fun w0 O _=>Tp.run [2,3,4,5] ?_
 refine cI (r26new 7) ⟨rfl,rfl,rfl,trivial⟩ (.inr rfl) ?_
 refine Tp.run [] ?_
 refine cI h1 ⟨⟨17,rfl⟩,fL (newS 7).enc,⟨17,rfl⟩,?_,trivial⟩ (.inr rfl) ?_
 ·repeat' first|refine Ai ?_ ?_|exact rfl|exact trivial|exact Ei _ rfl|refine lN ?_|refine bS ?_|fail
 refine Tp.run [] ?_
 refine cI h2 ⟨⟨17,rfl⟩,fL (newS 7).enc,⟨17,rfl⟩,?_,trivial⟩ (.inr rfl) ?_
 ·repeat' first|refine Ai ?_ ?_|exact rfl|exact trivial|exact Ei _ rfl|refine lN ?_|refine bS ?_|fail
 refine Tp.run [] ?_
 refine cI h3 ⟨⟨17,rfl⟩,fL (newS 7).enc,⟨17,rfl⟩,?_,trivial⟩ (.inr rfl) ?_
 ·repeat' first|refine Ai ?_ ?_|exact rfl|exact trivial|exact Ei _ rfl|refine lN ?_|refine bS ?_|fail
 refine Tp.run [] ?_
 refine Ei 1 (Ei _ (Ai rfl (Ai rfl ?_)))
 refine Ei 0 (Ei _ (Ai rfl (Ai rfl ?_)))
 refine Ei 1 (Ei _ (Ai rfl (Ai rfl ?_)))
 refine Ei 0 (Ei _ (Ai rfl (Ai rfl ?_)))
 refine cI h4 ⟨fL (newS 7).enc,fL (newS 7).enc,trivial⟩ (.inl rfl) ?_
 refine cI h5 ⟨fL (newS 7).enc,?_,trivial⟩ (.inr rfl) ?_
 ·repeat' first|refine Ai ?_ ?_|exact rfl|exact trivial|exact Ei _ rfl|refine lN ?_|refine bS ?_|fail
 refine Ei [] (Ai rfl (Ai ?_ ?_))
 all_goals repeat' first|refine Ai ?_ ?_|exact rfl|exact trivial|exact Ei _ rfl|refine lN ?_|refine bS ?_|fail
end Go.Proofs.YtmloamomcbmfhaaGreat
end
section
namespace Cg
open Go Go.RowKit
structure GAsk where
 cards:List GCard
 s:GState
 all:List GTraits
 e:GEvent
def GAsk.enc (x:GAsk):List Tr:=[.sl 17 (x.cards.map GCard.enc),.sl 14 (x.s.players.map GPlayer.enc),.sl 19 (x.s.objects.map GObject.enc),.sl 1 (x.s.battlefield.map eI),.sl 1 (x.s.exile.map eI),.sl 94 (x.s.stack.map GItem.enc),.sl 89 (x.s.waiting.map GWaiting.enc),.sl 6 (x.s.conts.map GCont.enc),iv x.s.turn,iv x.s.active,iv x.s.step,bv x.s.begun,iv x.s.priority,iv x.s.passes,iv x.s.nextId,iv x.s.nextStamp,.lit (.int .u64 x.s.seed),.sl 1 (x.s.extra.map eI),iv x.s.over,iv x.s.winner,.sl 17 (x.all.map GTraits.enc),iv x.e.kind,iv x.e.source,iv x.e.object,iv x.e.player,iv x.e.amount,iv x.e.from_,iv x.e.to_,iv x.e.cause,iv x.e.counter,iv x.e.card,bv x.e.combat,bv x.e.tapped,iv x.e.extra0,iv x.e.extra1,iv x.e.extra2]
def GAsk.ks:List K:=[.sl GCard.ks 176]++(GState.ks++([.sl GTraits.ks 176]++(GEvent.ks)))
def GAsk.ok (x:GAsk):Prop:=(x.cards.length*176≤limB)∧(∀ y∈x.cards,GCard.ok y)∧(x.s.ok)∧(x.all.length*176≤limB)∧(∀ y∈x.all,GTraits.ok y)∧(x.e.ok)
theorem GAsk.of_fit (ts:List Tr) (h:FitS GAsk.ks ts):∃ x:GAsk,x.ok∧ts=x.enc:=by
 unfold GAsk.ks at h
 obtain ⟨_,_,rfl,g0,h1⟩:=fitS_append.1 h
 obtain ⟨_,_,rfl,k1,q1⟩:=fitS_cons.1 g0
 obtain ⟨_,rfl,hb1,hc1⟩:=fitK_sl.1 k1
 obtain ⟨l1,rfl,ho1⟩:=fitS_list GCard.of_fit hc1
 rw [Lm] at hb1
 obtain rfl:=fitS_nil.1 q1
 obtain ⟨_,_,rfl,g1,h2⟩:=fitS_append.1 h1
 obtain ⟨y1,oy1,rfl⟩:=GState.of_fit _ g1
 obtain ⟨_,_,rfl,g2,h3⟩:=fitS_append.1 h2
 obtain ⟨_,_,rfl,k2,q2⟩:=fitS_cons.1 g2
 obtain ⟨_,rfl,hb2,hc2⟩:=fitK_sl.1 k2
 obtain ⟨l2,rfl,ho2⟩:=fitS_list GTraits.of_fit hc2
 rw [Lm] at hb2
 obtain rfl:=fitS_nil.1 q2
 obtain ⟨y3,oy3,rfl⟩:=GEvent.of_fit _ h3
 exact ⟨⟨l1,y1,l2,y3⟩,⟨hb1,ho1,oy1,hb2,ho2,oy3⟩,rfl⟩
end Cg
end
section
namespace Go.Proofs.YtmloamomcbmfhaaGreat
open Go Cg Go.RowKit Go.Shelf
theorem r26small (a:GState) (ha:a.ok):∃ r:Bool,(r=true→SmallS a)∧Ct Tryz.prog 15 [.agg (a.enc.map .t)] (AV.b r) [] true:=by
 have ha_:=ha
 obtain ⟨oa0,oa1,oa2,oa3,oa4,oa5,oa6,oa7,oa8,oa9,oa10,oa11,oa12⟩:=ha_
 refine ct_x (Φ:=fun (r:Bool)=>r=true→SmallS a) lit_b (ctx_of Tryz.func15 rfl (enters_of Tryz.func15 (by kernel_rfl) rfl) tabOk (by kernel_rfl) rfl rfl (TpX.runY [] [6] ?_))
 repeat' (first|(apply ix_k;(first|assumption|omega|(simp only [IntKind.wrap_i64,IntKind.wrap_u64,List.length_cons,List.length_nil];omega)|(simp only [Lm] at *;omega)|decide);(first|assumption|omega|(simp only [IntKind.wrap_i64,IntKind.wrap_u64,List.length_cons,List.length_nil];omega)|(simp only [Lm] at *;omega)|decide);intro _)|(apply cond_p <;> intro _)|(apply leaf_x;exact Ei [] (Ai rfl (Ai trivial rfl));exact (by first|(intro hh;cases hh;done)|exact fun _=>SmE.fin ‹_› ‹_› ‹_›);rfl)|(apply cut_at 6 rfl;refine TpX.cut (α:=Int) 6 (fun p=>[(3,AV.i p)]) (fun (p:Int)=>SmE a p) [1] [0] 200000 rfl ?_;refine Ai (TpX.runY [] [6] ?_) (fun _ _=>TpX.runY [] [6] ?_))|(apply lp_at 3 rfl;refine LpX.up (β:=Int) 3 4 ((((a.players.map GPlayer.enc).length:Nat):Int)) (by first|omega|exact len62 (by first|assumption|exact okmr ‹_› ‹_› | exact okmg _ ‹_› | exact GPlayer.ok_library (okmg _ ‹_›)|exact GPlayer.ok_hand (okmg _ ‹_›)|exact GPlayer.ok_graveyard (okmg _ ‹_›)|exact GItem.ok_ability (okmg _ ‹_›)|exact GWaiting.ok_ability (okmg _ ‹_›)|exact GCont.ok_mods (okmg _ ‹_›)|exact GCont.okm_mods (okmg _ ‹_›)|exact (fun _ _=>trivial)) rfl) (by omega) (fun p=>[(3,AV.i p)]) (fun i (p:Int)=>SmI a i p) [1] [0] 300000 rfl ?_;refine Ai ?_ (fun _ _ _ _ _=>TpX.runY [] [6] ?_))|(apply lp_at 9 rfl;refine LpX.up (β:=Unit) 9 5 ((((a.stack.map GItem.enc).length:Nat):Int)) (by first|omega|exact len62 (by first|assumption|exact okmr ‹_› ‹_› | exact okmg _ ‹_› | exact GPlayer.ok_library (okmg _ ‹_›)|exact GPlayer.ok_hand (okmg _ ‹_›)|exact GPlayer.ok_graveyard (okmg _ ‹_›)|exact GItem.ok_ability (okmg _ ‹_›)|exact GWaiting.ok_ability (okmg _ ‹_›)|exact GCont.ok_mods (okmg _ ‹_›)|exact GCont.okm_mods (okmg _ ‹_›)|exact (fun _ _=>trivial)) rfl) (by omega) (fun _=>[]) (fun _ _=>True) [1] [0] 400000 rfl ?_;refine Ai ?_ (fun _ _ _ _ _=>TpX.runY [] [6] ?_))|(apply lp_at 14 rfl;refine LpX.up (β:=Unit) 14 6 ((((a.waiting.map GWaiting.enc).length:Nat):Int)) (by first|omega|exact len62 (by first|assumption|exact okmr ‹_› ‹_› | exact okmg _ ‹_› | exact GPlayer.ok_library (okmg _ ‹_›)|exact GPlayer.ok_hand (okmg _ ‹_›)|exact GPlayer.ok_graveyard (okmg _ ‹_›)|exact GItem.ok_ability (okmg _ ‹_›)|exact GWaiting.ok_ability (okmg _ ‹_›)|exact GCont.ok_mods (okmg _ ‹_›)|exact GCont.okm_mods (okmg _ ‹_›)|exact (fun _ _=>trivial)) rfl) (by omega) (fun _=>[]) (fun _ _=>True) [1] [0] 500000 rfl ?_;refine Ai ?_ (fun _ _ _ _ _=>TpX.runY [] [6] ?_))|(apply lp_at 19 rfl;refine LpX.up (β:=Unit) 19 7 ((((a.conts.map GCont.enc).length:Nat):Int)) (by first|omega|exact len62 (by first|assumption|exact okmr ‹_› ‹_› | exact okmg _ ‹_› | exact GPlayer.ok_library (okmg _ ‹_›)|exact GPlayer.ok_hand (okmg _ ‹_›)|exact GPlayer.ok_graveyard (okmg _ ‹_›)|exact GItem.ok_ability (okmg _ ‹_›)|exact GWaiting.ok_ability (okmg _ ‹_›)|exact GCont.ok_mods (okmg _ ‹_›)|exact GCont.okm_mods (okmg _ ‹_›)|exact (fun _ _=>trivial)) rfl) (by omega) (fun _=>[]) (fun _ _=>True) [1] [0] 600000 rfl ?_;refine Ai ?_ (fun _ _ _ _ _=>TpX.runY [] [6] ?_))|exact Ei () (Ai (by first|exact True.intro|exact SmE.a (f:=GPlayer.enc) ‹_› ‹_› | exact SmE.b ‹_› ‹_› | exact SmI.zero ‹_› | exact SmI.step ‹_› ‹_› ‹_› ‹_› ‹_›) (wk_slim rfl rfl rfl rfl))|exact Ei _ (Ai (by first|exact True.intro|exact SmE.a (f:=GPlayer.enc) ‹_› ‹_› | exact SmE.b ‹_› ‹_› | exact SmI.zero ‹_› | exact SmI.step ‹_› ‹_› ‹_› ‹_› ‹_›) (wk_slim rfl rfl rfl rfl))|exact Ai (by first|assumption|omega) (Ei _ (Ai (by first|exact True.intro|exact SmE.a (f:=GPlayer.enc) ‹_› ‹_› | exact SmE.b ‹_› ‹_› | exact SmI.zero ‹_› | exact SmI.step ‹_› ‹_› ‹_› ‹_› ‹_›) (wk_slim rfl rfl rfl rfl)))|fail)
 ·refine call_x (r20light _ (GItem.ok_ability (okmg ‹_› oa7))) ⟨fL (GAbility.enc _),trivial⟩ (.inl rfl) (fun _ _=>?_)
  repeat' (first|apply cond_n|(apply cS <;> intro _)|(apply leaf_x;exact Ei [] (Ai rfl (Ai trivial rfl));exact (by first|(intro hh;cases hh;done)|exact fun _=>SmE.fin ‹_› ‹_› ‹_›);rfl)|exact Ai (by first|assumption|omega) (Ei () (Ai (by first|exact True.intro|exact SmE.a (f:=GPlayer.enc) ‹_› ‹_› | exact SmE.b ‹_› ‹_› | exact SmI.zero ‹_› | exact SmI.step ‹_› ‹_› ‹_› ‹_› ‹_›) (wk_slim rfl rfl rfl rfl)))|fail)
 ·refine call_x (r20light _ (GWaiting.ok_ability (okmg ‹_› oa9))) ⟨fL (GAbility.enc _),trivial⟩ (.inl rfl) (fun _ _=>?_)
  repeat' (first|apply cond_n|(apply cS <;> intro _)|(apply leaf_x;exact Ei [] (Ai rfl (Ai trivial rfl));exact (by first|(intro hh;cases hh;done)|exact fun _=>SmE.fin ‹_› ‹_› ‹_›);rfl)|exact Ai (by first|assumption|omega) (Ei () (Ai (by first|exact True.intro|exact SmE.a (f:=GPlayer.enc) ‹_› ‹_› | exact SmE.b ‹_› ‹_› | exact SmI.zero ‹_› | exact SmI.step ‹_› ‹_› ‹_› ‹_› ‹_›) (wk_slim rfl rfl rfl rfl)))|fail)
 ·refine call_x (r20light _ (zab_ok (GCont.ok_mods (okmg ‹_› oa11)) (GCont.okm_mods (okmg ‹_› oa11)))) ⟨zab_fit _,trivial⟩ (.inl rfl) (fun _ _=>?_)
  repeat' (first|apply cond_n|(apply cS <;> intro _)|(apply leaf_x;exact Ei [] (Ai rfl (Ai trivial rfl));exact (by first|(intro hh;cases hh;done)|exact fun _=>SmE.fin ‹_› ‹_› ‹_›);rfl)|exact Ai (by first|assumption|omega) (Ei () (Ai (by first|exact True.intro|exact SmE.a (f:=GPlayer.enc) ‹_› ‹_› | exact SmE.b ‹_› ‹_› | exact SmI.zero ‹_› | exact SmI.step ‹_› ‹_› ‹_› ‹_› ‹_›) (wk_slim rfl rfl rfl rfl)))|fail)
structure FitQ (a:GAsk):Prop where
 cl:a.cards.length≤20
 al:a.all.length≤300
 sm:SmallS a.s
 ni:a.s.nextId≤100000
 ns:a.s.nextStamp≤100000
 is:isM opq ((a.cards.length:Nat):Int) a.s=true
theorem fit_of {a:GAsk} {f:GCard→List Tr} {g:GTraits→List Tr} {r:Bool} (h1:¬ (((a.cards.map f).length:Nat):Int) > 20) (h2:¬ (((a.all.map g).length:Nat):Int) > 300) (h3:r=true→SmallS a.s) (hr:r=true) (h4:¬ a.s.nextId > 100000) (h5:¬ a.s.nextStamp > 100000) (h6:isM opq ((a.cards.length:Nat):Int) a.s=true):FitQ a:=by
 rw [Lm] at h1 h2
 exact ⟨by omega,by omega,h3 hr,by omega,by omega,h6⟩
theorem fits33 (a:GAsk) (ha:a.ok):∃ r:Bool,(r=true→FitQ a)∧Ct Tryz.prog 7 [.agg (a.enc.map .t)] (AV.b r) [] true:=by
 have ha_:=ha
 obtain ⟨oa0,oa1,oa2,oa3,oa4,oa5⟩:=ha_
 refine ct_x (Φ:=fun (r:Bool)=>r=true→FitQ a) lit_b (ctx_of Tryz.func7 rfl (enters_of Tryz.func7 (by kernel_rfl) rfl) tabOk (by kernel_rfl) rfl rfl (TpX.runY [] [] ?_))
 repeat' (first|(apply cond_p <;> intro _)|apply cond_n|(apply cS <;> intro _)|(apply leaf_x;exact Ei [] (Ai rfl (Ai trivial rfl));exact (by first|(intro hh;cases hh;done)|exact fun hh=>fit_of ‹_› ‹_› ‹_› ‹_› ‹_› ‹_› hh);rfl)|(apply call_f 15;refine call_x (r26small _ (by first|assumption|exact okmr ‹_› ‹_› | exact okmg _ ‹_› | exact GAsk.ok_s ‹_› | exact GAsk.ok_cards ‹_› | exact GAsk.okm_cards ‹_›)) ⟨fL (GState.enc _),trivial⟩ (.inl rfl) (fun _ _=>?_))|(apply call_f 16;refine call_x (r22check _ (by first|assumption|exact okmr ‹_› ‹_› | exact okmg _ ‹_› | exact GAsk.ok_s ‹_› | exact GAsk.ok_cards ‹_› | exact GAsk.okm_cards ‹_›) (by first|assumption|exact okmr ‹_› ‹_› | exact okmg _ ‹_› | exact GAsk.ok_s ‹_› | exact GAsk.ok_cards ‹_› | exact GAsk.okm_cards ‹_›)) ⟨rfl,trivial⟩ (.inl rfl) (fun _ _=>?_))|(apply call_f 12;refine cI (r26is _ _ (by first|assumption|exact okmr ‹_› ‹_› | exact okmg _ ‹_› | exact GAsk.ok_s ‹_› | exact GAsk.ok_cards ‹_› | exact GAsk.okm_cards ‹_›) (by first|assumption|exact okmr ‹_› ‹_› | exact okmg _ ‹_› | exact GAsk.ok_s ‹_› | exact GAsk.ok_cards ‹_› | exact GAsk.okm_cards ‹_›) (by first|assumption|exact okmr ‹_› ‹_› | exact okmg _ ‹_› | exact GAsk.ok_s ‹_› | exact GAsk.ok_cards ‹_› | exact GAsk.okm_cards ‹_›)) ⟨rfl,fL (GState.enc _),trivial⟩ (.inl rfl) ?_)|fail)
end Go.Proofs.YtmloamomcbmfhaaGreat
end
section
namespace Go.Proofs.YtmloamomcbmfhaaGreat
open Go Cg Go.RowKit Go.Sort
theorem fit_doH {a:GAsk} (h:a.ok) (hf:FitQ a) (hk:a.e.kind=10→a.e.amount≤100):DoH opq a.cards a.s a.all a.e:=⟨h.1,h.2.1,h.2.2.1,h.2.2.2.1,h.2.2.2.2.1,val_of hf.is,⟨hf.ni,hf.ns⟩,hk⟩
theorem actDoes_ct (a:GAsk) (h:a.ok):Ct Tryz.prog 3 [.agg (a.enc.map .t)] (AV.b true) [] true:=by
 refine Ct.lit (b:=false) ?_ rfl
 obtain ⟨r,hr,hfit⟩:=fits33 a h
 cases r with
 | false=>
  refine ct_of Tryz.func3 rfl (enters_of Tryz.func3 (by kernel_rfl) rfl) tabOk (by kernel_rfl) rfl rfl rfl rfl fun w0 O _=>Tp.run [2,3] ?_
  refine cI hfit ⟨fL a.enc,trivial⟩ (.inl rfl) ?_
  refine Tp.run [] ?_
  refine cI alive33 trivial (.inl rfl) ?_
  refine Ei [] (Ai rfl (Ai ?_ ?_))
  all_goals repeat' first|refine Ai ?_ ?_|exact rfl|exact trivial|exact Ei _ rfl|refine lN ?_|refine bS ?_|fail
 | true=>
  by_cases hb:a.e.kind=10∧a.e.amount > 100
  ·refine ct_of Tryz.func3 rfl (enters_of Tryz.func3 (by kernel_rfl) rfl) tabOk (by kernel_rfl) rfl rfl rfl rfl fun w0 O _=>Tp.run [2,3] ?_
   refine cI hfit ⟨fL a.enc,trivial⟩ (.inl rfl) ?_
   refine cond_t (beq_t hb.1) ?_
   refine cond_t (decide_eq_true hb.2) ?_
   refine Tp.run [] ?_
   refine cI alive33 trivial (.inl rfl) ?_
   refine Ei [] (Ai rfl (Ai ?_ ?_))
   all_goals repeat' first|refine Ai ?_ ?_|exact rfl|exact trivial|exact Ei _ rfl|refine lN ?_|refine bS ?_|fail
  ·have H:=fit_doH h (hr rfl) fun hk=>by have:¬ a.e.amount > 100:=fun hx=>hb ⟨hk,hx⟩;omega
   have h1:=actdo H
   have h2:=r33do H
   have h3:=r26sameR _ H.ok
   generalize doR a.cards a.s a.all a.e=t at h1 h2 h3
   refine ct_of Tryz.func3 rfl (enters_of Tryz.func3 (by kernel_rfl) rfl) tabOk (by kernel_rfl) rfl rfl rfl rfl fun w0 O _=>Tp.run [2,3] ?_
   refine cI hfit ⟨fL a.enc,trivial⟩ (.inl rfl) ?_
   refine cS (fun hk=>?_) (fun hk=>?_)
   ·refine cond_f (decide_eq_false fun hx=>hb ⟨by simpa using hk,hx⟩) ?_
    refine Tp.run [] ?_
    refine cI h1 ⟨rfl,fL a.s.enc,rfl,fL a.e.enc,trivial⟩ (.inr rfl) ?_
    refine cI h2 ⟨rfl,fL a.s.enc,rfl,fL a.e.enc,trivial⟩ (.inr rfl) ?_
    refine cI h3 ⟨fL t.enc,fL t.enc,trivial⟩ (.inl rfl) ?_
    refine cI alive33 trivial (.inl rfl) ?_
    refine Ei [] (Ai rfl (Ai ?_ ?_))
    all_goals repeat' first|refine Ai ?_ ?_|exact rfl|exact trivial|exact Ei _ rfl|refine lN ?_|refine bS ?_|fail
   ·refine Tp.run [] ?_
    refine cI h1 ⟨rfl,fL a.s.enc,rfl,fL a.e.enc,trivial⟩ (.inr rfl) ?_
    refine cI h2 ⟨rfl,fL a.s.enc,rfl,fL a.e.enc,trivial⟩ (.inr rfl) ?_
    refine cI h3 ⟨fL t.enc,fL t.enc,trivial⟩ (.inl rfl) ?_
    refine cI alive33 trivial (.inl rfl) ?_
    refine Ei [] (Ai rfl (Ai ?_ ?_))
    all_goals repeat' first|refine Ai ?_ ?_|exact rfl|exact trivial|exact Ei _ rfl|refine lN ?_|refine bS ?_|fail
end Go.Proofs.YtmloamomcbmfhaaGreat
end
section
namespace Go.Proofs.YtmloamomcbmfhaaGreat
open Go Go.ChangeShapes Go.WideShapes Go.ChangeAt Go.RowKit Go.Sort Cg
section
theorem own:ownKnob Tryz.prog.godebug=none:=by kernel_rfl
theorem laidOut:laidOutB Tryz.prog=true:=by kernel_rfl
theorem arg_of {H:Type} {enc:TypeId × Value→H} {W:World} {v:Value} {d:DataW H} {ps:List MemPlace} {r:Reach} {b0:Nat} {t:TypeId} {ks:List K} (hu:∃ fs,Tryz.prog.underlying t=some (.struct fs)) (hs:shapeOf Tryz.prog 12 t=some ks) (hv:Value.okWide Tryz.prog W r b0 t v)
  (h:DataW.Trod enc Tryz.prog W 0 (fun _=>true) true t v d ps) (hw:wok Tryz.prog t d):∃ cs es,v=.agg cs.toArray∧RdL (fun _=>True) reachBytes W ks cs es:=by
 obtain ⟨fs,hu⟩:=hu
 unfold Value.okWide at hv
 rw [hu] at hv
 obtain ⟨cs,rfl,_,_⟩:=hv
 obtain ⟨fuel,hf⟩:=h
 obtain ⟨es,he⟩:=rd_of 12 t ks hs fuel cs.toList (d,ps) hf hw
 exact ⟨cs.toList,es,rfl,he⟩
open Classical in
noncomputable def envOf (F:Nat→Prop):Env:=⟨fun b=>if F b then .cold else .non,fun _=>0,fun _ _=>undef⟩
theorem envOf_cold {F:Nat→Prop} {b:Nat}:(envOf F).rl b=.cold↔F b:=by
 unfold envOf
 simp only
 split
 ·simp_all
 ·simp_all
theorem envOf_F (F:Nat→Prop):(envOf F).F=F:=funext fun _=>propext envOf_cold
theorem rtl_env {F:Nat→Prop} {w:World} {vs:List Value} {ts:List Tr} (h:RTL F w vs ts):A2 (RC (envOf F) w) vs (ts.map .t):=rtl_a2 (by rw [envOf_F];exact h)
theorem ag_env {F:Nat→Prop} {w:World} {cs:List Value} {ts:List Tr} (h:RTL F w cs ts):R1 (envOf F) w (.agg cs.toArray) (.agg (ts.map .t)):=⟨cs,rfl,rtl_env h⟩
theorem bool_arg {E0:Env} {w:World} {v:Value} {b:Bool} (h:R1 E0 w v (AV.b b)):v=.bool b:=by
 have h:RT E0.F w v (.lit (.bool b)):=h
 cases h
 rfl
theorem law_of_ct {P:Program} {f:FuncId} {ax:List AV} {b:Bool} (h:Ct P f ax (AV.b true) [] b) {w:World} {vs:List Value} {E0:Env} (ha:A2 (R1 E0 w) vs ax):Calls P f vs.toArray w fun e w'=>e=.returned (.bool true)∧Below w.heap.size w w':=by
 refine (h.run w vs E0 ha).mono ?_
 rintro e w' ⟨v,rfl,hb,E,hr,_⟩
 obtain rfl:=bool_arg (E0:=E) (w:=w') hr
 exact ⟨rfl,hb⟩
theorem rd_lim {F:Nat→Prop} {w:World} {ks:List K} {cs:List Value} {es:List D} (h:RdL F reachBytes w ks cs es):RdL F limB w ks cs es:=h.frame (by decide) (Nat.le_refl _) (fun _ _ _=>rfl) (fun _ h _=>h)
end
end Go.Proofs.YtmloamomcbmfhaaGreat
end
section
namespace Go.Proofs.YtmloamomcbmfhaaGreat
open Go Cg Go.RowKit Go.Sort
theorem shAsk:shapeOf Tryz.prog 12 37=some GAsk.ks:=by kernel_rfl
theorem ask_open {F:Nat→Prop} {w:World} {cs:List Value} {es:List D} (h:RdL F reachBytes w GAsk.ks cs es):∃ a:GAsk,a.ok∧RTL F w cs a.enc:=by
 obtain ⟨ts,h3,_,h5⟩:=rdL_rt (rd_lim h)
 obtain ⟨a,h6,rfl⟩:=GAsk.of_fit ts h3
 exact ⟨a,h6,h5⟩
theorem ask_law {f:FuncId} {b:Bool} (hf:∀ a:GAsk,a.ok→Ct Tryz.prog f [.agg (a.enc.map .t)] (AV.b true) [] b) (cs:List Value) (es:List D) (w:World) (h:RdL (fun _=>True) reachBytes w GAsk.ks cs es):Calls Tryz.prog f #[.agg cs.toArray] w fun e w'=>e=.returned (.bool true)∧Below w.heap.size w w':=by
 obtain ⟨a,ha,hr⟩:=ask_open h
 exact law_of_ct (hf a ha) (.cons (ag_env hr) .nil)
end Go.Proofs.YtmloamomcbmfhaaGreat
end
section
namespace Go.Proofs.YtmloamomcbmfhaaGreat
open Go
theorem pf_1:(laidOutB Tryz.prog)=true:=by kernel_rfl
theorem pf_2:(mapsRowed Tryz.prog)=true:=by kernel_rfl
theorem pf_6:((Tryz.prog.stops==[]))=true:=by kernel_rfl
theorem pf_8:((Tryz.prog.stopKnobs==[]))=true:=by kernel_rfl
theorem pf_24:(Tryz.prog.stopsHeard)=true:=by kernel_rfl
theorem pf_25:(Tryz.prog.mayEnter)=true:=by kernel_rfl
theorem band {a b:Bool} (h1:a=true) (h2:b=true):(a&&b)=true:=by rw [h1,h2];rfl
theorem actDoes_k0:(Rows.actDoesRow.wf (OpenSpec.ofChange Rows.actDoesSpec))=true:=by kernel_rfl
theorem actDoes_k3:(Tryz.f3.params.all (Tryz.prog.readableRec ·))=true:=by kernel_rfl
theorem actDoes_k4:(namedTie Tryz.prog Rows.actDoesRow.named Rows.actDoesSpec.vars)=true:=by kernel_rfl
theorem actDoes_k5:((Rows.actDoesRow.stops==[]))=true:=by kernel_rfl
theorem actDoes_k7:((Rows.actDoesRow.knobs==[]))=true:=by kernel_rfl
theorem actDoes_k9:((Rows.actDoesRow.inPlace==Tryz.prog.inPlace 3))=true:=by kernel_rfl
theorem actDoes_k10:((Rows.actDoesRow.unfollowed==Tryz.prog.unfollowed 3))=true:=by kernel_rfl
theorem actDoes_k11:((Rows.actDoesRow.recurses==Tryz.prog.recurses 3))=true:=by kernel_rfl
theorem actDoes_k12:((Rows.actDoesRow.named==Tryz.prog.varsNamed 3))=true:=by kernel_rfl
theorem actDoes_k13:((Rows.actDoesRow.maps==(Tryz.f3.params.toList++Rows.actDoesSpec.plain.varTypes Tryz.prog).any (Tryz.prog.mapsRec ·)))=true:=by kernel_rfl
theorem actDoes_k14:((Rows.actDoesRow.ifaces==(Tryz.f3.params.toList++Rows.actDoesSpec.plain.varTypes Tryz.prog).any (Tryz.prog.ifacesRec ·)))=true:=by kernel_rfl
theorem actDoes_k15:((Rows.actDoesRow.mapsOut==Tryz.prog.mapsAmong Tryz.f3.resultTypes.toList))=true:=by kernel_rfl
theorem actDoes_k16:((Rows.actDoesRow.loops==(Tryz.f3.params.toList++Rows.actDoesSpec.plain.varTypes Tryz.prog).any (Tryz.prog.loopsFrom ·)))=true:=by kernel_rfl
theorem actDoes_k17:((Rows.actDoesRow.wideKeys==(Tryz.f3.params.toList++Rows.actDoesSpec.plain.varTypes Tryz.prog++Tryz.f3.resultTypes.toList).any (Tryz.prog.wideKeysFrom ·)))=true:=by kernel_rfl
theorem actDoes_k18:(Rows.actDoesSpec.vars.all (Tryz.prog.varReadable ·))=true:=by kernel_rfl
theorem actDoes_k19:(Tryz.f3.resultTypes.all (fun t=>Tryz.prog.readableRec t&&decide (t < Tryz.prog.types.size)))=true:=by kernel_rfl
theorem actDoes_k20:((Rows.actDoesRow.ifacesOut==Tryz.f3.resultTypes.toList.any (Tryz.prog.ifacesRec ·)))=true:=by kernel_rfl
theorem actDoes_k21:((Rows.actDoesRow.loopsOut==Tryz.f3.resultTypes.toList.any (Tryz.prog.loopsFrom ·)))=true:=by kernel_rfl
theorem actDoes_k22:((Rows.actDoesRow.plainKeys==Tryz.prog.plainKeys))=true:=by kernel_rfl
theorem actDoes_k23:(Rows.actDoesRow.shortTexts.isNone)=true:=by kernel_rfl
theorem actDoes_k26:((Rows.actDoesRow.lifted==Tryz.prog.liftsFinal))=true:=by kernel_rfl
theorem actDoes_k27:((Tryz.prog.make==some Rows.actDoesRow.make))=true:=by kernel_rfl
theorem actDoes_k28:((Rows.actDoesRow.kinds==(if Rows.actDoesRow.domain.isEmpty then [] else Tryz.f3.params.toList.map fun t=>match Tryz.prog.underlying t with|some (.int k)=>some k|_=>none)))=true:=by kernel_rfl
theorem actDoes_k29:((Rows.actDoesRow.pinned==Rows.actDoesRow.pinnedBy))=true:=by kernel_rfl
theorem actDoes_k30:((Rows.actDoesRow.veiled==(Tryz.f3.params.toList++Rows.actDoesSpec.plain.varTypes Tryz.prog++Tryz.f3.resultTypes.toList).any (Tryz.prog.veiledRec ·)))=true:=by kernel_rfl
theorem actDoes_k31:(Rows.actDoesRow.veiledFits Tryz.prog Tryz.f3.params.toList (Tryz.f3.params.toList++Rows.actDoesSpec.plain.varTypes Tryz.prog++Tryz.f3.resultTypes.toList))=true:=by kernel_rfl
theorem actDoes_closed:joinedFacts Tryz.prog 3 Tryz.f3 Rows.actDoesSpec Rows.actDoesRow=true:=by
 unfold joinedFacts
 exact band (band (band (band (band (band (band (band (band (band (band (band (band (band (band (band (band (band (band (band (band (band (band (band (band (band (band (band (band (band (band (actDoes_k0) pf_1) pf_2) actDoes_k3) actDoes_k4) actDoes_k5) pf_6) actDoes_k7) pf_8) actDoes_k9) actDoes_k10) actDoes_k11) actDoes_k12) actDoes_k13) actDoes_k14) actDoes_k15) actDoes_k16) actDoes_k17) actDoes_k18) actDoes_k19) actDoes_k20) actDoes_k21) actDoes_k22) actDoes_k23) pf_24) pf_25) actDoes_k26) actDoes_k27) actDoes_k28) actDoes_k29) actDoes_k30) actDoes_k31
theorem actDoes_inst:Tryz.f3.isInstance Tryz.prog Rows.actDoesRow.origin Rows.actDoesRow.targs:=of_decide_eq_true (by kernel_rfl)
theorem actDoes_wrap:Tryz.f3.isWrapper Tryz.prog Rows.actDoesRow.wrapper Rows.actDoesRow.mainSum:=by unfold Func.isWrapper;first|(rw [if_pos (by decide +kernel)];kernel_rfl)|(rw [if_neg (by decide +kernel)];exact ⟨rfl,rfl⟩)
theorem actDoes_named:Tryz.prog.funcNamed Rows.actDoesRow.func=some 3:=by kernel_rfl
end Go.Proofs.YtmloamomcbmfhaaGreat
end
