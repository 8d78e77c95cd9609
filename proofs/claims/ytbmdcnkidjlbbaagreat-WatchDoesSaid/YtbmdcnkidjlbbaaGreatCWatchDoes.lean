/- The statement WatchDoes of chapter 35: Fired answers as the reference does, for any valid state and any event performed on it. For every input, without condition. -/
import Derived.Test.YtbmdcnkidjlbbaaGreatDG
open Go.Proofs.Tryz renaming prog->ae
namespace Go.Proofs.YtbmdcnkidjlbbaaGreat
open Go Go.ChangeShapes Go.WideShapes Go.ChangeAt Go.RowKit Cg
open Go.ChangeMaps (open_string shut_string)
set_option maxRecDepth 100000 in
theorem qa (H : Type)(enc : TypeId × Value -> H)(W : World)(base : Nat)(args : Array Value)(ds gs : List (DataW H))(before : List MemPlace)
    (sg : ∀ (j : Nat) t v, Tryz.f3.params[j]? = some t -> args[j]? = some v -> Value.okWide ae W .any base t v)
    (hW : DataW.Whole enc ae Tryz.f3.params.toList Rows.watchDoesSpec.vars false W args.toList ds gs before)
    (lY : (DataW.weightsEach ae (Tryz.f3.params.toList ++ Rows.watchDoesSpec.plain.varTypes ae) (ds ++ gs)).all (· <= reachBytes) = true) (ue : W.ShapedOpen ae) :
    Calls ae 3 args W fun e W' => ∃ v, e = .returned v /\ Rows.watchDoesSpec.post enc ae Tryz.f3 false true false false W args v W' := by
  have hW' := hW;obtain⟨p, q, hA0, hV, rfl, hfz, pA⟩ := hW;have hA : DataW.TrodAll enc ae W 0 (fun _ => true) true Tryz.f3.params.toList args.toList ds p := hA0;rw[Tryz.params3] at hA sg;obtain⟨v0, vs0, d0, ds0, p0, q0, xB, rfl, rfl, h0, r0⟩ := trodAll_cons hA;obtain⟨v1, vs1, d1, ds1, p1, q1, rfl, rfl, rfl, h1, r1⟩ := trodAll_cons r0;obtain⟨v2, vs2, d2, ds2, p2, q2, rfl, rfl, rfl, h2, r2⟩ := trodAll_cons r1;obtain⟨rfl, rfl, rfl⟩ := trodAll_nil r2;obtain rfl : args = #[v0, v1, v2] := by cases args; simp_all
  obtain⟨rfl, rfl⟩ := trodVars_none hV;obtain⟨a0, ayP, Sh, rfl⟩ := okWide_slice Tryz.underlying22 (sg 0 22 v0 rfl rfl);have k0 := h0;have lt0 : ∀ x ∈ p0, x.block < W.heap.size := by obtain⟨m, hm⟩ := k0; exact DataW.trod_lt m _ _ _ hm
  have k1 := h1;have lt1 : ∀ x ∈ p1, x.block < W.heap.size := by obtain⟨m, hm⟩ := k1; exact DataW.trod_lt m _ _ _ hm
  have k2 := h2;have lt2 : ∀ x ∈ p2, x.block < W.heap.size := by obtain⟨m, hm⟩ := k2; exact DataW.trod_lt m _ _ _ hm
  clear hA0;obtain⟨jG, rr0⟩ := acO TD ⟨_, _, _, rfl⟩ k0 (mJ lY 0 22 d0 rfl rfl);obtain⟨cs1, es1, rfl, rr1⟩ := I4 ⟨_, Tryz.underlying31⟩ TA (sg 1 31 v1 rfl rfl) k1 (mJ lY 1 31 d1 rfl rfl);obtain⟨Wt, XS, rfl, rr2⟩ := I4 ⟨_, Tryz.underlying34⟩ TC (sg 2 34 v2 rfl rfl) k2 (mJ lY 2 34 d2 rfl rfl);refine(Vq AU _ jG cs1 es1 Wt XS W (ED ue) rr0 rr1 rr2).mono fun e W' ⟨he, bel⟩ => ?_;subst he;exact⟨_, rfl, _, _, _, [], _, [], hW', trodAll_mk1 (shut_bool Tryz.underlying4 _), (trodAll_cons_mk (Below.trod laidOut (by kernel_rfl) (of_decide_eq_true (by kernel_rfl)) k0 bel lt0) (trodAll_cons_mk (Below.trod laidOut (by kernel_rfl) (of_decide_eq_true (by kernel_rfl)) k1 bel lt1) (trodAll_cons_mk (Below.trod laidOut (by kernel_rfl) (of_decide_eq_true (by kernel_rfl)) k2 bel lt2) trodAll_mk0))), rfl, bel.frame _, fun h => by cases h⟩
set_option maxRecDepth 100000 in
theorem th (os : Os)(started : os.Started)(H : Type)(enc : TypeId × Value -> H) :
    ReturnsInHanded {} Tryz.checked os 3 .any (Rows.watchDoesSpec.pre6 enc ae Tryz.f3 Rows.watchDoesRow.domain false) (Rows.watchDoesSpec.post enc ae Tryz.f3 false true false false) := by
  refine returnsInHanded_of_change_shaped (C := Tryz.checked) own started (by kernel_rfl) Tryz.func3
    (ChangeSpec.witness6 (enc := enc) (C := Tryz.checked) false ⟨#[], #[.slice none 0 0, .agg #[.slice none 0 0, .slice none 0 0, .slice none 0 0, .slice none 0 0, .slice none 0 0, .slice none 0 0, .slice none 0 0, .int .i64 0, .int .i64 0, .int .i64 0, .bool false, .int .i64 0, .int .i64 0, .int .i64 0, .int .i64 0, .int .u64 0, .slice none 0 0, .int .i64 0, .int .i64 0], .agg #[.int .i64 0, .int .i64 0, .int .i64 0, .int .i64 0, .int .i64 0, .int .i64 0, .int .i64 0, .int .i64 0, .int .i64 0, .int .i64 0, .bool false, .bool false, .int .i64 0, .int .i64 0, .int .i64 0]], []⟩ 8 (by kernel_rfl) (by kernel_rfl) (by kernel_rfl) (by kernel_rfl)) ?_
  intro W base args ds gs before sg hW _ lY ue _;exact qa H enc W base args ds gs before sg hW lY ue
theorem watchDoes_said : Rows.WatchDoesSaid :=
  OpenClaim.holds_of_wide 3 Tryz.f3 rfl rfl rfl rfl rfl rfl rfl ⟨rfl, rfl, rfl, rfl, rfl⟩ rfl rfl rfl rfl rfl vc Tryz.func3 ti vP vO
    (fun os started H enc _ => th os started H enc)
#print axioms watchDoes_said
end Go.Proofs.YtbmdcnkidjlbbaaGreat
