/- The statement WatchDeaths of chapter 35: when one of n creatures dies, all that watch deaths fire, also the one that died, and none if it went elsewhere. For every input, without condition. -/
import Derived.Test.YtbmdcnkidjlbbaaGreatQG
open Go.Proofs.Tryz renaming prog->ae
namespace Go.Proofs.YtbmdcnkidjlbbaaGreat
open Go Go.ChangeShapes Go.WideShapes Go.ChangeAt Go.RowKit Cg
open Go.ChangeMaps (open_string shut_string)
set_option maxRecDepth 100000 in
theorem nc (H : Type)(enc : TypeId × Value -> H)(W : World)(base : Nat)(args : Array Value)(ds gs : List (DataW H))(before : List MemPlace)
    (qp : ∀ (j : Nat) t v, Tryz.f7.params[j]? = some t -> args[j]? = some v -> Value.okWide ae W .any base t v)
    (hW : DataW.Whole enc ae Tryz.f7.params.toList Rows.watchDeathsSpec.vars false W args.toList ds gs before)
    (lh : (DataW.weightsEach ae (Tryz.f7.params.toList ++ Rows.watchDeathsSpec.plain.varTypes ae) (ds ++ gs)).all (· <= reachBytes) = true) (se : W.ShapedOpen ae) :
    Calls ae 7 args W fun e W' => ∃ v, e = .returned v ∧ Rows.watchDeathsSpec.post enc ae Tryz.f7 false true false false W args v W' := by
  have hW' := hW;obtain⟨p, q, ZF, hV, rfl, hfz, n9⟩ := hW;have hA : DataW.TrodAll enc ae W 0 (fun _ => true) true Tryz.f7.params.toList args.toList ds p := ZF;rw[Tryz.params7] at hA qp;obtain⟨v0, vs0, d0, ds0, p0, q0, wj, rfl, rfl, h0, r0⟩ := trodAll_cons hA;obtain⟨v1, vs1, d1, ds1, p1, q1, rfl, rfl, rfl, h1, r1⟩ := trodAll_cons r0;obtain⟨v2, vs2, d2, ds2, p2, q2, rfl, rfl, rfl, h2, r2⟩ := trodAll_cons r1;obtain⟨rfl, rfl, rfl⟩ := trodAll_nil r2;obtain rfl : args = #[v0, v1, v2] := by cases args; simp_all
  obtain⟨rfl, rfl⟩ := trodVars_none hV;obtain⟨a0, rfl, rfl, rfl, w0⟩ := open_int Tryz.underlying3 (qp 0 3 v0 rfl rfl) h0;obtain⟨a1, rfl, rfl, rfl, w1⟩ := open_int Tryz.underlying3 (qp 1 3 v1 rfl rfl) h1;obtain⟨a2, rfl, rfl, rfl, w2⟩ := open_int Tryz.underlying3 (qp 2 3 v2 rfl rfl) h2;clear ZF;refine(Q9 uY a0 a1 a2 W (B7 se)).mono fun e W' ⟨he, bel⟩ => ?_;subst he;exact⟨_, rfl, _, _, _, [], _, [], hW', trodAll_mk1 (shut_bool Tryz.underlying4 _), (trodAll_cons_mk (shut_int Tryz.underlying3 w0) (trodAll_cons_mk (shut_int Tryz.underlying3 w1) (trodAll_cons_mk (shut_int Tryz.underlying3 w2) trodAll_mk0))), rfl, bel.frame _, fun h => by cases h⟩
set_option maxRecDepth 100000 in
theorem oR (os : Os)(started : os.Started)(H : Type)(enc : TypeId × Value -> H) :
    ReturnsInHanded {} Tryz.checked os 7 .any (Rows.watchDeathsSpec.pre6 enc ae Tryz.f7 Rows.watchDeathsRow.domain false) (Rows.watchDeathsSpec.post enc ae Tryz.f7 false true false false) := by
  refine returnsInHanded_of_change_shaped (C := Tryz.checked) own started (by kernel_rfl) Tryz.func7
    (ChangeSpec.witness6 (enc := enc) (C := Tryz.checked) false ⟨#[], #[.int .i64 0, .int .i64 0, .int .i64 0], []⟩ 8 (by kernel_rfl) (by kernel_rfl) (by kernel_rfl) (by kernel_rfl)) ?_
  intro W base args ds gs before qp hW _ lh se _;exact nc H enc W base args ds gs before qp hW lh se
theorem watchDeaths_said : Rows.WatchDeathsSaid :=
  OpenClaim.holds_of_wide 7 Tryz.f7 rfl rfl rfl rfl rfl rfl rfl ⟨rfl, rfl, rfl, rfl, rfl⟩ rfl rfl rfl rfl rfl pD Tryz.func7 oS rE rC
    (fun os started H enc _ => oR os started H enc)
#print axioms watchDeaths_said
end Go.Proofs.YtbmdcnkidjlbbaaGreat
