/- The statement WatchPlayers of chapter 35: an ability that watches players fires once for each object, exactly if the player fits. For every input, without condition. -/
import Derived.Test.YtbmdcnkidjlbbaaGreatQG
open Go.Proofs.Tryz renaming prog->ae
open List renaming getElem?_eq_some_iff->an
namespace Go.Proofs.YtbmdcnkidjlbbaaGreat
open Go Go.ChangeShapes Go.WideShapes Go.ChangeAt Go.RowKit Cg
open Go.ChangeMaps (open_string shut_string)
set_option maxRecDepth 100000 in
theorem mR (H : Type)(enc : TypeId × Value -> H)(W : World)(base : Nat)(args : Array Value)(ds gs : List (DataW H))(before : List MemPlace)
    (qp : ∀ (j : Nat) t v, Tryz.f6.params[j]? = some t -> args[j]? = some v -> Value.okWide ae W .any base t v)
    (hW : DataW.Whole enc ae Tryz.f6.params.toList Rows.watchPlayersSpec.vars false W args.toList ds gs before)
    (lh : (DataW.weightsEach ae (Tryz.f6.params.toList ++ Rows.watchPlayersSpec.plain.varTypes ae) (ds ++ gs)).all (· <= reachBytes) = true) (se : W.ShapedOpen ae) :
    Calls ae 6 args W fun e W' => ∃ v, e = .returned v ∧ Rows.watchPlayersSpec.post enc ae Tryz.f6 false true false false W args v W' := by
  have hW' := hW;obtain⟨p, q, ZF, hV, rfl, hfz, n9⟩ := hW;have hA : DataW.TrodAll enc ae W 0 (fun _ => true) true Tryz.f6.params.toList args.toList ds p := ZF;rw[Tryz.params6] at hA qp;obtain⟨v0, vs0, d0, ds0, p0, q0, wj, rfl, rfl, h0, r0⟩ := trodAll_cons hA;obtain⟨rfl, rfl, rfl⟩ := trodAll_nil r0;obtain rfl : args = #[v0] := by cases args; simp_all
  obtain⟨rfl, rfl⟩ := trodVars_none hV;have k0 := h0;have lt0 : ∀ x ∈ p0, x.block < W.heap.size := by obtain⟨m, hm⟩ := k0; exact DataW.trod_lt m _ _ _ hm
  clear ZF;obtain⟨DV, ji, rfl, rr0⟩ := WE ⟨_, Tryz.underlying77⟩ Pz (qp 0 77 v0 rfl rfl) k0 (uQ lh 0 77 d0 rfl rfl);refine(Vi tD DV ji W (B7 se) rr0).mono fun e W' ⟨he, bel⟩ => ?_;subst he;exact⟨_, rfl, _, _, _, [], _, [], hW', trodAll_mk1 (shut_bool Tryz.underlying4 _), (trodAll_cons_mk (Below.trod laidOut (by kernel_rfl) (of_decide_eq_true (by kernel_rfl)) k0 bel lt0) trodAll_mk0), rfl, bel.frame _, fun h => by cases h⟩
set_option maxRecDepth 100000 in
theorem oy (os : Os)(started : os.Started)(H : Type)(enc : TypeId × Value -> H) :
    ReturnsInHanded {} Tryz.checked os 6 .any (Rows.watchPlayersSpec.pre6 enc ae Tryz.f6 Rows.watchPlayersRow.domain false) (Rows.watchPlayersSpec.post enc ae Tryz.f6 false true false false) := by
  refine returnsInHanded_of_change_shaped (C := Tryz.checked) own started (by kernel_rfl) Tryz.func6
    (ChangeSpec.witness6 (enc := enc) (C := Tryz.checked) false ⟨#[], #[.agg #[.int .i64 0, .int .i64 0, .int .i64 0, .int .i64 0, .int .i64 0]], []⟩ 8 (by kernel_rfl) (by kernel_rfl) (by kernel_rfl) (by kernel_rfl)) ?_
  intro W base args ds gs before qp hW _ lh se _;exact mR H enc W base args ds gs before qp hW lh se
theorem watchPlayers_said : Rows.WatchPlayersSaid :=
  OpenClaim.holds_of_wide 6 Tryz.f6 rfl rfl rfl rfl rfl rfl rfl ⟨rfl, rfl, rfl, rfl, rfl⟩ rfl rfl rfl rfl rfl oQ Tryz.func6 oz pC pB
    (fun os started H enc _ => oy os started H enc)
#print axioms watchPlayers_said
end Go.Proofs.YtbmdcnkidjlbbaaGreat
