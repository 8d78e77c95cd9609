/- The statement WatchAny of chapter 35: Fired answers as the reference does, for any two valid states and any event. For every input, without condition. -/
import Derived.Test.YtbmdcnkidjlbbaaGreatDG
open Go.Proofs.Tryz renaming prog->ae
namespace Go.Proofs.YtbmdcnkidjlbbaaGreat
open Go Go.ChangeShapes Go.WideShapes Go.ChangeAt Go.RowKit Cg
open Go.ChangeMaps (open_string shut_string)
set_option maxRecDepth 100000 in
theorem qS (H : Type)(enc : TypeId × Value -> H)(W : World)(base : Nat)(args : Array Value)(ds gs : List (DataW H))(before : List MemPlace)
    (sg : ∀ (j : Nat) t v, Tryz.f4.params[j]? = some t -> args[j]? = some v -> Value.okWide ae W .any base t v)
    (hW : DataW.Whole enc ae Tryz.f4.params.toList Rows.watchAnySpec.vars false W args.toList ds gs before)
    (lY : (DataW.weightsEach ae (Tryz.f4.params.toList ++ Rows.watchAnySpec.plain.varTypes ae) (ds ++ gs)).all (· <= reachBytes) = true) (ue : W.ShapedOpen ae) :
    Calls ae 4 args W fun e W' => ∃ v, e = .returned v /\ Rows.watchAnySpec.post enc ae Tryz.f4 false true false false W args v W' := by
  have hW' := hW;obtain⟨p, q, hA0, hV, rfl, hfz, pA⟩ := hW;have hA : DataW.TrodAll enc ae W 0 (fun _ => true) true Tryz.f4.params.toList args.toList ds p := hA0;rw[Tryz.params4] at hA sg;obtain⟨v0, vs0, d0, ds0, p0, q0, xB, rfl, rfl, h0, r0⟩ := trodAll_cons hA;obtain⟨rfl, rfl, rfl⟩ := trodAll_nil r0;obtain rfl : args = #[v0] := by cases args; simp_all
  obtain⟨rfl, rfl⟩ := trodVars_none hV;have k0 := h0;have lt0 : ∀ x ∈ p0, x.block < W.heap.size := by obtain⟨m, hm⟩ := k0; exact DataW.trod_lt m _ _ _ hm
  clear hA0;obtain⟨Gz, jG, rfl, rr0⟩ := I4 ⟨_, Tryz.underlying44⟩ TB (sg 0 44 v0 rfl rfl) k0 (mJ lY 0 44 d0 rfl rfl);refine(Zx Dx Gz jG W (ED ue) rr0).mono fun e W' ⟨he, bel⟩ => ?_;subst he;exact⟨_, rfl, _, _, _, [], _, [], hW', trodAll_mk1 (shut_bool Tryz.underlying4 _), (trodAll_cons_mk (Below.trod laidOut (by kernel_rfl) (of_decide_eq_true (by kernel_rfl)) k0 bel lt0) trodAll_mk0), rfl, bel.frame _, fun h => by cases h⟩
set_option maxRecDepth 100000 in
theorem vd (os : Os)(started : os.Started)(H : Type)(enc : TypeId × Value -> H) :
    ReturnsInHanded {} Tryz.checked os 4 .any (Rows.watchAnySpec.pre6 enc ae Tryz.f4 Rows.watchAnyRow.domain false) (Rows.watchAnySpec.post enc ae Tryz.f4 false true false false) := by
  refine returnsInHanded_of_change_shaped (C := Tryz.checked) own started (by kernel_rfl) Tryz.func4
    (ChangeSpec.witness6 (enc := enc) (C := Tryz.checked) false ⟨#[], #[.agg #[.slice none 0 0, .slice none 0 0, .slice none 0 0, .slice none 0 0, .slice none 0 0, .slice none 0 0, .slice none 0 0, .slice none 0 0, .int .i64 0, .int .i64 0, .int .i64 0, .bool false, .int .i64 0, .int .i64 0, .int .i64 0, .int .i64 0, .int .u64 0, .slice none 0 0, .int .i64 0, .int .i64 0, .slice none 0 0, .slice none 0 0, .slice none 0 0, .slice none 0 0, .slice none 0 0, .slice none 0 0, .slice none 0 0, .int .i64 0, .int .i64 0, .int .i64 0, .bool false, .int .i64 0, .int .i64 0, .int .i64 0, .int .i64 0, .int .u64 0, .slice none 0 0, .int .i64 0, .int .i64 0, .int .i64 0, .int .i64 0, .int .i64 0, .int .i64 0, .int .i64 0, .int .i64 0, .int .i64 0, .int .i64 0, .int .i64 0, .int .i64 0, .bool false, .bool false, .int .i64 0, .int .i64 0, .int .i64 0]], []⟩ 8 (by kernel_rfl) (by kernel_rfl) (by kernel_rfl) (by kernel_rfl)) ?_
  intro W base args ds gs before sg hW _ lY ue _;exact qS H enc W base args ds gs before sg hW lY ue
theorem watchAny_said : Rows.WatchAnySaid :=
  OpenClaim.holds_of_wide 4 Tryz.f4 rfl rfl rfl rfl rfl rfl rfl ⟨rfl, rfl, rfl, rfl, rfl⟩ rfl rfl rfl rfl rfl vQ Tryz.func4 ve yN yM
    (fun os started H enc _ => vd os started H enc)
#print axioms watchAny_said
end Go.Proofs.YtbmdcnkidjlbbaaGreat
