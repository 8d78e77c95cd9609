/- The closed facts of the row loopNormalizesRow. -/
import Derived.Test.YtpibcdnagnjokaaGreatLF
namespace Go.Proofs.YtpibcdnagnjokaaGreat
open Go
set_option maxRecDepth 100000 in
theorem loopNormalizes_k0 : (Rows.loopNormalizesRow.wf (OpenSpec.ofChange Rows.loopNormalizesSpec)) = true := by kernel_rfl
set_option maxRecDepth 100000 in
theorem loopNormalizes_k3 : (Tryz.f3.params.all (Tryz.prog.readableRec ·)) = true := by kernel_rfl
set_option maxRecDepth 100000 in
theorem loopNormalizes_k4 : (namedTie Tryz.prog Rows.loopNormalizesRow.named Rows.loopNormalizesSpec.vars) = true := by kernel_rfl
set_option maxRecDepth 100000 in
theorem loopNormalizes_k5 : ((Rows.loopNormalizesRow.stops == [])) = true := by kernel_rfl
set_option maxRecDepth 100000 in
theorem loopNormalizes_k7 : ((Rows.loopNormalizesRow.knobs == [])) = true := by kernel_rfl
set_option maxRecDepth 100000 in
theorem loopNormalizes_k9 : ((Rows.loopNormalizesRow.inPlace == Tryz.prog.inPlace 3)) = true := by kernel_rfl
set_option maxRecDepth 100000 in
theorem loopNormalizes_k10 : ((Rows.loopNormalizesRow.unfollowed == Tryz.prog.unfollowed 3)) = true := by kernel_rfl
set_option maxRecDepth 100000 in
theorem loopNormalizes_k11 : ((Rows.loopNormalizesRow.recurses == Tryz.prog.recurses 3)) = true := by kernel_rfl
set_option maxRecDepth 100000 in
theorem loopNormalizes_k12 : ((Rows.loopNormalizesRow.named == Tryz.prog.varsNamed 3)) = true := by kernel_rfl
set_option maxRecDepth 100000 in
theorem loopNormalizes_k13 : ((Rows.loopNormalizesRow.maps == (Tryz.f3.params.toList ++ Rows.loopNormalizesSpec.plain.varTypes Tryz.prog).any (Tryz.prog.mapsRec ·))) = true := by kernel_rfl
set_option maxRecDepth 100000 in
theorem loopNormalizes_k14 : ((Rows.loopNormalizesRow.ifaces == (Tryz.f3.params.toList ++ Rows.loopNormalizesSpec.plain.varTypes Tryz.prog).any (Tryz.prog.ifacesRec ·))) = true := by kernel_rfl
set_option maxRecDepth 100000 in
theorem loopNormalizes_k15 : ((Rows.loopNormalizesRow.mapsOut == Tryz.prog.mapsAmong Tryz.f3.resultTypes.toList)) = true := by kernel_rfl
set_option maxRecDepth 100000 in
theorem loopNormalizes_k16 : ((Rows.loopNormalizesRow.loops == (Tryz.f3.params.toList ++ Rows.loopNormalizesSpec.plain.varTypes Tryz.prog).any (Tryz.prog.loopsFrom ·))) = true := by kernel_rfl
set_option maxRecDepth 100000 in
theorem loopNormalizes_k17 : ((Rows.loopNormalizesRow.wideKeys == (Tryz.f3.params.toList ++ Rows.loopNormalizesSpec.plain.varTypes Tryz.prog ++ Tryz.f3.resultTypes.toList).any (Tryz.prog.wideKeysFrom ·))) = true := by kernel_rfl
set_option maxRecDepth 100000 in
theorem loopNormalizes_k18 : (Rows.loopNormalizesSpec.vars.all (Tryz.prog.varReadable ·)) = true := by kernel_rfl
set_option maxRecDepth 100000 in
theorem loopNormalizes_k19 : (Tryz.f3.resultTypes.all (fun t => Tryz.prog.readableRec t && decide (t < Tryz.prog.types.size))) = true := by kernel_rfl
set_option maxRecDepth 100000 in
theorem loopNormalizes_k20 : ((Rows.loopNormalizesRow.ifacesOut == Tryz.f3.resultTypes.toList.any (Tryz.prog.ifacesRec ·))) = true := by kernel_rfl
set_option maxRecDepth 100000 in
theorem loopNormalizes_k21 : ((Rows.loopNormalizesRow.loopsOut == Tryz.f3.resultTypes.toList.any (Tryz.prog.loopsFrom ·))) = true := by kernel_rfl
set_option maxRecDepth 100000 in
theorem loopNormalizes_k22 : ((Rows.loopNormalizesRow.plainKeys == Tryz.prog.plainKeys)) = true := by kernel_rfl
set_option maxRecDepth 100000 in
theorem loopNormalizes_k23 : (Rows.loopNormalizesRow.shortTexts.isNone) = true := by kernel_rfl
set_option maxRecDepth 100000 in
theorem loopNormalizes_k26 : ((Rows.loopNormalizesRow.lifted == Tryz.prog.liftsFinal)) = true := by kernel_rfl
set_option maxRecDepth 100000 in
theorem loopNormalizes_k27 : ((Tryz.prog.make == some Rows.loopNormalizesRow.make)) = true := by kernel_rfl
set_option maxRecDepth 100000 in
theorem loopNormalizes_k28 : ((Rows.loopNormalizesRow.kinds == (if Rows.loopNormalizesRow.domain.isEmpty then [] else Tryz.f3.params.toList.map fun t => match Tryz.prog.underlying t with | some (.int k) => some k | _ => none))) = true := by kernel_rfl
set_option maxRecDepth 100000 in
theorem loopNormalizes_k29 : ((Rows.loopNormalizesRow.pinned == Rows.loopNormalizesRow.pinnedBy)) = true := by kernel_rfl
set_option maxRecDepth 100000 in
theorem loopNormalizes_k30 : ((Rows.loopNormalizesRow.veiled == (Tryz.f3.params.toList ++ Rows.loopNormalizesSpec.plain.varTypes Tryz.prog ++ Tryz.f3.resultTypes.toList).any (Tryz.prog.veiledRec ·))) = true := by kernel_rfl
set_option maxRecDepth 100000 in
theorem loopNormalizes_k31 : (Rows.loopNormalizesRow.veiledFits Tryz.prog Tryz.f3.params.toList (Tryz.f3.params.toList ++ Rows.loopNormalizesSpec.plain.varTypes Tryz.prog ++ Tryz.f3.resultTypes.toList)) = true := by kernel_rfl
set_option maxRecDepth 100000 in
theorem loopNormalizes_closed : joinedFacts Tryz.prog 3 Tryz.f3 Rows.loopNormalizesSpec Rows.loopNormalizesRow = true := by
  unfold joinedFacts
  exact band (band (band (band (band (band (band (band (band (band (band (band (band (band (band (band (band (band (band (band (band (band (band (band (band (band (band (band (band (band (band (loopNormalizes_k0) pf_1) pf_2) loopNormalizes_k3) loopNormalizes_k4) loopNormalizes_k5) pf_6) loopNormalizes_k7) pf_8) loopNormalizes_k9) loopNormalizes_k10) loopNormalizes_k11) loopNormalizes_k12) loopNormalizes_k13) loopNormalizes_k14) loopNormalizes_k15) loopNormalizes_k16) loopNormalizes_k17) loopNormalizes_k18) loopNormalizes_k19) loopNormalizes_k20) loopNormalizes_k21) loopNormalizes_k22) loopNormalizes_k23) pf_24) pf_25) loopNormalizes_k26) loopNormalizes_k27) loopNormalizes_k28) loopNormalizes_k29) loopNormalizes_k30) loopNormalizes_k31
theorem loopNormalizes_inst : Tryz.f3.isInstance Tryz.prog Rows.loopNormalizesRow.origin Rows.loopNormalizesRow.targs := of_decide_eq_true (by kernel_rfl)
theorem loopNormalizes_wrap : Tryz.f3.isWrapper Tryz.prog Rows.loopNormalizesRow.wrapper Rows.loopNormalizesRow.mainSum := by unfold Func.isWrapper; first | (rw [if_pos (by decide +kernel)]; kernel_rfl) | (rw [if_neg (by decide +kernel)]; exact ⟨rfl, rfl⟩)
theorem loopNormalizes_named : Tryz.prog.funcNamed Rows.loopNormalizesRow.func = some 3 := by kernel_rfl
end Go.Proofs.YtpibcdnagnjokaaGreat
