/- The closed facts of the row loopFindsRow. -/
import Derived.Test.YtpibcdnagnjokaaGreatLF
namespace Go.Proofs.YtpibcdnagnjokaaGreat
open Go
set_option maxRecDepth 100000 in
theorem loopFinds_k0 : (Rows.loopFindsRow.wf (OpenSpec.ofChange Rows.loopFindsSpec)) = true := by kernel_rfl
set_option maxRecDepth 100000 in
theorem loopFinds_k3 : (Tryz.f5.params.all (Tryz.prog.readableRec ·)) = true := by kernel_rfl
set_option maxRecDepth 100000 in
theorem loopFinds_k4 : (namedTie Tryz.prog Rows.loopFindsRow.named Rows.loopFindsSpec.vars) = true := by kernel_rfl
set_option maxRecDepth 100000 in
theorem loopFinds_k5 : ((Rows.loopFindsRow.stops == [])) = true := by kernel_rfl
set_option maxRecDepth 100000 in
theorem loopFinds_k7 : ((Rows.loopFindsRow.knobs == [])) = true := by kernel_rfl
set_option maxRecDepth 100000 in
theorem loopFinds_k9 : ((Rows.loopFindsRow.inPlace == Tryz.prog.inPlace 5)) = true := by kernel_rfl
set_option maxRecDepth 100000 in
theorem loopFinds_k10 : ((Rows.loopFindsRow.unfollowed == Tryz.prog.unfollowed 5)) = true := by kernel_rfl
set_option maxRecDepth 100000 in
theorem loopFinds_k11 : ((Rows.loopFindsRow.recurses == Tryz.prog.recurses 5)) = true := by kernel_rfl
set_option maxRecDepth 100000 in
theorem loopFinds_k12 : ((Rows.loopFindsRow.named == Tryz.prog.varsNamed 5)) = true := by kernel_rfl
set_option maxRecDepth 100000 in
theorem loopFinds_k13 : ((Rows.loopFindsRow.maps == (Tryz.f5.params.toList ++ Rows.loopFindsSpec.plain.varTypes Tryz.prog).any (Tryz.prog.mapsRec ·))) = true := by kernel_rfl
set_option maxRecDepth 100000 in
theorem loopFinds_k14 : ((Rows.loopFindsRow.ifaces == (Tryz.f5.params.toList ++ Rows.loopFindsSpec.plain.varTypes Tryz.prog).any (Tryz.prog.ifacesRec ·))) = true := by kernel_rfl
set_option maxRecDepth 100000 in
theorem loopFinds_k15 : ((Rows.loopFindsRow.mapsOut == Tryz.prog.mapsAmong Tryz.f5.resultTypes.toList)) = true := by kernel_rfl
set_option maxRecDepth 100000 in
theorem loopFinds_k16 : ((Rows.loopFindsRow.loops == (Tryz.f5.params.toList ++ Rows.loopFindsSpec.plain.varTypes Tryz.prog).any (Tryz.prog.loopsFrom ·))) = true := by kernel_rfl
set_option maxRecDepth 100000 in
theorem loopFinds_k17 : ((Rows.loopFindsRow.wideKeys == (Tryz.f5.params.toList ++ Rows.loopFindsSpec.plain.varTypes Tryz.prog ++ Tryz.f5.resultTypes.toList).any (Tryz.prog.wideKeysFrom ·))) = true := by kernel_rfl
set_option maxRecDepth 100000 in
theorem loopFinds_k18 : (Rows.loopFindsSpec.vars.all (Tryz.prog.varReadable ·)) = true := by kernel_rfl
set_option maxRecDepth 100000 in
theorem loopFinds_k19 : (Tryz.f5.resultTypes.all (fun t => Tryz.prog.readableRec t && decide (t < Tryz.prog.types.size))) = true := by kernel_rfl
set_option maxRecDepth 100000 in
theorem loopFinds_k20 : ((Rows.loopFindsRow.ifacesOut == Tryz.f5.resultTypes.toList.any (Tryz.prog.ifacesRec ·))) = true := by kernel_rfl
set_option maxRecDepth 100000 in
theorem loopFinds_k21 : ((Rows.loopFindsRow.loopsOut == Tryz.f5.resultTypes.toList.any (Tryz.prog.loopsFrom ·))) = true := by kernel_rfl
set_option maxRecDepth 100000 in
theorem loopFinds_k22 : ((Rows.loopFindsRow.plainKeys == Tryz.prog.plainKeys)) = true := by kernel_rfl
set_option maxRecDepth 100000 in
theorem loopFinds_k23 : (Rows.loopFindsRow.shortTexts.isNone) = true := by kernel_rfl
set_option maxRecDepth 100000 in
theorem loopFinds_k26 : ((Rows.loopFindsRow.lifted == Tryz.prog.liftsFinal)) = true := by kernel_rfl
set_option maxRecDepth 100000 in
theorem loopFinds_k27 : ((Tryz.prog.make == some Rows.loopFindsRow.make)) = true := by kernel_rfl
set_option maxRecDepth 100000 in
theorem loopFinds_k28 : ((Rows.loopFindsRow.kinds == (if Rows.loopFindsRow.domain.isEmpty then [] else Tryz.f5.params.toList.map fun t => match Tryz.prog.underlying t with | some (.int k) => some k | _ => none))) = true := by kernel_rfl
set_option maxRecDepth 100000 in
theorem loopFinds_k29 : ((Rows.loopFindsRow.pinned == Rows.loopFindsRow.pinnedBy)) = true := by kernel_rfl
set_option maxRecDepth 100000 in
theorem loopFinds_k30 : ((Rows.loopFindsRow.veiled == (Tryz.f5.params.toList ++ Rows.loopFindsSpec.plain.varTypes Tryz.prog ++ Tryz.f5.resultTypes.toList).any (Tryz.prog.veiledRec ·))) = true := by kernel_rfl
set_option maxRecDepth 100000 in
theorem loopFinds_k31 : (Rows.loopFindsRow.veiledFits Tryz.prog Tryz.f5.params.toList (Tryz.f5.params.toList ++ Rows.loopFindsSpec.plain.varTypes Tryz.prog ++ Tryz.f5.resultTypes.toList)) = true := by kernel_rfl
set_option maxRecDepth 100000 in
theorem loopFinds_closed : joinedFacts Tryz.prog 5 Tryz.f5 Rows.loopFindsSpec Rows.loopFindsRow = true := by
  unfold joinedFacts
  exact band (band (band (band (band (band (band (band (band (band (band (band (band (band (band (band (band (band (band (band (band (band (band (band (band (band (band (band (band (band (band (loopFinds_k0) pf_1) pf_2) loopFinds_k3) loopFinds_k4) loopFinds_k5) pf_6) loopFinds_k7) pf_8) loopFinds_k9) loopFinds_k10) loopFinds_k11) loopFinds_k12) loopFinds_k13) loopFinds_k14) loopFinds_k15) loopFinds_k16) loopFinds_k17) loopFinds_k18) loopFinds_k19) loopFinds_k20) loopFinds_k21) loopFinds_k22) loopFinds_k23) pf_24) pf_25) loopFinds_k26) loopFinds_k27) loopFinds_k28) loopFinds_k29) loopFinds_k30) loopFinds_k31
theorem loopFinds_inst : Tryz.f5.isInstance Tryz.prog Rows.loopFindsRow.origin Rows.loopFindsRow.targs := of_decide_eq_true (by kernel_rfl)
theorem loopFinds_wrap : Tryz.f5.isWrapper Tryz.prog Rows.loopFindsRow.wrapper Rows.loopFindsRow.mainSum := by unfold Func.isWrapper; first | (rw [if_pos (by decide +kernel)]; kernel_rfl) | (rw [if_neg (by decide +kernel)]; exact ⟨rfl, rfl⟩)
theorem loopFinds_named : Tryz.prog.funcNamed Rows.loopFindsRow.func = some 5 := by kernel_rfl
end Go.Proofs.YtpibcdnagnjokaaGreat
