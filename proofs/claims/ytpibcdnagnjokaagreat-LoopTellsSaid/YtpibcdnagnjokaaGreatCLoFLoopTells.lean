/- The closed facts of the row loopTellsRow. -/
import Derived.Test.YtpibcdnagnjokaaGreatLF
namespace Go.Proofs.YtpibcdnagnjokaaGreat
open Go
set_option maxRecDepth 100000 in
theorem loopTells_k0 : (Rows.loopTellsRow.wf (OpenSpec.ofChange Rows.loopTellsSpec)) = true := by kernel_rfl
set_option maxRecDepth 100000 in
theorem loopTells_k3 : (Tryz.f6.params.all (Tryz.prog.readableRec ·)) = true := by kernel_rfl
set_option maxRecDepth 100000 in
theorem loopTells_k4 : (namedTie Tryz.prog Rows.loopTellsRow.named Rows.loopTellsSpec.vars) = true := by kernel_rfl
set_option maxRecDepth 100000 in
theorem loopTells_k5 : ((Rows.loopTellsRow.stops == [])) = true := by kernel_rfl
set_option maxRecDepth 100000 in
theorem loopTells_k7 : ((Rows.loopTellsRow.knobs == [])) = true := by kernel_rfl
set_option maxRecDepth 100000 in
theorem loopTells_k9 : ((Rows.loopTellsRow.inPlace == Tryz.prog.inPlace 6)) = true := by kernel_rfl
set_option maxRecDepth 100000 in
theorem loopTells_k10 : ((Rows.loopTellsRow.unfollowed == Tryz.prog.unfollowed 6)) = true := by kernel_rfl
set_option maxRecDepth 100000 in
theorem loopTells_k11 : ((Rows.loopTellsRow.recurses == Tryz.prog.recurses 6)) = true := by kernel_rfl
set_option maxRecDepth 100000 in
theorem loopTells_k12 : ((Rows.loopTellsRow.named == Tryz.prog.varsNamed 6)) = true := by kernel_rfl
set_option maxRecDepth 100000 in
theorem loopTells_k13 : ((Rows.loopTellsRow.maps == (Tryz.f6.params.toList ++ Rows.loopTellsSpec.plain.varTypes Tryz.prog).any (Tryz.prog.mapsRec ·))) = true := by kernel_rfl
set_option maxRecDepth 100000 in
theorem loopTells_k14 : ((Rows.loopTellsRow.ifaces == (Tryz.f6.params.toList ++ Rows.loopTellsSpec.plain.varTypes Tryz.prog).any (Tryz.prog.ifacesRec ·))) = true := by kernel_rfl
set_option maxRecDepth 100000 in
theorem loopTells_k15 : ((Rows.loopTellsRow.mapsOut == Tryz.prog.mapsAmong Tryz.f6.resultTypes.toList)) = true := by kernel_rfl
set_option maxRecDepth 100000 in
theorem loopTells_k16 : ((Rows.loopTellsRow.loops == (Tryz.f6.params.toList ++ Rows.loopTellsSpec.plain.varTypes Tryz.prog).any (Tryz.prog.loopsFrom ·))) = true := by kernel_rfl
set_option maxRecDepth 100000 in
theorem loopTells_k17 : ((Rows.loopTellsRow.wideKeys == (Tryz.f6.params.toList ++ Rows.loopTellsSpec.plain.varTypes Tryz.prog ++ Tryz.f6.resultTypes.toList).any (Tryz.prog.wideKeysFrom ·))) = true := by kernel_rfl
set_option maxRecDepth 100000 in
theorem loopTells_k18 : (Rows.loopTellsSpec.vars.all (Tryz.prog.varReadable ·)) = true := by kernel_rfl
set_option maxRecDepth 100000 in
theorem loopTells_k19 : (Tryz.f6.resultTypes.all (fun t => Tryz.prog.readableRec t && decide (t < Tryz.prog.types.size))) = true := by kernel_rfl
set_option maxRecDepth 100000 in
theorem loopTells_k20 : ((Rows.loopTellsRow.ifacesOut == Tryz.f6.resultTypes.toList.any (Tryz.prog.ifacesRec ·))) = true := by kernel_rfl
set_option maxRecDepth 100000 in
theorem loopTells_k21 : ((Rows.loopTellsRow.loopsOut == Tryz.f6.resultTypes.toList.any (Tryz.prog.loopsFrom ·))) = true := by kernel_rfl
set_option maxRecDepth 100000 in
theorem loopTells_k22 : ((Rows.loopTellsRow.plainKeys == Tryz.prog.plainKeys)) = true := by kernel_rfl
set_option maxRecDepth 100000 in
theorem loopTells_k23 : (Rows.loopTellsRow.shortTexts.isNone) = true := by kernel_rfl
set_option maxRecDepth 100000 in
theorem loopTells_k26 : ((Rows.loopTellsRow.lifted == Tryz.prog.liftsFinal)) = true := by kernel_rfl
set_option maxRecDepth 100000 in
theorem loopTells_k27 : ((Tryz.prog.make == some Rows.loopTellsRow.make)) = true := by kernel_rfl
set_option maxRecDepth 100000 in
theorem loopTells_k28 : ((Rows.loopTellsRow.kinds == (if Rows.loopTellsRow.domain.isEmpty then [] else Tryz.f6.params.toList.map fun t => match Tryz.prog.underlying t with | some (.int k) => some k | _ => none))) = true := by kernel_rfl
set_option maxRecDepth 100000 in
theorem loopTells_k29 : ((Rows.loopTellsRow.pinned == Rows.loopTellsRow.pinnedBy)) = true := by kernel_rfl
set_option maxRecDepth 100000 in
theorem loopTells_k30 : ((Rows.loopTellsRow.veiled == (Tryz.f6.params.toList ++ Rows.loopTellsSpec.plain.varTypes Tryz.prog ++ Tryz.f6.resultTypes.toList).any (Tryz.prog.veiledRec ·))) = true := by kernel_rfl
set_option maxRecDepth 100000 in
theorem loopTells_k31 : (Rows.loopTellsRow.veiledFits Tryz.prog Tryz.f6.params.toList (Tryz.f6.params.toList ++ Rows.loopTellsSpec.plain.varTypes Tryz.prog ++ Tryz.f6.resultTypes.toList)) = true := by kernel_rfl
set_option maxRecDepth 100000 in
theorem loopTells_closed : joinedFacts Tryz.prog 6 Tryz.f6 Rows.loopTellsSpec Rows.loopTellsRow = true := by
  unfold joinedFacts
  exact band (band (band (band (band (band (band (band (band (band (band (band (band (band (band (band (band (band (band (band (band (band (band (band (band (band (band (band (band (band (band (loopTells_k0) pf_1) pf_2) loopTells_k3) loopTells_k4) loopTells_k5) pf_6) loopTells_k7) pf_8) loopTells_k9) loopTells_k10) loopTells_k11) loopTells_k12) loopTells_k13) loopTells_k14) loopTells_k15) loopTells_k16) loopTells_k17) loopTells_k18) loopTells_k19) loopTells_k20) loopTells_k21) loopTells_k22) loopTells_k23) pf_24) pf_25) loopTells_k26) loopTells_k27) loopTells_k28) loopTells_k29) loopTells_k30) loopTells_k31
theorem loopTells_inst : Tryz.f6.isInstance Tryz.prog Rows.loopTellsRow.origin Rows.loopTellsRow.targs := of_decide_eq_true (by kernel_rfl)
theorem loopTells_wrap : Tryz.f6.isWrapper Tryz.prog Rows.loopTellsRow.wrapper Rows.loopTellsRow.mainSum := by unfold Func.isWrapper; first | (rw [if_pos (by decide +kernel)]; kernel_rfl) | (rw [if_neg (by decide +kernel)]; exact ⟨rfl, rfl⟩)
theorem loopTells_named : Tryz.prog.funcNamed Rows.loopTellsRow.func = some 6 := by kernel_rfl
end Go.Proofs.YtpibcdnagnjokaaGreat
