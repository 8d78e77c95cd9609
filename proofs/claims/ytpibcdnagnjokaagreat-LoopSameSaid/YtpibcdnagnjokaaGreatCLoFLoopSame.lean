/- The closed facts of the row loopSameRow. -/
import Derived.Test.YtpibcdnagnjokaaGreatLF
namespace Go.Proofs.YtpibcdnagnjokaaGreat
open Go
set_option maxRecDepth 100000 in
theorem loopSame_k0 : (Rows.loopSameRow.wf (OpenSpec.ofChange Rows.loopSameSpec)) = true := by kernel_rfl
set_option maxRecDepth 100000 in
theorem loopSame_k3 : (Tryz.f4.params.all (Tryz.prog.readableRec ·)) = true := by kernel_rfl
set_option maxRecDepth 100000 in
theorem loopSame_k4 : (namedTie Tryz.prog Rows.loopSameRow.named Rows.loopSameSpec.vars) = true := by kernel_rfl
set_option maxRecDepth 100000 in
theorem loopSame_k5 : ((Rows.loopSameRow.stops == [])) = true := by kernel_rfl
set_option maxRecDepth 100000 in
theorem loopSame_k7 : ((Rows.loopSameRow.knobs == [])) = true := by kernel_rfl
set_option maxRecDepth 100000 in
theorem loopSame_k9 : ((Rows.loopSameRow.inPlace == Tryz.prog.inPlace 4)) = true := by kernel_rfl
set_option maxRecDepth 100000 in
theorem loopSame_k10 : ((Rows.loopSameRow.unfollowed == Tryz.prog.unfollowed 4)) = true := by kernel_rfl
set_option maxRecDepth 100000 in
theorem loopSame_k11 : ((Rows.loopSameRow.recurses == Tryz.prog.recurses 4)) = true := by kernel_rfl
set_option maxRecDepth 100000 in
theorem loopSame_k12 : ((Rows.loopSameRow.named == Tryz.prog.varsNamed 4)) = true := by kernel_rfl
set_option maxRecDepth 100000 in
theorem loopSame_k13 : ((Rows.loopSameRow.maps == (Tryz.f4.params.toList ++ Rows.loopSameSpec.plain.varTypes Tryz.prog).any (Tryz.prog.mapsRec ·))) = true := by kernel_rfl
set_option maxRecDepth 100000 in
theorem loopSame_k14 : ((Rows.loopSameRow.ifaces == (Tryz.f4.params.toList ++ Rows.loopSameSpec.plain.varTypes Tryz.prog).any (Tryz.prog.ifacesRec ·))) = true := by kernel_rfl
set_option maxRecDepth 100000 in
theorem loopSame_k15 : ((Rows.loopSameRow.mapsOut == Tryz.prog.mapsAmong Tryz.f4.resultTypes.toList)) = true := by kernel_rfl
set_option maxRecDepth 100000 in
theorem loopSame_k16 : ((Rows.loopSameRow.loops == (Tryz.f4.params.toList ++ Rows.loopSameSpec.plain.varTypes Tryz.prog).any (Tryz.prog.loopsFrom ·))) = true := by kernel_rfl
set_option maxRecDepth 100000 in
theorem loopSame_k17 : ((Rows.loopSameRow.wideKeys == (Tryz.f4.params.toList ++ Rows.loopSameSpec.plain.varTypes Tryz.prog ++ Tryz.f4.resultTypes.toList).any (Tryz.prog.wideKeysFrom ·))) = true := by kernel_rfl
set_option maxRecDepth 100000 in
theorem loopSame_k18 : (Rows.loopSameSpec.vars.all (Tryz.prog.varReadable ·)) = true := by kernel_rfl
set_option maxRecDepth 100000 in
theorem loopSame_k19 : (Tryz.f4.resultTypes.all (fun t => Tryz.prog.readableRec t && decide (t < Tryz.prog.types.size))) = true := by kernel_rfl
set_option maxRecDepth 100000 in
theorem loopSame_k20 : ((Rows.loopSameRow.ifacesOut == Tryz.f4.resultTypes.toList.any (Tryz.prog.ifacesRec ·))) = true := by kernel_rfl
set_option maxRecDepth 100000 in
theorem loopSame_k21 : ((Rows.loopSameRow.loopsOut == Tryz.f4.resultTypes.toList.any (Tryz.prog.loopsFrom ·))) = true := by kernel_rfl
set_option maxRecDepth 100000 in
theorem loopSame_k22 : ((Rows.loopSameRow.plainKeys == Tryz.prog.plainKeys)) = true := by kernel_rfl
set_option maxRecDepth 100000 in
theorem loopSame_k23 : (Rows.loopSameRow.shortTexts.isNone) = true := by kernel_rfl
set_option maxRecDepth 100000 in
theorem loopSame_k26 : ((Rows.loopSameRow.lifted == Tryz.prog.liftsFinal)) = true := by kernel_rfl
set_option maxRecDepth 100000 in
theorem loopSame_k27 : ((Tryz.prog.make == some Rows.loopSameRow.make)) = true := by kernel_rfl
set_option maxRecDepth 100000 in
theorem loopSame_k28 : ((Rows.loopSameRow.kinds == (if Rows.loopSameRow.domain.isEmpty then [] else Tryz.f4.params.toList.map fun t => match Tryz.prog.underlying t with | some (.int k) => some k | _ => none))) = true := by kernel_rfl
set_option maxRecDepth 100000 in
theorem loopSame_k29 : ((Rows.loopSameRow.pinned == Rows.loopSameRow.pinnedBy)) = true := by kernel_rfl
set_option maxRecDepth 100000 in
theorem loopSame_k30 : ((Rows.loopSameRow.veiled == (Tryz.f4.params.toList ++ Rows.loopSameSpec.plain.varTypes Tryz.prog ++ Tryz.f4.resultTypes.toList).any (Tryz.prog.veiledRec ·))) = true := by kernel_rfl
set_option maxRecDepth 100000 in
theorem loopSame_k31 : (Rows.loopSameRow.veiledFits Tryz.prog Tryz.f4.params.toList (Tryz.f4.params.toList ++ Rows.loopSameSpec.plain.varTypes Tryz.prog ++ Tryz.f4.resultTypes.toList)) = true := by kernel_rfl
set_option maxRecDepth 100000 in
theorem loopSame_closed : joinedFacts Tryz.prog 4 Tryz.f4 Rows.loopSameSpec Rows.loopSameRow = true := by
  unfold joinedFacts
  exact band (band (band (band (band (band (band (band (band (band (band (band (band (band (band (band (band (band (band (band (band (band (band (band (band (band (band (band (band (band (band (loopSame_k0) pf_1) pf_2) loopSame_k3) loopSame_k4) loopSame_k5) pf_6) loopSame_k7) pf_8) loopSame_k9) loopSame_k10) loopSame_k11) loopSame_k12) loopSame_k13) loopSame_k14) loopSame_k15) loopSame_k16) loopSame_k17) loopSame_k18) loopSame_k19) loopSame_k20) loopSame_k21) loopSame_k22) loopSame_k23) pf_24) pf_25) loopSame_k26) loopSame_k27) loopSame_k28) loopSame_k29) loopSame_k30) loopSame_k31
theorem loopSame_inst : Tryz.f4.isInstance Tryz.prog Rows.loopSameRow.origin Rows.loopSameRow.targs := of_decide_eq_true (by kernel_rfl)
theorem loopSame_wrap : Tryz.f4.isWrapper Tryz.prog Rows.loopSameRow.wrapper Rows.loopSameRow.mainSum := by unfold Func.isWrapper; first | (rw [if_pos (by decide +kernel)]; kernel_rfl) | (rw [if_neg (by decide +kernel)]; exact ⟨rfl, rfl⟩)
theorem loopSame_named : Tryz.prog.funcNamed Rows.loopSameRow.func = some 4 := by kernel_rfl
end Go.Proofs.YtpibcdnagnjokaaGreat
