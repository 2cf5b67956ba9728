/- QstreamNil: the closed facts of the statement, each by itself. Conditions: none. -/
import Derived.Test.YtkhbjdbogijkjaaGreatDoorNilLift
namespace Go.Proofs.YtkhbjdbogijkjaaGreatDoor.lawNil
open Go.ChangeShapes Go.WideShapes Go.ChangeAt Go.RowKit

noncomputable abbrev PP : Program := Tryz.pinned.checked.prog
noncomputable abbrev SS : ChangeSpec := (OpenSpec.ofChange Rows.qstreamNilSpec).bare
noncomputable abbrev CC : OpenClaim := Rows.qstreamNilRow
theorem j0 : (CC.wf (OpenSpec.ofChange SS)) = true := by kernel_rfl
theorem j1 : (laidOutB PP) = true := by kernel_rfl
theorem j2 : (mapsRowed PP) = true := by kernel_rfl
theorem j3 : (Tryz.f3.params.all (PP.readableRec ·)) = true := by kernel_rfl
theorem j4 : (namedTie PP CC.named SS.vars) = true := by kernel_rfl
theorem j5 : ((CC.stops == [])) = true := by kernel_rfl
theorem j6 : ((PP.stops == [])) = true := by kernel_rfl
theorem j7 : ((CC.knobs == [])) = true := by kernel_rfl
theorem j8 : ((PP.stopKnobs == [])) = true := by kernel_rfl
theorem j9 : ((CC.inPlace == PP.inPlace 3)) = true := by kernel_rfl
theorem j10 : ((CC.unfollowed == PP.unfollowed 3)) = true := by kernel_rfl
theorem j11 : ((CC.recurses == PP.recurses 3)) = true := by kernel_rfl
theorem j12 : ((CC.named == PP.varsNamed 3)) = true := by kernel_rfl
theorem j13 : ((CC.maps == (Tryz.f3.params.toList ++ SS.plain.varTypes PP).any (PP.mapsRec ·))) = true := by kernel_rfl
theorem j14 : ((CC.ifaces == (Tryz.f3.params.toList ++ SS.plain.varTypes PP).any (PP.ifacesRec ·))) = true := by kernel_rfl
theorem j15 : ((CC.mapsOut == PP.mapsAmong Tryz.f3.resultTypes.toList)) = true := by kernel_rfl
theorem j16 : ((CC.loops == (Tryz.f3.params.toList ++ SS.plain.varTypes PP).any (PP.loopsFrom ·))) = true := by kernel_rfl
theorem j17 : ((CC.wideKeys == (Tryz.f3.params.toList ++ SS.plain.varTypes PP ++ Tryz.f3.resultTypes.toList).any (PP.wideKeysFrom ·))) = true := by kernel_rfl
theorem j18 : (SS.vars.all (PP.varReadable ·)) = true := by kernel_rfl
theorem j19 : (Tryz.f3.resultTypes.all (fun t => PP.readableRec t && decide (t < PP.types.size))) = true := by kernel_rfl
theorem j20 : ((CC.ifacesOut == Tryz.f3.resultTypes.toList.any (PP.ifacesRec ·))) = true := by kernel_rfl
theorem j21 : ((CC.loopsOut == Tryz.f3.resultTypes.toList.any (PP.loopsFrom ·))) = true := by kernel_rfl
theorem j22 : ((CC.plainKeys == PP.plainKeys)) = true := by kernel_rfl
theorem j23 : (CC.shortTexts.isNone) = true := by kernel_rfl
theorem j24 : (PP.stopsHeard) = true := by kernel_rfl
theorem j25 : (PP.mayEnter) = true := by kernel_rfl
theorem j26 : ((CC.lifted == PP.liftsFinal)) = true := by kernel_rfl
theorem j27 : ((PP.make == some CC.make)) = true := by kernel_rfl
theorem j28 : ((CC.kinds == (if CC.domain.isEmpty then [] else Tryz.f3.params.toList.map fun t => match PP.underlying t with | some (.int k) => some k | _ => none))) = true := by kernel_rfl
theorem j29 : ((CC.pinned == CC.pinnedBy)) = true := by kernel_rfl
theorem j30 : ((CC.veiled == (Tryz.f3.params.toList ++ SS.plain.varTypes PP ++ Tryz.f3.resultTypes.toList).any (PP.veiledRec ·))) = true := by kernel_rfl
theorem j31 : (CC.veiledFits PP Tryz.f3.params.toList (Tryz.f3.params.toList ++ SS.plain.varTypes PP ++ Tryz.f3.resultTypes.toList)) = true := by kernel_rfl
set_option maxRecDepth 100000 in
theorem closed : joinedFacts PP 3 Tryz.f3 SS CC = true := by
  unfold joinedFacts
  refine Bool.and_eq_true_iff.mpr ⟨?_, j31⟩
  refine Bool.and_eq_true_iff.mpr ⟨?_, j30⟩
  refine Bool.and_eq_true_iff.mpr ⟨?_, j29⟩
  refine Bool.and_eq_true_iff.mpr ⟨?_, j28⟩
  refine Bool.and_eq_true_iff.mpr ⟨?_, j27⟩
  refine Bool.and_eq_true_iff.mpr ⟨?_, j26⟩
  refine Bool.and_eq_true_iff.mpr ⟨?_, j25⟩
  refine Bool.and_eq_true_iff.mpr ⟨?_, j24⟩
  refine Bool.and_eq_true_iff.mpr ⟨?_, j23⟩
  refine Bool.and_eq_true_iff.mpr ⟨?_, j22⟩
  refine Bool.and_eq_true_iff.mpr ⟨?_, j21⟩
  refine Bool.and_eq_true_iff.mpr ⟨?_, j20⟩
  refine Bool.and_eq_true_iff.mpr ⟨?_, j19⟩
  refine Bool.and_eq_true_iff.mpr ⟨?_, j18⟩
  refine Bool.and_eq_true_iff.mpr ⟨?_, j17⟩
  refine Bool.and_eq_true_iff.mpr ⟨?_, j16⟩
  refine Bool.and_eq_true_iff.mpr ⟨?_, j15⟩
  refine Bool.and_eq_true_iff.mpr ⟨?_, j14⟩
  refine Bool.and_eq_true_iff.mpr ⟨?_, j13⟩
  refine Bool.and_eq_true_iff.mpr ⟨?_, j12⟩
  refine Bool.and_eq_true_iff.mpr ⟨?_, j11⟩
  refine Bool.and_eq_true_iff.mpr ⟨?_, j10⟩
  refine Bool.and_eq_true_iff.mpr ⟨?_, j9⟩
  refine Bool.and_eq_true_iff.mpr ⟨?_, j8⟩
  refine Bool.and_eq_true_iff.mpr ⟨?_, j7⟩
  refine Bool.and_eq_true_iff.mpr ⟨?_, j6⟩
  refine Bool.and_eq_true_iff.mpr ⟨?_, j5⟩
  refine Bool.and_eq_true_iff.mpr ⟨?_, j4⟩
  refine Bool.and_eq_true_iff.mpr ⟨?_, j3⟩
  refine Bool.and_eq_true_iff.mpr ⟨?_, j2⟩
  refine Bool.and_eq_true_iff.mpr ⟨?_, j1⟩
  exact j0
end Go.Proofs.YtkhbjdbogijkjaaGreatDoor.lawNil
