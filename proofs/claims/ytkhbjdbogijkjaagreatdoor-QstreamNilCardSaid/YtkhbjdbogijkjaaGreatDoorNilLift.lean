/- QstreamNil: the specification holds of the law in every such world. -/
import Derived.Test.YtkhbjdbogijkjaaGreatDoorNilMet
namespace Go.Proofs.YtkhbjdbogijkjaaGreatDoor.lawNil
open Go.ChangeShapes Go.WideShapes Go.ChangeAt Go.RowKit

set_option maxRecDepth 100000 in
theorem lifted (os : Os) (started : os.Started) (H : Type) (enc : TypeId × Value → H) (F : Stop.Interp) :
    ReturnsInHanded {} Tryz.checked os 3 .any ((OpenSpec.ofChange Rows.qstreamNilSpec).preRow enc Tryz.prog Tryz.f3 Rows.qstreamNilRow.domain false Rows.qstreamNilRow.laid) (((OpenSpec.ofChange Rows.qstreamNilSpec).at F).post enc Tryz.prog Tryz.f3 false true false false) := by
  obtain ⟨x, hx⟩ := reads os enc
  refine returnsInHanded_of_row (C := Tryz.checked) (s := OpenSpec.ofChange Rows.qstreamNilSpec) own started (by kernel_rfl) Tryz.func3
    (witness_row_atRef (enc := enc) (C := Tryz.checked) false (laidWorld os) #[.agg NilWalks.evt] rfl (w_ref os) (w_rest os) (w_ok os)
      (OpenSpec.preRow_of_cond 8 hx rfl (fun k hk => by cases hk) (sized os enc) (MakeChecks.laidMetH_plain _ _ _ m_plain ▸ met os))) ?_
  intro W base args ds gs before hval hW _ _ _ _ _ _
  exact contract H enc W base args ds gs before hval hW


end Go.Proofs.YtkhbjdbogijkjaaGreatDoor.lawNil
