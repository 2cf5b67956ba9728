/- QstreamNil: a world in which the listed variables read as they are laid (witness). -/
import Derived.Test.YtkhbjdbogijkjaaGreatDoorNilContract
namespace Go.Proofs.YtkhbjdbogijkjaaGreatDoor.lawNil
open Go.ChangeShapes Go.WideShapes Go.ChangeAt Go.RowKit

/-- A world for the witness: what the program's own start-up leaves, and Go's table unicode/utf8.first (block 2). -/
noncomputable def laidWorld (os : Os) : World :=
  { World.doorLaid Tryz.prog 400 os with heap := (World.doorLaid Tryz.prog 400 os).heap.modify 2 fun
      | .cells _ t frozen => .cells (Pinned.utf8FirstZ.map (fun n : Nat => Value.int .u8 (n : Int))).toArray t frozen
      | o => o }
noncomputable def wit (os : Os) : World := (laidWorld os).forCall (fun _ _ => 0) ⟨#[], #[.agg NilWalks.evt], []⟩

theorem w_ref (os : Os) : (wit os).variablesRefB Tryz.prog = true := by kernel_rfl
theorem w_rest (os : Os) : ((wit os).heap.toList.drop Tryz.prog.globals.size).take ((begin Tryz.prog (fun _ _ => 0) default).world.heap.size - Tryz.prog.globals.size) =
    (begin Tryz.prog (fun _ _ => 0) default).world.heap.toList.drop Tryz.prog.globals.size := by kernel_rfl
theorem w_ok (os : Os) : Input.okWideB Tryz.prog (wit os) 3 ⟨#[], #[.agg NilWalks.evt], []⟩ = true := by kernel_rfl

def vals : List (String × DataW Unit) := Rows.qstreamNilRow.laid
theorem m_plain : (vals.all fun x => x.2.handleName?.isNone) = true := by kernel_rfl
theorem m_run (os : Os) : (DataW.laidRun Tryz.prog (wit os).memory 8 (vals.map (·.1))).map (·.1) = some vals := by kernel_rfl
theorem m_apart (os : Os) : (DataW.laidRun Tryz.prog (wit os).memory 8 (vals.map (·.1))).map (fun x => nodupBits 300 x.2 0) = some true := by kernel_rfl
theorem m_rows (os : Os) : (DataW.laidRun Tryz.prog (wit os).memory 8 (vals.map (·.1))).map (fun x => laidRowsB Tryz.prog (wit os).memory x.2) = some true := by kernel_rfl
theorem met (os : Os) : laidMet Tryz.prog Rows.qstreamNilRow.laid (wit os).memory := by
  have h1 := m_run os
  have h2 := m_apart os
  have h3 := m_rows os
  cases hx : DataW.laidRun Tryz.prog (wit os).memory 8 (vals.map (·.1)) with
  | none => rw [hx] at h1; cases h1
  | some x =>
    rw [hx] at h1 h2 h3
    obtain ⟨l, ps⟩ := x
    have e1 : l = vals := Option.some.inj h1
    subst e1
    exact laidMet_of_run (ps := ps) 8 hx (decide_eq_true (nodupBits_sound (Option.some.inj h2)).1) (Option.some.inj h3)

theorem reads (os : Os) {H : Type} (enc : TypeId × Value → H) : ∃ x, DataW.whole enc Tryz.prog (wit os).memory Tryz.f3.params.toList Rows.qstreamNilSpec.vars false #[Value.agg NilWalks.evt].toList 8 = some x :=
  Option.isSome_iff_exists.1 (by kernel_rfl)
theorem sized (os : Os) {H : Type} (enc : TypeId × Value → H) : (OpenSpec.ofChange Rows.qstreamNilSpec).bare.sizedB enc Tryz.prog Tryz.f3 false (wit os).memory #[Value.agg NilWalks.evt] 8 = true := by kernel_rfl


end Go.Proofs.YtkhbjdbogijkjaaGreatDoor.lawNil
