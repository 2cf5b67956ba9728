/- BuiltinJoins: what the law does, as the specification says it. Conditions: none beyond the row's. | BuiltinJoins: a world in which the listed variables read as they are laid (witness). Conditions: none. | BuiltinJoins: the specification holds of the law in every such world. Conditions: none. | BuiltinJoins: the statement without its card. Conditions: none. -/
import Derived.Test.YtaeclmligojlaaaGreatDoorCards
import Derived.Test.YtaeclmligojlaaaGreatDoorB7
import Derived.Shelf.Vars
import Derived.WalkKit
import Derived.ProofKit
import Derived.OpenShut
import Derived.LaidMore
import Derived.Deep.DeepHandedRow
import Derived.Deep.DeepWitnessRowRef
import Derived.LaidOnce
/- BuiltinJoins: what the law does, as the specification says it. Conditions: none beyond the row's. -/
namespace Go.Proofs.YtaeclmligojlaaaGreatDoor.lawJoins
open Go.ChangeShapes Go.WideShapes Go.ChangeAt Go.RowKit
open Go.ChangeMaps (open_string shut_string)

theorem own : ownKnob Tryz.prog.godebug = none := by kernel_rfl
theorem maxlen (w : World) (h : w.ShapedOpen Tryz.prog) : ∃ m, w.cell? ⟨1, 0, none⟩ = some (.int .i64 m) :=
  Go.Proofs.cell_of_shapedOpen_int (zero := #[.int .i64 0]) (t := 3) h (of_decide_eq_true (by kernel_rfl)) (by kernel_rfl) rfl (by kernel_rfl) (by kernel_rfl) Tryz.underlying3

set_option maxRecDepth 100000 in
theorem contract (H : Type) (enc : TypeId × Value → H) (W : World) (base : Nat) (args : Array Value) (ds gs : List (DataW H)) (before : List MemPlace)
    (hval : ∀ (j : Nat) t v, Tryz.f5.params[j]? = some t → args[j]? = some v → Value.okWide Tryz.prog W .any base t v)
    (hW : DataW.Whole enc Tryz.prog Tryz.f5.params.toList Rows.builtinJoinsSpec.vars false W args.toList ds gs before)
    (_hcond : ∀ k, (OpenSpec.ofChange Rows.builtinJoinsSpec).cond = some k → k H (ds ++ gs) = true)
    (_hsz : (DataW.weightsEach Tryz.prog (Tryz.f5.params.toList ++ (OpenSpec.ofChange Rows.builtinJoinsSpec).bare.plain.varTypes Tryz.prog) (ds ++ gs)).all (· ≤ reachBytes) = true)
    (_hL : laidMetH Tryz.prog Rows.builtinJoinsRow.laid W) (hsh : W.ShapedOpen Tryz.prog) :
    Calls Tryz.prog 5 args W fun e W' => ∃ v, e = .returned v ∧ Rows.builtinJoinsSpec.post enc Tryz.prog Tryz.f5 false true false false W args v W' := by
  obtain ⟨m, hm⟩ := maxlen W hsh
  have hW' := hW
  obtain ⟨p, q, hA0, hV, rfl, hfz, hnd⟩ := hW
  have hA : DataW.TrodAll enc Tryz.prog W 0 (fun _ => true) true Tryz.f5.params.toList args.toList ds p := hA0
  rw [Tryz.params5] at hA hval
  obtain ⟨v0, v1, v2, d0, d1, d2, p0, p1, p2, hargs, rfl, rfl, h0, h1, h2⟩ := trodAll_three hA
  obtain rfl : args = #[v0, v1, v2] := by cases args; simp_all
  obtain ⟨rfl, rfl⟩ := trodVars_none hV
  obtain ⟨s0, rfl, rfl, rfl, w0⟩ := open_string Tryz.underlying9 (hval 0 9 v0 rfl rfl) h0
  obtain ⟨s1, rfl, rfl, rfl, w1⟩ := open_string Tryz.underlying9 (hval 1 9 v1 rfl rfl) h1
  obtain ⟨s2, rfl, rfl, rfl, w2⟩ := open_string Tryz.underlying9 (hval 2 9 v2 rfl rfl) h2
  clear hA0
  have x0 := w0
  have x1 := w1
  have x2 := w2
  unfold maxLen at x0 x1 x2
  refine (D.law_joins s0 s1 s2 m W hm x0 x1 x2).mono fun e W' ⟨he, bel⟩ => ?_
  subst he
  exact ⟨_, rfl, _, _, _, [], [], [], hW', trodAll_mk1 (shut_bool Tryz.underlying4 _), trodAll_mk3 (shut_string Tryz.underlying9 w0) (shut_string Tryz.underlying9 w1) (shut_string Tryz.underlying9 w2), rfl, bel.frame _, fun h => by cases h⟩
end Go.Proofs.YtaeclmligojlaaaGreatDoor.lawJoins

/- BuiltinJoins: a world in which the listed variables read as they are laid (witness). Conditions: none. -/
namespace Go.Proofs.YtaeclmligojlaaaGreatDoor.lawJoins
open Go.ChangeShapes Go.WideShapes Go.ChangeAt Go.RowKit

/-- A world for the witness: what the program's own start-up leaves, and Go's table unicode/utf8.first. -/
noncomputable def laidWorld (os : Os) : World :=
  { World.doorLaid Tryz.prog 400 os with heap := (World.doorLaid Tryz.prog 400 os).heap.modify 3 fun
      | .cells _ t frozen => .cells (Pinned.utf8FirstZ.map (fun n : Nat => Value.int .u8 (n : Int))).toArray t frozen
      | o => o }
noncomputable def wit (os : Os) : World := (laidWorld os).forCall (fun _ _ => 0) ⟨#[], #[.string ⟨#[]⟩, .string ⟨#[]⟩, .string ⟨#[]⟩], []⟩

theorem w_ref (os : Os) : (wit os).variablesRefB Tryz.prog = true := by kernel_rfl
theorem w_rest (os : Os) : ((wit os).heap.toList.drop Tryz.prog.globals.size).take ((begin Tryz.prog (fun _ _ => 0) default).world.heap.size - Tryz.prog.globals.size) =
    (begin Tryz.prog (fun _ _ => 0) default).world.heap.toList.drop Tryz.prog.globals.size := by kernel_rfl
theorem w_ok (os : Os) : Input.okWideB Tryz.prog (wit os) 5 ⟨#[], #[.string ⟨#[]⟩, .string ⟨#[]⟩, .string ⟨#[]⟩], []⟩ = true := by kernel_rfl

def vals : List (String × DataW Unit) := Rows.builtinJoinsRow.laid
theorem m_plain : (vals.all fun x => x.2.handleName?.isNone) = true := by kernel_rfl
theorem m_run (os : Os) : (DataW.laidRun Tryz.prog (wit os).memory 8 (vals.map (·.1))).map (·.1) = some vals := by kernel_rfl
theorem m_apart (os : Os) : (DataW.laidRun Tryz.prog (wit os).memory 8 (vals.map (·.1))).map (fun x => nodupBits 300 x.2 0) = some true := by kernel_rfl
theorem m_rows (os : Os) : (DataW.laidRun Tryz.prog (wit os).memory 8 (vals.map (·.1))).map (fun x => laidRowsB Tryz.prog (wit os).memory x.2) = some true := by kernel_rfl
theorem met (os : Os) : laidMet Tryz.prog Rows.builtinJoinsRow.laid (wit os).memory := by
  have h1 := m_run os
  have h2 := m_apart os
  have h3 := m_rows os
  cases hx : DataW.laidRun Tryz.prog (wit os).memory 8 (vals.map (·.1)) with
  | none => rw [hx] at h1; cases h1
  | some x =>
    rw [hx] at h1 h2 h3
    obtain ⟨l, ps⟩ := x
    have e1 : l = vals := Option.some.inj h1
    subst e1
    exact laidMet_of_run (ps := ps) 8 hx (decide_eq_true (nodupBits_sound (Option.some.inj h2)).1) (Option.some.inj h3)

theorem reads (os : Os) {H : Type} (enc : TypeId × Value → H) : ∃ x, DataW.whole enc Tryz.prog (wit os).memory Tryz.f5.params.toList Rows.builtinJoinsSpec.vars false (#[.string ⟨#[]⟩, .string ⟨#[]⟩, .string ⟨#[]⟩] : Array Value).toList 8 = some x :=
  Option.isSome_iff_exists.1 (by kernel_rfl)
theorem sized (os : Os) {H : Type} (enc : TypeId × Value → H) : (OpenSpec.ofChange Rows.builtinJoinsSpec).bare.sizedB enc Tryz.prog Tryz.f5 false (wit os).memory #[.string ⟨#[]⟩, .string ⟨#[]⟩, .string ⟨#[]⟩] 8 = true := by kernel_rfl
end Go.Proofs.YtaeclmligojlaaaGreatDoor.lawJoins

/- BuiltinJoins: the specification holds of the law in every such world. Conditions: none. -/
namespace Go.Proofs.YtaeclmligojlaaaGreatDoor.lawJoins
open Go.ChangeShapes Go.WideShapes Go.ChangeAt Go.RowKit

set_option maxRecDepth 100000 in
theorem lifted (os : Os) (started : os.Started) (H : Type) (enc : TypeId × Value → H) (F : Stop.Interp) :
    ReturnsInHanded {} Tryz.checked os 5 .any ((OpenSpec.ofChange Rows.builtinJoinsSpec).preRow enc Tryz.prog Tryz.f5 Rows.builtinJoinsRow.domain false Rows.builtinJoinsRow.laid) (((OpenSpec.ofChange Rows.builtinJoinsSpec).at F).post enc Tryz.prog Tryz.f5 false true false false) := by
  obtain ⟨x, hx⟩ := reads os enc
  refine returnsInHanded_of_row (C := Tryz.checked) (s := (OpenSpec.ofChange Rows.builtinJoinsSpec)) own started (by kernel_rfl) Tryz.func5
    (witness_row_atRef (enc := enc) (C := Tryz.checked) false (laidWorld os) #[.string ⟨#[]⟩, .string ⟨#[]⟩, .string ⟨#[]⟩] rfl (w_ref os) (w_rest os) (w_ok os)
      (OpenSpec.preRow_of_cond 8 hx rfl (fun k hk => by cases hk) (sized os enc) (MakeChecks.laidMetH_plain _ _ _ m_plain ▸ met os))) ?_
  intro W base args ds gs before hval hW hcnd hcond hsz hL hsh hass
  exact contract H enc W base args ds gs before hval hW hcond hsz hL hsh
end Go.Proofs.YtaeclmligojlaaaGreatDoor.lawJoins

/- BuiltinJoins: the statement without its card. Conditions: none. -/
namespace Go.Proofs.YtaeclmligojlaaaGreatDoor.lawJoins
open Go.ChangeShapes Go.WideShapes Go.ChangeAt Go.RowKit

theorem named3 : Tryz.pinned.checked.prog.funcNamed Rows.builtinJoinsRow.func = some 5 := by kernel_rfl
theorem inst : Tryz.f5.isInstance Tryz.pinned.checked.prog Rows.builtinJoinsRow.origin Rows.builtinJoinsRow.targs := of_decide_eq_true (by kernel_rfl)
theorem wrapper : Tryz.f5.isWrapper Tryz.pinned.checked.prog Rows.builtinJoinsRow.wrapper Rows.builtinJoinsRow.mainSum := by unfold Func.isWrapper; first | (rw [if_pos (by decide +kernel)]; kernel_rfl) | (rw [if_neg (by decide +kernel)]; exact ⟨rfl, rfl⟩)
theorem closed : joinedFacts Tryz.pinned.checked.prog 5 Tryz.f5 (OpenSpec.ofChange Rows.builtinJoinsSpec).bare Rows.builtinJoinsRow = true := by kernel_rfl
theorem said : Rows.BuiltinJoinsSaid :=
  OpenClaim.holds_of_cond 5 Tryz.f5 rfl rfl rfl rfl rfl rfl rfl ⟨rfl, rfl, rfl, rfl, rfl⟩ rfl rfl rfl rfl rfl named3 Tryz.func5 closed inst wrapper
    (fun os started H enc _ F => by rw [OpenClaim.pre_eq_preRow]; exact lifted os started H enc F)
end Go.Proofs.YtaeclmligojlaaaGreatDoor.lawJoins
