/- BuiltinEntries: what the law does, as the narrowed specification says it. Conditions: none beyond the row's. | BuiltinEntries: a world in which the listed variables read as they are laid (witness). Conditions: none. | BuiltinEntries: the specification holds of the law in every such world. Conditions: none. | BuiltinEntries: the statement without its card. Conditions: none. -/
import Derived.Test.YtaeclmligojlaaaGreatDoorCards
import Derived.Test.YtaeclmligojlaaaGreatDoorB9
import Derived.Shelf.Vars
import Derived.WalkKit
import Derived.ProofKit
import Derived.OpenShut
import Derived.LaidMore
import Derived.LaidSub
import Derived.Lib.LaidTab
import Derived.Deep.DeepHandedRow
import Derived.Deep.DeepWitnessRowRef
import Derived.LaidOnce
/- BuiltinEntries: what the law does, as the narrowed specification says it. Conditions: none beyond the row's. -/
namespace Go.Proofs.YtaeclmligojlaaaGreatDoor.lawEntries
open Go.ChangeShapes Go.WideShapes Go.ChangeAt Go.RowKit

theorem own : ownKnob Tryz.prog.godebug = none := by kernel_rfl
theorem laidOut : laidOutB Tryz.prog = true := by kernel_rfl

theorem tab_is : (Rows.builtinEntriesUptoRow.laid.filter fun x => x.1 == "strings.asciiSpace") = [("strings.asciiSpace", Lib.tabData .u8 Lib.asciiSpaceTab)] := by kernel_rfl
theorem tab_of_laid {W : World} (hL : laidMetH Tryz.prog Rows.builtinEntriesUptoRow.laid W) : D.Tab W := by
  have h1 := laidMetH.filter (fun x => x.1 == "strings.asciiSpace") hL
  rw [tab_is] at h1
  rw [MakeChecks.laidMetH_plain _ _ _ (by kernel_rfl)] at h1
  exact Lib.tabIs_of_head (g := 0) (by kernel_rfl) (by kernel_rfl) Tryz.underlying188 Tryz.underlying5 (by kernel_rfl) (by kernel_rfl) h1

set_option maxRecDepth 100000 in
theorem contract (H : Type) (enc : TypeId × Value → H) (W : World) (base : Nat) (args : Array Value) (ds gs : List (DataW H)) (before : List MemPlace)
    (hval : ∀ (j : Nat) t v, Tryz.f4.params[j]? = some t → args[j]? = some v → Value.okWide Tryz.prog W .any base t v)
    (hW : DataW.Whole enc Tryz.prog Tryz.f4.params.toList Rows.builtinEntriesSpec.vars false W args.toList ds gs before)
    (hcond : ∀ k, (Rows.OpenSpec.upto Rows.builtinEntriesSpec).cond = some k → k H (ds ++ gs) = true)
    (_hsz : (DataW.weightsEach Tryz.prog (Tryz.f4.params.toList ++ (Rows.OpenSpec.upto Rows.builtinEntriesSpec).bare.plain.varTypes Tryz.prog) (ds ++ gs)).all (· ≤ reachBytes) = true)
    (hL : laidMetH Tryz.prog Rows.builtinEntriesUptoRow.laid W) (_hsh : W.ShapedOpen Tryz.prog) :
    Calls Tryz.prog 4 args W fun e W' => ∃ v, e = .returned v ∧ Rows.builtinEntriesSpec.post enc Tryz.prog Tryz.f4 false true false false W args v W' := by
  have hW' := hW
  obtain ⟨p, q, hA0, hV, rfl, hfz, hnd⟩ := hW
  have hA : DataW.TrodAll enc Tryz.prog W 0 (fun _ => true) true Tryz.f4.params.toList args.toList ds p := hA0
  rw [Tryz.params4] at hA hval
  obtain ⟨v0, d0, rfl, rfl, h0⟩ := trodAll_one hA
  obtain ⟨rfl, rfl⟩ := trodVars_none hV
  have hbk := D.bulk_small (hcond _ rfl)
  have hb1 : Rows.uptoBulk d0 ≤ 1048576 := by
    simp only [List.append_nil, Rows.uptoBulkAll] at hbk
    omega
  have k0 := h0
  obtain ⟨m, hm⟩ := h0
  have lt0 : ∀ x ∈ p, x.block < W.heap.size := DataW.trod_lt m _ _ _ hm
  have hv0 := hval 0 30 v0 rfl rfl
  unfold Value.okWide at hv0
  simp only [Tryz.underlying30] at hv0
  obtain ⟨cs, rfl, hcs, _⟩ := hv0
  obtain ⟨c, v, hc, hv, hw, hl⟩ := D.open_value _ m _ _ _ (Nat.le_refl _) hm
  obtain rfl : cs = c.arr := Array.toList_inj.1 hc
  clear hA0
  refine (D.law_entries v c W (tab_of_laid hL) (hl hb1) (by omega) hv).mono fun e W' ⟨he, bel⟩ => ?_
  subst he
  exact ⟨_, rfl, _, _, _, [], _, [], hW', trodAll_mk1 (shut_bool Tryz.underlying4 _), (trodAll_cons_mk (Below.trod laidOut (by kernel_rfl) (of_decide_eq_true (by kernel_rfl)) k0 bel lt0) trodAll_mk0), rfl, bel.frame _, fun h => by cases h⟩
end Go.Proofs.YtaeclmligojlaaaGreatDoor.lawEntries

/- BuiltinEntries: a world in which the listed variables read as they are laid (witness). Conditions: none. -/
namespace Go.Proofs.YtaeclmligojlaaaGreatDoor.lawEntries
open Go.ChangeShapes Go.WideShapes Go.ChangeAt Go.RowKit

/-- A world for the witness: what the program's own start-up leaves, and Go's table unicode/utf8.first. -/
noncomputable def laidWorld (os : Os) : World :=
  { World.doorLaid Tryz.prog 400 os with heap := (World.doorLaid Tryz.prog 400 os).heap.modify 3 fun
      | .cells _ t frozen => .cells (Pinned.utf8FirstZ.map (fun n : Nat => Value.int .u8 (n : Int))).toArray t frozen
      | o => o }
noncomputable def wit (os : Os) : World := (laidWorld os).forCall (fun _ _ => 0) ⟨#[], #[.agg #[.int .i64 0, .bool false, .bool false, .string ⟨#[]⟩, .int .i64 0, .int .i64 0, .int .i64 0, .int .i64 0, .int .i64 0, .string ⟨#[]⟩, .slice none 0 0, .slice none 0 0, .slice none 0 0]], []⟩

theorem w_ref (os : Os) : (wit os).variablesRefB Tryz.prog = true := by kernel_rfl
theorem w_rest (os : Os) : ((wit os).heap.toList.drop Tryz.prog.globals.size).take ((begin Tryz.prog (fun _ _ => 0) default).world.heap.size - Tryz.prog.globals.size) =
    (begin Tryz.prog (fun _ _ => 0) default).world.heap.toList.drop Tryz.prog.globals.size := by kernel_rfl
theorem w_ok (os : Os) : Input.okWideB Tryz.prog (wit os) 4 ⟨#[], #[.agg #[.int .i64 0, .bool false, .bool false, .string ⟨#[]⟩, .int .i64 0, .int .i64 0, .int .i64 0, .int .i64 0, .int .i64 0, .string ⟨#[]⟩, .slice none 0 0, .slice none 0 0, .slice none 0 0]], []⟩ = true := by kernel_rfl

def vals : List (String × DataW Unit) := Rows.builtinEntriesUptoRow.laid
theorem m_plain : (vals.all fun x => x.2.handleName?.isNone) = true := by kernel_rfl
theorem m_run (os : Os) : (DataW.laidRun Tryz.prog (wit os).memory 8 (vals.map (·.1))).map (·.1) = some vals := by kernel_rfl
theorem m_apart (os : Os) : (DataW.laidRun Tryz.prog (wit os).memory 8 (vals.map (·.1))).map (fun x => nodupBits 300 x.2 0) = some true := by kernel_rfl
theorem m_rows (os : Os) : (DataW.laidRun Tryz.prog (wit os).memory 8 (vals.map (·.1))).map (fun x => laidRowsB Tryz.prog (wit os).memory x.2) = some true := by kernel_rfl
theorem met (os : Os) : laidMet Tryz.prog Rows.builtinEntriesUptoRow.laid (wit os).memory := by
  have h1 := m_run os
  have h2 := m_apart os
  have h3 := m_rows os
  cases hx : DataW.laidRun Tryz.prog (wit os).memory 8 (vals.map (·.1)) with
  | none => rw [hx] at h1; cases h1
  | some x =>
    rw [hx] at h1 h2 h3
    obtain ⟨l, ps⟩ := x
    have e1 : l = vals := Option.some.inj h1
    subst e1
    exact laidMet_of_run (ps := ps) 8 hx (decide_eq_true (nodupBits_sound (Option.some.inj h2)).1) (Option.some.inj h3)

theorem reads (os : Os) {H : Type} (enc : TypeId × Value → H) : ∃ places, DataW.whole enc Tryz.prog (wit os).memory Tryz.f4.params.toList Rows.builtinEntriesSpec.vars false (#[.agg #[.int .i64 0, .bool false, .bool false, .string ⟨#[]⟩, .int .i64 0, .int .i64 0, .int .i64 0, .int .i64 0, .int .i64 0, .string ⟨#[]⟩, .slice none 0 0, .slice none 0 0, .slice none 0 0]] : Array Value).toList 8 =
    some ([.agg [.lit (.int .i64 0), .lit (.bool false), .agg [.lit (.bool false), .lit (.string []), .lit (.int .i64 0)], .agg [.lit (.int .i64 0), .lit (.int .i64 0), .lit (.int .i64 0), .lit (.int .i64 0)], .lit (.string []), .nil, .nil, .nil]], [], places) :=
  ⟨[], by kernel_rfl⟩
theorem sized (os : Os) {H : Type} (enc : TypeId × Value → H) : (Rows.OpenSpec.upto Rows.builtinEntriesSpec).bare.sizedB enc Tryz.prog Tryz.f4 false (wit os).memory #[.agg #[.int .i64 0, .bool false, .bool false, .string ⟨#[]⟩, .int .i64 0, .int .i64 0, .int .i64 0, .int .i64 0, .int .i64 0, .string ⟨#[]⟩, .slice none 0 0, .slice none 0 0, .slice none 0 0]] 8 = true := by kernel_rfl
end Go.Proofs.YtaeclmligojlaaaGreatDoor.lawEntries

/- BuiltinEntries: the specification holds of the law in every such world. Conditions: none. -/
namespace Go.Proofs.YtaeclmligojlaaaGreatDoor.lawEntries
open Go.ChangeShapes Go.WideShapes Go.ChangeAt Go.RowKit

set_option maxRecDepth 100000 in
theorem lifted (os : Os) (started : os.Started) (H : Type) (enc : TypeId × Value → H) (F : Stop.Interp) :
    ReturnsInHanded {} Tryz.checked os 4 .any ((Rows.OpenSpec.upto Rows.builtinEntriesSpec).preRow enc Tryz.prog Tryz.f4 Rows.builtinEntriesUptoRow.domain false Rows.builtinEntriesUptoRow.laid) (((Rows.OpenSpec.upto Rows.builtinEntriesSpec).at F).post enc Tryz.prog Tryz.f4 false true false false) := by
  obtain ⟨x, hx⟩ := reads os enc
  refine returnsInHanded_of_row (C := Tryz.checked) (s := (Rows.OpenSpec.upto Rows.builtinEntriesSpec)) own started (by kernel_rfl) Tryz.func4
    (witness_row_atRef (enc := enc) (C := Tryz.checked) false (laidWorld os) #[.agg #[.int .i64 0, .bool false, .bool false, .string ⟨#[]⟩, .int .i64 0, .int .i64 0, .int .i64 0, .int .i64 0, .int .i64 0, .string ⟨#[]⟩, .slice none 0 0, .slice none 0 0, .slice none 0 0]] rfl (w_ref os) (w_rest os) (w_ok os)
      (OpenSpec.preRow_of_cond 8 hx rfl (fun k hk => by cases hk; kernel_rfl) (sized os enc) (MakeChecks.laidMetH_plain _ _ _ m_plain ▸ met os))) ?_
  intro W base args ds gs before hval hW hcnd hcond hsz hL hsh hass
  exact contract H enc W base args ds gs before hval hW hcond hsz hL hsh
end Go.Proofs.YtaeclmligojlaaaGreatDoor.lawEntries

/- BuiltinEntries: the statement without its card. Conditions: none. -/
namespace Go.Proofs.YtaeclmligojlaaaGreatDoor.lawEntries
open Go.ChangeShapes Go.WideShapes Go.ChangeAt Go.RowKit

theorem named3 : Tryz.pinned.checked.prog.funcNamed Rows.builtinEntriesUptoRow.func = some 4 := by kernel_rfl
theorem inst : Tryz.f4.isInstance Tryz.pinned.checked.prog Rows.builtinEntriesUptoRow.origin Rows.builtinEntriesUptoRow.targs := of_decide_eq_true (by kernel_rfl)
theorem wrapper : Tryz.f4.isWrapper Tryz.pinned.checked.prog Rows.builtinEntriesUptoRow.wrapper Rows.builtinEntriesUptoRow.mainSum := by unfold Func.isWrapper; first | (rw [if_pos (by decide +kernel)]; kernel_rfl) | (rw [if_neg (by decide +kernel)]; exact ⟨rfl, rfl⟩)
theorem closed : joinedFacts Tryz.pinned.checked.prog 4 Tryz.f4 (Rows.OpenSpec.upto Rows.builtinEntriesSpec).bare Rows.builtinEntriesUptoRow = true := by kernel_rfl
theorem said : Rows.BuiltinEntriesUptoSaid :=
  OpenClaim.holds_of_cond 4 Tryz.f4 rfl rfl rfl rfl rfl rfl rfl ⟨rfl, rfl, rfl, rfl, rfl⟩ rfl rfl rfl rfl rfl named3 Tryz.func4 closed inst wrapper
    (fun os started H enc _ F => by rw [OpenClaim.pre_eq_preRow]; exact lifted os started H enc F)
end Go.Proofs.YtaeclmligojlaaaGreatDoor.lawEntries
