/- BuiltinEntries: the card. Conditions: those of the statement. -/
import Derived.Test.YtaeclmligojlaaaGreatDoorBA
import Derived.Test.YtaeclmligojlaaaGreatDoorTie
import Derived.SevenTiedAt
/- BuiltinEntries: the card. Conditions: those of the statement. -/
namespace Go.Proofs.YtaeclmligojlaaaGreatDoor.lawEntries
open Go.ChangeShapes Go.WideShapes Go.ChangeAt Go.RowKit

theorem wfText : Rows.builtinEntriesUptoRow.wfByText (Rows.OpenSpec.upto Rows.builtinEntriesSpec) = true := by kernel_rfl
theorem mainIs : Tryz.pinned.checked.prog.mainIs = some (true, "fef05286fa9f86435fb10662b43e579e9a3a5485f2208009ac5de32a12aa63c0".toList) := by kernel_rfl
theorem plain (f : FuncId) (fn : Func) (hf : Tryz.pinned.checked.prog.funcNamed "datakit/datakitlaw37.BuiltinEntries" = some f) (hfn : Tryz.pinned.checked.prog.funcs[f]? = some fn) :
    true = Tryz.pinned.checked.prog.looks [] ∧ ∀ (j : Nat) t, fn.params[j]? = some t → Tryz.pinned.checked.prog.wantsStandIn t = false := by
  obtain rfl : f = 4 := Option.some.inj ((show Tryz.prog.funcNamed "datakit/datakitlaw37.BuiltinEntries" = some 4 by kernel_rfl).symm.trans hf) |>.symm
  obtain rfl : fn = Tryz.f4 := (Option.some.inj (Tryz.func4.symm.trans hfn)).symm
  refine ⟨by kernel_rfl, fun j t ht => ?_⟩
  have hall : Tryz.f4.params.toList.all (fun t => !Tryz.prog.wantsStandIn t) = true := by kernel_rfl
  have := List.all_eq_true.1 hall t (Array.mem_toList_iff.2 (Array.mem_of_getElem? ht))
  show Tryz.prog.wantsStandIn t = false
  simpa using this
theorem no_go : Tryz.pinned.checked.prog.funcs.toList.all (fun f => !f.goes) = true := by kernel_rfl
theorem goes_none {P : Program} (h : P.funcs.toList.all (fun f => !f.goes) = true) (f : FuncId) : P.goes f = false := by
  have hf : ∀ fn : Func, fn ∈ P.funcs.toList → fn.goes = false := fun fn hm => by simpa using List.all_eq_true.1 h fn hm
  have ho : ∀ g : FuncId, (P.funcs[g]?).any Func.goes = false := fun g => by
    cases hx : P.funcs[g]? with
    | none => rfl
    | some fn => exact hf fn (Array.mem_toList_iff.2 (Array.mem_of_getElem? hx))
  have ha : P.funcs.any Func.goes = false := by
    rw [← Array.any_toList]
    cases hb : P.funcs.toList.any Func.goes with
    | false => rfl
    | true =>
      obtain ⟨fn, hm, hg⟩ := List.any_eq_true.1 hb
      rw [hf fn hm] at hg
      cases hg
  unfold Program.goes
  rw [ha]
  cases hb : (P.closure f).any fun g => (P.funcs[g]?).any Func.goes with
  | false => simp
  | true =>
    obtain ⟨g, _, hg⟩ := List.any_eq_true.1 hb
    rw [ho g] at hg
    cases hg
theorem goes : false = Rows.builtinEntriesUptoRow.goesBy Tryz.pinned.checked.prog := by
  unfold OpenClaim.goesBy Program.goesAt Program.goesFrom
  have hn : Tryz.pinned.checked.prog.funcNamed Rows.builtinEntriesUptoRow.func = some 4 := named3
  rw [hn, Option.any_some, goes_none no_go 4]
  rfl
theorem card : Rows.BuiltinEntriesUptoCardSaid :=
  Claim7.holds_tied_plain_at .later [] _ _ _ _ said (fun _ h => by cases h) wfText (fun _ h => by cases h) builtinEntriesUpto_row_tie rfl ⟨rfl, rfl⟩ mainIs rfl plain goes
#print axioms card
end Go.Proofs.YtaeclmligojlaaaGreatDoor.lawEntries
