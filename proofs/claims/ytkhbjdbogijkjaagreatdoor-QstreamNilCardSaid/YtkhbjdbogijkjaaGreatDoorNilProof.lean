/- QstreamNil: the card. -/
import Derived.Test.YtkhbjdbogijkjaaGreatDoorNilSaid
namespace Go.Proofs.YtkhbjdbogijkjaaGreatDoor.lawNil
open Go.ChangeShapes Go.WideShapes Go.ChangeAt Go.RowKit

theorem plain (f : FuncId) (fn : Func) (hf : Tryz.pinned.checked.prog.funcNamed "datakit/datakitlaw44.QstreamNil" = some f) (hfn : Tryz.pinned.checked.prog.funcs[f]? = some fn) :
    true = Tryz.pinned.checked.prog.looks [] ∧ ∀ (j : Nat) t, fn.params[j]? = some t → Tryz.pinned.checked.prog.wantsStandIn t = false := by
  obtain rfl : f = 3 := Option.some.inj ((show Tryz.prog.funcNamed "datakit/datakitlaw44.QstreamNil" = some 3 by kernel_rfl).symm.trans hf) |>.symm
  obtain rfl : fn = Tryz.f3 := (Option.some.inj (Tryz.func3.symm.trans hfn)).symm
  refine ⟨by kernel_rfl, fun j t ht => ?_⟩
  rw [Tryz.params3] at ht
  obtain rfl : t = 32 := by simpa using Array.mem_of_getElem? ht
  exact (show Tryz.prog.wantsStandIn 32 = false by kernel_rfl)

theorem wfText : Rows.qstreamNilRow.wfByText (OpenSpec.ofChange Rows.qstreamNilSpec) = true := by kernel_rfl
theorem mainIs : Tryz.pinned.checked.prog.mainIs = some (true, "fd80b77237414b899555f2ad200d4712662c344e42e43d5e098bd213633d5248".toList) := by kernel_rfl
theorem no_go : Tryz.pinned.checked.prog.funcs.toList.all (fun f => !f.goes) = true := by kernel_rfl
theorem goes_none {P : Program} (h : P.funcs.toList.all (fun f => !f.goes) = true) (f : FuncId) : P.goes f = false := by
  have hf : ∀ fn : Func, fn ∈ P.funcs.toList → fn.goes = false := fun fn hm => by simpa using List.all_eq_true.1 h fn hm
  have ho : ∀ g : FuncId, (P.funcs[g]?).any Func.goes = false := fun g => by
    cases hx : P.funcs[g]? with
    | none => rfl
    | some fn => exact hf fn (Array.mem_toList_iff.2 (Array.mem_of_getElem? hx))
  have ha : P.funcs.any Func.goes = false := by
    rw [← Array.any_toList]
    cases hb : P.funcs.toList.any Func.goes with
    | false => rfl
    | true =>
      obtain ⟨fn, hm, hg⟩ := List.any_eq_true.1 hb
      rw [hf fn hm] at hg
      cases hg
  unfold Program.goes
  rw [ha]
  cases hb : (P.closure f).any fun g => (P.funcs[g]?).any Func.goes with
  | false => simp
  | true =>
    obtain ⟨g, _, hg⟩ := List.any_eq_true.1 hb
    rw [ho g] at hg
    cases hg
theorem goes : false = Rows.qstreamNilRow.goesBy Tryz.pinned.checked.prog := by
  unfold OpenClaim.goesBy Program.goesAt Program.goesFrom
  have hn : Tryz.pinned.checked.prog.funcNamed Rows.qstreamNilRow.func = some 3 := named3
  rw [hn, Option.any_some, goes_none no_go 3]
  rfl
theorem card : Rows.QstreamNilCardSaid :=
  Claim7.holds_tied_plain_at .later [] _ _ _ _ said (fun _ h => by cases h) wfText (fun _ h => by cases h) NilTie.row_tie rfl ⟨rfl, rfl⟩ mainIs rfl plain goes
#print axioms card

end Go.Proofs.YtkhbjdbogijkjaaGreatDoor.lawNil
