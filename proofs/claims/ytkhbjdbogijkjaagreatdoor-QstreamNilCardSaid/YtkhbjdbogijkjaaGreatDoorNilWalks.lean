/- The walks of QstreamNil: at a nil machine Feed and End hand back nothing and ErrState, Held hands back 0, Raised the zero value; the reference calls two zero values the same; the law returns true. Conditions: none. -/
import Derived.Test.YtkhbjdbogijkjaaGreatDoorProg
import Derived.WalkKit
import Derived.WalkSpells
import Derived.WalkLawsBesides
namespace Go.Proofs.YtkhbjdbogijkjaaGreatDoor.NilWalks
open Go.RowKit

theorem held_nil (w : World) : Calls Tryz.prog 6 #[.pointer none] w fun e w' => e = .returned (.int .i64 0) ∧ w = w' := by
  go_enter Tryz.func6, Tryz.ntmps6
  go_wp2
  go_ret
  exact ⟨rfl, rfl⟩

theorem feed_nil (cs : Array Value) (w : World) : Calls Tryz.prog 4 #[.pointer none, .agg cs] w fun e w' => e = .returned (.tuple #[.slice none 0 0, .int .i64 29]) ∧ Below w.heap.size w w' := by
  go_enter Tryz.func4, Tryz.ntmps4
  go_wp2
  go_ret2
  exact ⟨rfl, (Below.refl _ _).alloc (Nat.le_refl _) _⟩

theorem end_nil (w : World) : Calls Tryz.prog 5 #[.pointer none] w fun e w' => e = .returned (.tuple #[.slice none 0 0, .int .i64 29]) ∧ w = w' := by
  go_enter Tryz.func5, Tryz.ntmps5
  go_wp2
  go_ret2
  exact ⟨rfl, rfl⟩

/-- The cells of the zero event. -/
def evt : Array Value := #[.int .i64 0, .string ⟨#[]⟩, .int .i64 0, .bool false, .bool false, .string ⟨#[]⟩, .int .i64 0, .int .i64 0, .int .i64 0, .int .i64 0, .int .i64 0, .string ⟨#[]⟩, .slice none 0 0, .slice none 0 0, .slice none 0 0]
/-- The cells of the zero value. -/
def zeroV : Array Value := #[.int .i64 0, .bool false, .bool false, .string ⟨#[]⟩, .int .i64 0, .int .i64 0, .int .i64 0, .int .i64 0, .int .i64 0, .string ⟨#[]⟩, .slice none 0 0, .slice none 0 0, .slice none 0 0]

theorem raised_nil (w : World) : Calls Tryz.prog 8 #[.pointer none] w fun e w' => e = .returned (.agg zeroV) ∧ Below w.heap.size w w' := by
  unfold zeroV
  go_enter Tryz.func8, Tryz.ntmps8
  go_wp2
  exact bodyPost_ret (v := .agg #[.int .i64 0, .bool false, .bool false, .string ⟨#[]⟩, .int .i64 0, .int .i64 0, .int .i64 0, .int .i64 0, .int .i64 0, .string ⟨#[]⟩, .slice none 0 0, .slice none 0 0, .slice none 0 0]) (by simp [results, Tryz.results8, go_sem]) rfl ⟨rfl, (Below.refl _ _).alloc (Nat.le_refl _) _⟩

set_option maxRecDepth 100000 in
set_option maxHeartbeats 1000000 in
theorem same_zero (w : World) : Calls Tryz.prog 7 #[.agg zeroV, .agg zeroV] w fun e w' => e = .returned (.bool true) ∧ Below w.heap.size w w' := by
  unfold zeroV
  have kc := fun (w : World) => run_convert_bytes_nil (P := Tryz.prog) w 26 5 Tryz.underlying26 Tryz.underlying5 0 0 9 Tryz.underlying9
  go_enter Tryz.func7, Tryz.ntmps7
  go_wp2
  refine wp_loop_rounds 1 ?_
  rw [rounds_succ]
  go_wp2
  refine wp_loop_rounds 1 ?_
  rw [rounds_succ]
  go_wp2
  go_ret
  exact ⟨rfl, ((Below.refl _ _).alloc (Nat.le_refl _) _).alloc (by simp) _⟩

set_option maxHeartbeats 1000000 in
theorem law (cs : Array Value) (hc : cs.size = 15) (w : World) : Calls Tryz.prog 3 #[.agg cs] w fun e w' => e = .returned (.bool true) ∧ Below w.heap.size w w' := by
  obtain ⟨l⟩ := cs
  match l, hc with
  | [c0, c1, c2, c3, c4, c5, c6, c7, c8, c9, c10, c11, c12, c13, c14], _ =>
  go_enter Tryz.func3, Tryz.ntmps3
  go_wp2_with fail
  refine (feed_nil _ _).mono ?_
  rintro e w1 ⟨rfl, hb1⟩
  go_wp2_with fail
  refine (end_nil _).mono ?_
  rintro e w2 ⟨rfl, rfl⟩
  go_wp2_with fail
  refine (held_nil _).mono ?_
  rintro e w3 ⟨rfl, rfl⟩
  go_wp2_with fail
  refine (raised_nil _).mono ?_
  rintro e w4 ⟨rfl, hb4⟩
  go_wp2_with fail
  refine (same_zero _).mono ?_
  rintro e w5 ⟨rfl, hb5⟩
  go_wp2_with fail
  go_ret
  exact ⟨rfl, (((Below.refl _ _).alloc (Nat.le_refl _) _).trans (hb1.mono (by simp))).trans ((hb4.mono (by have := hb1.size; simp at this; omega)).trans (hb5.mono (by have := hb1.size; have := hb4.size; simp at *; omega)))⟩
end Go.Proofs.YtkhbjdbogijkjaaGreatDoor.NilWalks
